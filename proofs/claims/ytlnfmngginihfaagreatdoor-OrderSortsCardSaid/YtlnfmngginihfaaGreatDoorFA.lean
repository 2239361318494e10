/- package format: Decode, where it hands back a float. -/
import Derived.Test.YtlnfmngginihfaaGreatDoorF9
set_option linter.unusedVariables false
set_option linter.unusedSimpArgs false
namespace Go.Proofs.YtlnfmngginihfaaGreatDoor
open Go.RowKit
attribute [local go_sem ↓] Go.wp_at_zero Go.wp_at_succ
set_option maxHeartbeats 8000000 in
set_option maxRecDepth 100000 in
theorem decode_good (k p : Int) (A : Option Addr) (c : Nat) (xs : List Nat) (w : World) (hT : Tab w) (h : Rd w A c xs) (hl : xs.length ≤ 4096) (hR : Rgt k p) (hlen : bl (val xs) ≤ k + p) :
    Calls Tryz.prog 46 #[.agg #[.int .i64 k, .int .i64 p], .slice A xs.length c] w (FErr w 0 (decF k p (val xs))) := by
  have hd : decide ((4096 : Int) < (xs.length : Int)) = false := by simp; omega
  have hd2 : decide (k + p < (bl (val xs) : Int)) = false := by simpa using hlen
  have hrng := fun w => range_yes k p w hR
  have hlc := fun w h => len_c A c xs w h (by omega)
  obtain ⟨hk1, hk2, hp1, hp2⟩ := hR
  have hw1 : IntKind.i64.wrap (k + p) = k + p := by rw [IntKind.wrap_i64]; omega
  have hE0 := ((Ext.refl w).al (Obj.cells #[.int .i64 k, .int .i64 p] 23)).al (Obj.cells #[.int .i64 0, .bool false, .int .i64 0, .slice none 0 0] 40)
  have hF0 := (Bf.new w (.int .i64 k) (.int .i64 p)).ext ((Ext.refl _).al (Obj.cells #[.int .i64 0, .bool false, .int .i64 0, .slice none 0 0] 40))
  have hX0 := Bx.new (w.alloc (Obj.cells #[.int .i64 k, .int .i64 p] 23)) (.int .i64 0) (.bool false) (.int .i64 0) (.slice none 0 0)
  rw [World.size_alloc] at hX0
  go_enter Tryz.func46, Tryz.ntmps46
  go_wp2_with (go_at_call 64; refine (hrng _).mono ?_; rintro e w1 ⟨rfl, hb⟩; obtain ⟨r0, r1, r2, r3, rf⟩ := (hX0.ext hb).facts; obtain ⟨f0, f1⟩ := (hF0.ext hb).facts; have hz := (hX0.ext hb).lt)
  have hE1 := hE0.tr hb
  have hr1 := (h.ext hE0).ext hb
  go_region_held3 (fun w' => w'.cell? ⟨w.heap.size, 0, none⟩ = some (.int .i64 k)) (go_keep)
    (first | (go_at_call 65; refine (hlc _ (by first | exact hr1 | exact hr1.drew)).mono ?_; rintro e w3 ⟨rfl, n, rfl⟩))
  have hE2 := hE1.drewN (1 + n)
  have hF2 := (hF0.ext hb).ext ((Ext.refl w1).drewN (1 + n))
  have hX2 := (hX0.ext hb).ext ((Ext.refl w1).drewN (1 + n))
  have hr2 := hr1.ext ((Ext.refl w1).drewN (1 + n))
  clear r0 r1 r2 r3 rf f0 f1 hz hr1 hE1 hrng hlc hd
  go_wp2_with fail
  generalize w1.drewN (1 + n) = W at *
  have hP : (p - 1).toNat = p.toNat - 1 := by omega
  have hS : (k + p - 1).toNat = k.toNat + p.toNat - 1 := by omega
  have hbit := fun w h => bit_i A c xs (k + p - 1) w h (by omega) (by omega)
  have hshr := fun w h => shr_i A c xs (p - 1) w h (by omega) (by omega) (by omega)
  rw [hS] at hbit
  rw [hP] at hshr
  have hHl := cn_len_of_le h.w64 (Nat.div_le_self (val xs) (2 ^ (p.toNat - 1)))
  have hshl := fun A c w h => shl_i A c (cn (val xs / 2 ^ (p.toNat - 1))) (p - 1) w h (by omega) (by omega) (by omega)
  rw [val_cn, hP] at hshl
  have hsub := fun A5 c5 w h h' => sub_c A A5 c c5 xs (cn (val xs / 2 ^ (p.toNat - 1) * 2 ^ (p.toNat - 1))) w h h' (by rw [val_cn]; exact Nat.div_mul_le_self _ _) (by omega)
  rw [val_cn, show val xs - val xs / 2 ^ (p.toNat - 1) * 2 ^ (p.toNat - 1) = dL p (val xs) by unfold dL; rw [Nat.mod_def, Nat.mul_comm]] at hsub
  have hdB : dB k p (val xs) = val xs / 2 ^ (p.toNat - 1) % 2 ^ k.toNat := rfl
  have hdN : dN k p (val xs) = (val xs).testBit (k.toNat + p.toNat - 1) := rfl
  rw [← hdN] at hbit
  have HDB := Lib.hid hdB
  clear hdB hdN hP hS
  generalize val xs / 2 ^ (p.toNat - 1) * 2 ^ (p.toNat - 1) = HP at *
  generalize val xs / 2 ^ (p.toNat - 1) = H at *
  refine (hbit _ hr2).mono ?_
  rintro e w3 ⟨rfl, n3, rfl⟩
  have hA3 := (Ext.refl W).drewN n3
  have hE3 := hE2.tr hA3
  have hF3 := hF2.ext hA3
  have hX3 := hX2.ext hA3
  have hr3 := hr2.ext hA3
  clear hE2 hF2 hX2 hr2 hbit hA3
  go_wp2_with fail
  refine (hshr _ hr3).mono ?_
  rintro e w4 ⟨v, rfl, ho4, hb4⟩
  obtain ⟨A4, c4, rfl, hr4⟩ := ho4.rd
  go_wp2_with fail
  refine (hshl _ _ _ hr4).mono ?_
  rintro e w5 ⟨v, rfl, ho5, hb5⟩
  obtain ⟨A5, c5, rfl, hr5⟩ := ho5.rd
  go_wp2_with fail
  refine (hsub _ _ _ ((hr3.ext hb4).ext hb5) hr5).mono ?_
  rintro e w6 ⟨v, rfl, ho6, hb6⟩
  obtain ⟨A6, c6, rfl, hr6⟩ := ho6.rd
  have hE6 := ((hE3.tr hb4).tr hb5).tr hb6
  have hF6 := ((hF3.ext hb4).ext hb5).ext hb6
  have hX6 := ((hX3.ext hb4).ext hb5).ext hb6
  have hrH := (hr4.ext hb5).ext hb6
  have ho := ho6.low ((hE3.tr hb4).tr hb5).size
  obtain ⟨f0, f1⟩ := hF6.facts
  clear hshr hshl hsub hr3 hr4 hr5 ho4 ho5 ho6 hF3 hX3 hb4 hb5 hb6 hb hE3
  go_wp2_with fail
  go_loopw [14, 61] (fun v14 v61 wr => ∃ i : Nat, (i : Int) ≤ k ∧ v14 = .int .i64 ((H % 2 ^ i : Nat) : Int) ∧ v61 = .int .i64 i ∧ ∃ n, wr = w6.drewN n) (fun _ v _ => k.toNat - (intOf v).toNat)
  case atStart => exact ⟨0, by omega, by simp [Nat.mod_one], rfl, 0, rfl⟩
  case round =>
    obtain ⟨i, hi, rfl, rfl, nn, rfl⟩ := hrel
    by_cases hlt : (i : Int) < k
    · have hlt2 : decide ((i : Int) < k) = true := by simpa using hlt
      have hbit := fun w h => bit_c A4 c4 (cn H) i w h (by omega)
      rw [val_cn] at hbit
      have hor := or_bit H i (by omega)
      have hno := mod_bit H i
      have hpw := wrap_pow15 i (by omega)
      have hii : IntKind.i64.wrap ((i : Int) + 1) = ((i + 1 : Nat) : Int) := by rw [IntKind.wrap_i64]; omega
      cases hb : H.testBit i
      · rw [hb] at hbit hno
        replace hno : H % 2 ^ (i + 1) = H % 2 ^ i := hno
        have HNO := Lib.hid hno
        clear hno hor
        generalize H % 2 ^ i = bv at *
        go_wp2_with (go_at_call 72; refine (hbit _ (hrH.drewN nn)).mono ?_; rintro e w7 ⟨rfl, n7, rfl⟩)
        go_roundw
        case rel => exact ⟨i + 1, by omega, by rw [HNO.out], by go_num, _, rfl⟩
        case measure => simp [intOf]; omega
      · rw [hb] at hbit
        replace hor := hor hb
        clear hno
        obtain ⟨bn, hbn⟩ : ∃ bn, H % 2 ^ (i + 1) = bn := ⟨_, rfl⟩
        rw [hbn] at hor
        have HNO := Lib.hid hbn
        clear hbn
        generalize H % 2 ^ i = bv at *
        go_wp2_with (go_at_call 72; refine (hbit _ (hrH.drewN nn)).mono ?_; rintro e w7 ⟨rfl, n7, rfl⟩)
        go_roundw
        case rel => exact ⟨i + 1, by omega, by rw [HNO.out], by go_num, _, rfl⟩
        case measure => simp [intOf]; omega
    · obtain rfl : i = k.toNat := by omega
      have hbv := HDB.out
      rw [← hbv]
      have hlt2 : decide (((k.toNat : Nat) : Int) < k) = false := by simp; omega
      have hA := (Ext.refl w6).drewN nn
      have hE7 := hE6.tr hA
      have hF7 := hF6.ext hA
      have hX7 := hX6.ext hA
      have hr7 := hr6.ext hA
      have ho7 := ho.ext hA
      clear hE6 hF6 hX6 hr6 ho f0 f1 hrH hlt hA
      generalize w6.drewN nn = W7 at *
      obtain ⟨f0, f1⟩ := hF7.facts
      obtain ⟨x0, x1, x2, x3, xf⟩ := hX7.facts
      have hz0 := hF7.lt
      have hz1 := hX7.lt
      have hone := wrap_ones_i hk1 hk2
      obtain ⟨hg1, hg2⟩ := gr_bd hk1 hk2
      have hDLl := cn_len_of_le h.w64 (show dL p (val xs) ≤ val xs from Nat.mod_le _ _)
      have hzero := fun w h => zero_c A6 c6 (cn (dL p (val xs))) w h
      rw [val_cn] at hzero
      have hcan := @dec_can k p (val xs) hk1 hk2 hp1 hp2
      have hdM : dM k p (val xs) = if dB k p (val xs) = 0 then dL p (val xs) else dL p (val xs) + 2 ^ (p - 1).toNat := by unfold dM; rw [show (p - 1).toNat = p.toNat - 1 by omega]
      have hdE : dE k p (val xs) = if dB k p (val xs) = 0 then ti k p else dB k p (val xs) - gr k - p + 1 := rfl
      have hdF : decF k p (val xs) = if dB k p (val xs) = 2 ^ k.toNat - 1 then (if dL p (val xs) = 0 then ⟨2, dN k p (val xs), 0, 0⟩ else ⟨3, false, 0, 0⟩)
        else if dB k p (val xs) = 0 ∧ dL p (val xs) = 0 then ⟨0, dN k p (val xs), 0, 0⟩
        else ⟨1, dN k p (val xs), dE k p (val xs) + tz (dM k p (val xs)), dM k p (val xs) / 2 ^ tz (dM k p (val xs))⟩ := rfl
      have HC := Lib.hid hcan
      have HM := Lib.hid hdM
      have HE := Lib.hid hdE
      have HF := Lib.hid hdF
      have hq1 : 1 ≤ 2 ^ k.toNat - 1 := by
        have : 2 ^ 1 ≤ 2 ^ k.toNat := Nat.pow_le_pow_right (by omega) (by omega)
        omega
      clear hcan hdM hdE hdF HDB hbv
      generalize decF k p (val xs) = DF at *
      generalize dM k p (val xs) = DM at *
      generalize dE k p (val xs) = DE at *
      generalize dB k p (val xs) = DB at *
      generalize dN k p (val xs) = DN at *
      generalize dL p (val xs) = DL at *
      generalize bl (val xs) = ℓ at *
      generalize 2 ^ k.toNat - 1 = q at *
      generalize le k = L at *
      generalize gr k = G at *
      generalize ti k p = T at *
      have hEA := hE7.al (Obj.cells #[Value.int IntKind.i64 1, Value.bool DN, Value.int IntKind.i64 T, Value.slice A6 (cn DL).length c6] 40)
      have hXA := hX7.ext ((Ext.refl W7).al (Obj.cells #[Value.int IntKind.i64 1, Value.bool DN, Value.int IntKind.i64 T, Value.slice A6 (cn DL).length c6] 40))
      have hrA := hr7.ext ((Ext.refl W7).al (Obj.cells #[Value.int IntKind.i64 1, Value.bool DN, Value.int IntKind.i64 T, Value.slice A6 (cn DL).length c6] 40))
      by_cases hbq : DB = q
      · subst hbq
        rw [if_pos rfl] at HF
        by_cases hL0 : DL = 0
        · rw [if_pos hL0] at HF
          rw [decide_eq_true hL0] at hzero
          clear HC HM HE hL0
          go_wp2_with (first
            | (go_at_call 74; refine (hzero _ hrA).mono ?_; rintro e w8 ⟨rfl, n8, rfl⟩))
          obtain ⟨q0, q1, q2, q3, -⟩ := ((hXA.ext ((Ext.refl _).drewN n8)).put (.int .i64 2) (.bool DN) (.int .i64 0) (.slice none 0 0)).facts
          refine bodyPost_ret (v := .tuple #[flV 2 DN 0 (.slice none 0 0), .int .i64 0]) (by simp [results, Tryz.results46, go_sem, q0, q1, q2, q3]) rfl ?_
          rw [HF.out]
          exact FErr.plain (by repeat (with_reducible first | exact hE7 | refine Ext.set ?_ (by omega) _ _ | refine Ext.al ?_ _ | refine Ext.drewN ?_ _ | refine Ext.drew ?_))
        · rw [if_neg hL0] at HF
          rw [decide_eq_false hL0] at hzero
          clear HC HM HE hL0
          go_wp2_with (first
            | (go_at_call 74; refine (hzero _ hrA).mono ?_; rintro e w8 ⟨rfl, n8, rfl⟩))
          obtain ⟨q0, q1, q2, q3, -⟩ := ((hXA.ext ((Ext.refl _).drewN n8)).put (.int .i64 3) (.bool false) (.int .i64 0) (.slice none 0 0)).facts
          refine bodyPost_ret (v := .tuple #[flV 3 false 0 (.slice none 0 0), .int .i64 0]) (by simp [results, Tryz.results46, go_sem, q0, q1, q2, q3]) rfl ?_
          rw [HF.out]
          exact FErr.plain (by repeat (with_reducible first | exact hE7 | refine Ext.set ?_ (by omega) _ _ | refine Ext.al ?_ _ | refine Ext.drewN ?_ _ | refine Ext.drew ?_))
      · rw [if_neg hbq] at HF
        have hbe : ((DB : Int) == (q : Int)) = false := by rw [beq_eq_false_iff_ne]; omega
        have hB := Bx.new W7 (.int .i64 1) (.bool DN) (.int .i64 T) (.slice A6 (cn DL).length c6)
        have hdl : (cn DL).length ≤ 10000000 := by omega
        by_cases hb0 : DB = 0
        · subst hb0
          rw [if_pos rfl] at HM HE
          by_cases hL0 : DL = 0
          · rw [if_pos ⟨rfl, hL0⟩] at HF
            rw [decide_eq_true hL0] at hzero
            clear HC HM HE hL0
            go_wp2_with (first
              | (go_at_call 74; refine (hzero _ hrA).mono ?_; rintro e w8 ⟨rfl, n8, rfl⟩))
            obtain ⟨q0, q1, q2, q3, -⟩ := ((hXA.ext ((Ext.refl _).drewN n8)).put (.int .i64 0) (.bool DN) (.int .i64 0) (.slice none 0 0)).facts
            refine bodyPost_ret (v := .tuple #[flV 0 DN 0 (.slice none 0 0), .int .i64 0]) (by simp [results, Tryz.results46, go_sem, q0, q1, q2, q3]) rfl ?_
            rw [HF.out]
            exact FErr.plain (by repeat (with_reducible first | exact hE7 | refine Ext.set ?_ (by omega) _ _ | refine Ext.al ?_ _ | refine Ext.drewN ?_ _ | refine Ext.drew ?_))
          · obtain ⟨e1, e2, e3, e4, e5, e6, -⟩ := HC.out hbq (fun h => hL0 h.2)
            rw [HM.out, HE.out] at e5
            rw [decide_eq_false hL0] at hzero
            have hcl := fun w hT h => canonical_c 1 DN T A6 c6 (cn DL) w hT h hdl
            rw [val_cn, e5] at hcl
            clear HC HF hL0 e1 e2 e3 e4 e5 e6
            go_wp2_with (first
              | (go_at_call 74; refine (hzero _ hrA).mono ?_; rintro e w8 ⟨rfl, n8, rfl⟩; obtain ⟨y0, y1, y2, y3, yf⟩ := (hB.ext ((Ext.refl _).drewN n8)).facts))
            refine (hcl _ (hT.ext (hEA.drewN n8)) (hrA.drewN n8)).mono ?_
            rintro e w9 ⟨u, rfl, hb9, hfl, -⟩
            obtain ⟨v, rfl, ho9⟩ := hfl _ rfl
            obtain ⟨A9, c9, rfl, hr9⟩ := ho9.rd
            have hXB := (hXA.ext ((Ext.refl _).drewN n8)).ext hb9
            have hBB := (hB.ext ((Ext.refl _).drewN n8)).ext hb9
            have hEB := (hEA.drewN n8).tr hb9
            obtain ⟨x0, x1, x2, x3, xf⟩ := hXB.facts
            obtain ⟨y0, y1, y2, y3, yf⟩ := hBB.facts
            have hBl := hBB.lt
            have hXl := hXB.lt
            simp only [Option.isSome]
            clear hr7 hrA hX7 hF7 hEA hzero
            go_wp2
            have hne : ¬ w.heap.size + 1 = W7.heap.size := by omega
            have hge := hE7.size
            have hsz : ((W7.alloc (Obj.cells #[Value.int IntKind.i64 1, Value.bool DN, Value.int IntKind.i64 T, Value.slice A6 (cn DL).length c6] 40)).drewN n8).heap.size = W7.heap.size + 1 := World.size_alloc ..
            obtain ⟨q0, q1, q2, q3, -⟩ := ((hXB.apart hne (.int .i64 DF.kind) (.bool DF.neg) (.int .i64 DF.exp) (.slice A9 (cn DF.mag).length c9)).put (.int .i64 DF.kind) (.bool DF.neg) (.int .i64 DF.exp) (.slice A9 (cn DF.mag).length c9)).facts
            refine bodyPost_ret (v := .tuple #[flV DF.kind DF.neg DF.exp (.slice A9 (cn DF.mag).length c9), .int .i64 0]) (by simp [results, Tryz.results46, go_sem, q0, q1, q2, q3]) rfl ?_
            have hfo := ((ho9.putBelow (g := W7.heap.size) (by omega) (.int .i64 DF.kind) (.bool DF.neg) (.int .i64 DF.exp) (.slice A9 (cn DF.mag).length c9)).putBelow (g := w.heap.size + 1) (by omega) (.int .i64 DF.kind) (.bool DF.neg) (.int .i64 DF.exp) (.slice A9 (cn DF.mag).length c9)).low (show w.heap.size ≤ _ by omega)
            exact ⟨_, rfl, ⟨_, rfl, hfo⟩, (hEB.put (by omega) _ _ _ _).put (by omega) _ _ _ _⟩
        · obtain ⟨e1, e2, e3, e4, e5, e6, -⟩ := HC.out hbq (fun h => hb0 h.1)
          have e7 := HM.out
          have e8 := HE.out
          rw [if_neg hb0] at e7 e8
          have hpos : decide ((0 : Int) < (DB : Int)) = true := by simp; omega
          have hb0' : ((DB : Int) == 0) = false := by rw [beq_eq_false_iff_ne]; omega
          have hone1 := fun w => shl1_c (p - 1) w (by omega) (by omega)
          have hlM := cn_len_mono (show 2 ^ (p - 1).toNat ≤ DM by omega)
          have hlM2 : (cn DM).length ≤ 10000000 := by
            have h1 := (bl_le DM 320).1 (by omega)
            have h2 := cn_len_pow (k := 5) h1 (by omega)
            omega
          have hlM3 := Nat.le_trans hlM hlM2
          generalize 2 ^ (p - 1).toNat = M1 at *
          have hcl := fun A6 c6 w hT h => canonical_c 1 DN DE A6 c6 (cn DM) w hT h hlM2
          rw [val_cn, e5] at hcl
          rw [e7, e8] at hcl
          clear HC HM HE HF hlM hlM2 hzero e4 e5
          have hone2 := hone1 (W7.alloc (Obj.cells #[Value.int IntKind.i64 1, Value.bool DN, Value.int IntKind.i64 T, Value.slice A6 (cn DL).length c6] 40))
          rw [World.size_alloc] at hone2
          clear hone1
          go_wp2_with fail
          refine hone2.mono ?_
          rintro e w9 ⟨v, rfl, ho9, hb9⟩
          obtain ⟨A9, c9, rfl, hr9⟩ := ho9.rd
          have hA9 := ((Ext.refl (W7.alloc (Obj.cells #[Value.int IntKind.i64 1, Value.bool DN, Value.int IntKind.i64 T, Value.slice A6 (cn DL).length c6] 40))).al (Obj.cells #[Value.int IntKind.u64 1] 45)).tr hb9
          go_wp2_with fail
          refine (add_c A6 A9 c6 c9 _ _ _ (hrA.ext hA9) hr9 (by omega) (by omega)).mono ?_
          rintro e w10 ⟨v, rfl, ho10, hb10⟩
          rw [val_cn, val_cn] at ho10
          obtain ⟨A10, c10, rfl, hr10⟩ := ho10.rd
          have hXB := (hXA.ext hA9).ext hb10
          have hBB := (hB.ext hA9).ext hb10
          have hEB := (hEA.tr hA9).tr hb10
          have hs10 := hA9.size
          rw [World.size_alloc] at hs10
          obtain ⟨x0, x1, x2, x3, xf⟩ := hXB.facts
          obtain ⟨y0, y1, y2, y3, yf⟩ := hBB.facts
          have hBl := hBB.lt
          have hXl := hXB.lt
          have hge := hE7.size
          have hne : ¬ w.heap.size + 1 = W7.heap.size := by omega
          have hbs : W7.heap.size < w9.heap.size := by omega
          go_wp2_with fail
          have hoS := (ho10.setBelow (a := ⟨W7.heap.size, 3, none⟩) hbs (.slice A10 (cn (DL + M1)).length c10)).setBelow (a := ⟨W7.heap.size, 2, none⟩) hbs (.int .i64 ((DB : Int) - G - p + 1))
          have hES := (hEB.set (g := W7.heap.size) hge 3 (.slice A10 (cn (DL + M1)).length c10)).set (g := W7.heap.size) hge 2 (.int .i64 ((DB : Int) - G - p + 1))
          have hXS : Bx ((w10.setCell ⟨W7.heap.size, 3, none⟩ (.slice A10 (cn (DL + M1)).length c10)).setCell ⟨W7.heap.size, 2, none⟩ (.int .i64 ((DB : Int) - G - p + 1))) (w.heap.size + 1) (.int .i64 0) (.bool false) (.int .i64 0) (.slice none 0 0) := by
            refine ⟨?_⟩
            rw [Below.heap_setCell _ _ _ _ (by simpa using hne), Below.heap_setCell _ _ _ _ (by simpa using hne)]
            exact hXB.h
          have hBS := (hBB.s3 (.slice A10 (cn (DL + M1)).length c10)).s2 (.int .i64 ((DB : Int) - G - p + 1))
          generalize ((w10.setCell ⟨W7.heap.size, 3, none⟩ (.slice A10 (cn (DL + M1)).length c10)).setCell ⟨W7.heap.size, 2, none⟩ (.int .i64 ((DB : Int) - G - p + 1))) = WS at *
          obtain ⟨A11, c11, hAc, hr11⟩ := hoS.rd
          injection hAc with i1 i2 i3
          subst i1 i3
          clear x0 x1 x2 x3 xf y0 y1 y2 y3 yf
          refine (hcl A10 c10 _ (hT.ext hES) hr11).mono ?_
          rintro e w12 ⟨u, rfl, hb12, hfl, -⟩
          obtain ⟨v, rfl, ho12⟩ := hfl _ rfl
          obtain ⟨A12, c12, rfl, hr12⟩ := ho12.rd
          have hXC := hXS.ext hb12
          have hBC := hBS.ext hb12
          have hEC := hES.tr hb12
          obtain ⟨x0, x1, x2, x3, xf⟩ := hXC.facts
          obtain ⟨y0, y1, y2, y3, yf⟩ := hBC.facts
          have hBl2 := hBC.lt
          have hXl2 := hXC.lt
          have hBl3 := hBS.lt
          have hXl3 := hXS.lt
          simp only [Option.isSome]
          clear hr7 hrA hX7 hF7 hEA
          go_wp2
          obtain ⟨q0, q1, q2, q3, -⟩ := ((hXC.apart hne (.int .i64 DF.kind) (.bool DF.neg) (.int .i64 DF.exp) (.slice A12 (cn DF.mag).length c12)).put (.int .i64 DF.kind) (.bool DF.neg) (.int .i64 DF.exp) (.slice A12 (cn DF.mag).length c12)).facts
          refine bodyPost_ret (v := .tuple #[flV DF.kind DF.neg DF.exp (.slice A12 (cn DF.mag).length c12), .int .i64 0]) (by simp [results, Tryz.results46, go_sem, q0, q1, q2, q3]) rfl ?_
          have hfo := ((ho12.putBelow (g := W7.heap.size) hBl3 (.int .i64 DF.kind) (.bool DF.neg) (.int .i64 DF.exp) (.slice A12 (cn DF.mag).length c12)).putBelow (g := w.heap.size + 1) hXl3 (.int .i64 DF.kind) (.bool DF.neg) (.int .i64 DF.exp) (.slice A12 (cn DF.mag).length c12)).low hES.size
          exact ⟨_, rfl, ⟨_, rfl, hfo⟩, (hEC.put hge _ _ _ _).put (by omega) _ _ _ _⟩
theorem decode_c (k p : Int) (A : Option Addr) (c : Nat) (xs : List Nat) (w : World) (hT : Tab w) (h : Rd w A c xs) :
    Calls Tryz.prog 46 #[.agg #[.int .i64 k, .int .i64 p], .slice A xs.length c] w (FErr w (decE k p xs) (if decE k p xs = 0 then decF k p (val xs) else ⟨0, false, 0, 0⟩)) := by
  unfold decE
  by_cases hl : 4096 < xs.length
  · simp only [if_pos hl]; rw [if_neg (by omega)]; exact decode_size k p A c xs w hl
  · simp only [if_neg hl]
    by_cases hR : Rgt k p
    · simp only [if_pos hR]
      by_cases hb : k + p < bl (val xs)
      · simp only [if_pos hb]; rw [if_neg (by omega)]; exact decode_long k p A c xs w h (by omega) hR hb
      · simp only [if_neg hb]; rw [if_pos trivial]; exact decode_good k p A c xs w hT h (by omega) hR (by omega)
    · simp only [if_neg hR]; rw [if_neg (by omega)]; exact decode_fmt k p A c xs w (by omega) hR
end Go.Proofs.YtlnfmngginihfaaGreatDoor
