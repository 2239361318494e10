/- FormatOwn: the walk. -/
import Derived.Test.YtgkojhhodncpbaaDoorV1
import Derived.Test.YtgkojhhodncpbaaDoorT9
import Derived.Test.YtgkojhhodncpbaaDoorG2
import Derived.Test.YtgkojhhodncpbaaDoorQ0
set_option linter.unusedVariables false
set_option linter.unusedSimpArgs false
namespace Go.Proofs.YtgkojhhodncpbaaDoor
open Go.RowKit

set_option exponentiation.threshold 1000 in
theorem encN_len (k p : Int) (a : FA) : (cn (encN k p a)).length ≤ 6 := by
  by_cases h0 : fltE k p a = 0
  · obtain ⟨hR, hl, f, hcan, hin, -⟩ := FlsS_ok h0
    have h1 := encM_len hR (canon_ok hcan) hin
    rw [encN_eq hR h0 hcan]
    obtain ⟨k1, k2, k3, k4⟩ := hR
    refine (cn_len_le _ 6).2 ?_
    have e1 : encM k p f < B ^ 5 := (cn_len_le _ _).1 h1
    have e2 : 2 ^ (k + p - 1).toNat < B ^ 5 := by rw [B_two, ← Nat.pow_mul]; exact Nat.pow_lt_pow_right (by omega) (by omega)
    have e3 : 2 * B ^ 5 ≤ B ^ 6 := by rw [Nat.pow_succ B 5, Nat.mul_comm]; exact Nat.mul_le_mul_left _ two_le_B
    split <;> omega
  · rw [encN_bad h0, show cn 0 = [] from digs_zero B]; simp
theorem capF_len (a : FA) (h : W64 a.xs) (hl : a.xs.length ≤ 40) : (cn (capF a).mag).length ≤ 40 := by
  unfold capF
  rw [if_neg (by omega)]
  cases hc : a.can with
  | none => simp [show cn 0 = [] from digs_zero B]
  | some f => exact Nat.le_trans (cn_len_of_le h (canon_mag hc)) hl
theorem requal_self (k e : Int) (neg : Bool) (A A' : Option Addr) (c c' : Nat) (xs : List Nat) (w : World) (h : Rd w A c xs) (h' : Rd w A' c' xs) :
    Calls Tryd.prog 39 #[flV k neg e (.slice A xs.length c), flV k neg e (.slice A' xs.length c')] w fun z w' => z = .returned (.bool true) ∧ Ext w w' := by
  have h1 := requal_c k k e e neg neg A A' c c' xs xs w h h'
  rwa [show decide (k = k ∧ neg = neg ∧ e = e ∧ xs = xs) = true by simp] at h1
set_option maxHeartbeats 8000000 in
set_option maxRecDepth 100000 in
theorem formatOwn_c (k p : Int) (a : FA) (w : World) (hT : Tab w) (hM : MapT w) (h : Rd w a.A a.c a.xs) :
    Calls Tryd.prog 6 #[.agg #[.int .i64 k, .int .i64 p], a.v] w fun e w' => e = .returned (.bool true) ∧ Ext w w' := by
  obtain ⟨hF, hX, hS, hE⟩ := three_boxes w k p a h _ rfl
  have hsh := short_c _ _ [a] _ hS
  have hall : [a].all (fun b => decide (b.xs.length ≤ 40)) = decide (a.xs.length ≤ 40) := by simp
  rw [hall] at hsh
  clear hall hS
  have HF := Lib.hid hF
  have HX := Lib.hid hX
  have HE := Lib.hid hE
  clear hF hX hE
  by_cases hs : a.xs.length ≤ 40
  rotate_left
  · rw [show decide (a.xs.length ≤ 40) = false by simpa using hs] at hsh
    go_enter Tryd.func6, Tryd.ntmps6
    go_wp2_with (first
      | (go_at_call 26; refine hsh.mono ?_; rintro z w1 ⟨rfl, rfl⟩)
      | (go_at_call 18; refine (awake_c _ (hT.ext HE.out) (hM.ext HE.out)).mono ?_; rintro z w2 ⟨rfl, hb⟩))
    go_ret
    exact ⟨rfl, HE.out.tr hb⟩
  rw [show decide (a.xs.length ≤ 40) = true by simpa using hs] at hsh
  obtain ⟨vec, vneg, vnum, vden, hval⟩ := value_any a h.w64 hs
  have hcan := fun w hT h => ccanon_c a.k a.e a.neg a.A a.c a.xs w hT h (by omega)
  have hen := fun w hT h => encode_c k p a w hT h
  have hcp := fun w h => copy_c a.k a.e a.neg a.A a.c a.xs w h (by omega)
  have hth := fun k e neg A n c w => their_c k e neg A n c w
  have hfl := capF_len a h.w64 hs
  have hnl := encN_len k p a
  have hcp1 := fun k e neg (A : Option Addr) c w (h : Rd w A c (cn (capF a).mag)) => copy_c k e neg A c (cn (capF a).mag) w h (by omega)
  have hcp2 := fun (A : Option Addr) c w (h : Rd w A c (cn (encN k p a))) => copy_c 0 0 false A c (cn (encN k p a)) w h (by omega)
  have hq0 := fun A A' c c' w h h' => requal_self a.k a.e a.neg A A' c c' a.xs w h h'
  have hq1 := fun A A' c c' w h h' => requal_self (capF a).kind (capF a).exp (capF a).neg A A' c c' (cn (capF a).mag) w h h'
  have hq2 := fun A A' c c' w h h' => requal_self 0 0 false A A' c c' (cn (encN k p a)) w h h'
  have e1 : (⟨a.k, a.neg, a.e, a.A, a.c, a.xs⟩ : FA) = a := rfl
  rw [e1] at hcan
  clear e1 hfl hnl hs
  generalize capE a = ec at *
  generalize fltE k p a = ge at *
  generalize encN k p a = N at *
  generalize capF a = f at *
  obtain ⟨fk, fn, fe, fm⟩ := f
  obtain ⟨kd, neg, e, A, c, xs⟩ := a
  simp only at hsh HX HE HF hth h hval hcan hen hcp hcp1 hq0 hq1
  go_enter Tryd.func6, Tryd.ntmps6
  go_wp2_with fail
  refine hsh.mono ?_
  rintro z w1 ⟨rfl, rfl⟩
  have hF := HF.out
  have hX := HX.out
  have hE := HE.out
  clear HF HX HE hsh
  generalize (((w.alloc (.cells #[.int .i64 k, .int .i64 p] 23)).alloc (.cells #[.int .i64 kd, .bool neg, .int .i64 e, .slice A xs.length c] 36)).alloc (.cells #[.int .i64 kd, .bool neg, .int .i64 e, .slice A xs.length c] 36)) = W at *
  obtain ⟨x0, x1, x2, x3, -⟩ := hX.facts
  go_wp2_with fail
  refine (hcp _ (h.ext hE)).mono ?_
  rintro z w1 ⟨v, rfl, ho1, hb1⟩
  obtain ⟨Ao, co, rfl, -⟩ := ho1.rd
  have hO := Bx.new w1 (.int .i64 kd) (.bool neg) (.int .i64 e) (.slice Ao xs.length co)
  have hA1 := (Ext.refl w1).al (.cells #[.int .i64 kd, .bool neg, .int .i64 e, .slice Ao xs.length co] 36)
  have hX1 := hX.ext hb1
  have hlx := hX1.lt
  clear x0 x1 x2 x3
  obtain ⟨x0, x1, x2, x3, -⟩ := hX1.facts
  go_wp2_with fail
  have hE1 := (hE.tr hb1).tr hA1
  have hF1 := (hF.ext hb1).ext hA1
  replace hX1 := hX1.ext hA1
  replace ho1 := (ho1.ext hA1).low hE.size
  generalize w1.alloc (.cells #[.int .i64 kd, .bool neg, .int .i64 e, .slice Ao xs.length co] 36) = V1 at *
  have hlo := hO.lt
  clear hA1 hb1 hE hF hX
  -- Canonical
  refine (hcan _ (hT.ext hE1) (h.ext hE1)).mono ?_
  rintro z w2 ⟨u, rfl, ⟨v, rfl, ho2⟩, hb2⟩
  obtain ⟨Ay, cy, rfl, hr2⟩ := ho2.rd
  have hRy := ho2.rw
  have hY := Bx.new w2 (.int .i64 fk) (.bool fn) (.int .i64 fe) (.slice Ay (cn fm).length cy)
  have hA2 := (Ext.refl w2).al (.cells #[.int .i64 fk, .bool fn, .int .i64 fe, .slice Ay (cn fm).length cy] 36)
  have hX2 := hX1.ext hb2
  have hF2 := hF1.ext hb2
  have hlx2 := hX2.lt
  have hlf2 := hF2.lt
  clear x0 x1 x2 x3 hlx
  obtain ⟨x0, x1, x2, x3, -⟩ := hX2.facts
  obtain ⟨f0, f1⟩ := hF2.facts
  go_wp2_with fail
  have hB2 := hb2.tr hA2
  have hr2' := hr2.ext hA2
  have hRy2 := Rw.ext hA2 hRy
  have hal2 := hRy.addr
  replace hX2 := hX2.ext hA2
  replace hF2 := hF2.ext hA2
  generalize w2.alloc (.cells #[.int .i64 fk, .bool fn, .int .i64 fe, .slice Ay (cn fm).length cy] 36) = V2 at *
  have hly := hY.lt
  clear hA2 hb2 hr2 ho2 hRy
  -- Encode
  refine (hen _ (hT.ext (hE1.tr hB2)) (h.ext (hE1.tr hB2))).mono ?_
  rintro z w3 ⟨v, rfl, ho3, hb3⟩
  obtain ⟨An, cN, rfl, hr3⟩ := ho3.rd
  have hRn := ho3.rw
  have haln := hRn.addr
  have hX3 := hX2.ext hb3
  have hF3 := hF2.ext hb3
  have hE3 := (hE1.tr hB2).tr hb3
  clear x0 x1 x2 x3 hlx2 f0 f1 hlf2
  obtain ⟨x0, x1, x2, x3, -⟩ := hX3.facts
  go_wp2_with fail
  -- Value
  refine (hval _ (hT.ext hE3) (h.ext hE3)).mono ?_
  rintro z w4 ⟨v1, v2, rfl, ho4, ho4', hb4⟩
  obtain ⟨Aq, cq, rfl, hr4⟩ := ho4.rd
  obtain ⟨Ad, cd, rfl, -⟩ := ho4'.rd
  have hRq := ho4.rw
  have halq := hRq.addr
  have hQ := Bq.new w4 (.bool vneg) (.slice Aq (cn vnum).length cq) (.slice Ad (cn vden).length cd)
  have hA4 := (Ext.refl w4).al (.cells #[.bool vneg, .slice Aq (cn vnum).length cq, .slice Ad (cn vden).length cd] 52)
  have hY4 := (hY.ext hb3).ext hb4
  have hly4 := hY4.lt
  clear x0 x1 x2 x3
  obtain ⟨y0, y1, y2, y3, -⟩ := hY4.facts
  go_wp2_with fail
  have hE4 := (hE3.tr hb4).tr hA4
  have hA4' := Lib.hid (Ext.refl (w4.alloc (.cells #[.bool vneg, .slice Aq (cn vnum).length cq, .slice Ad (cn vden).length cd] 52)))
  have hB4 := (hB2.tr hb3).tr (hb4.tr hA4)
  have hR4 := (hr2'.ext hb3).ext (hb4.tr hA4)
  have hR4n := hr3.ext (hb4.tr hA4)
  have hRy4 := Rw.ext (hb4.tr hA4) (Rw.ext hb3 hRy2)
  have hRn4 := Rw.ext (hb4.tr hA4) hRn
  have hRq4 := Rw.ext hA4 hRq
  replace hY4 := hY4.ext hA4
  have hs34 := hb4.size
  have hs23 := hb3.size
  generalize w4.alloc (.cells #[.bool vneg, .slice Aq (cn vnum).length cq, .slice Ad (cn vden).length cd] 52) = V4 at *
  have hlq := hQ.lt
  clear hA4 hb4 hr2' hr3 hRy2 hRn hRq hb3 ho3 ho4 ho4' hr4 hX3 hF3 hX2 hF2 hE3 hY y0 y1 y2 y3 hly4
  -- Copy of the float
  refine (hcp1 _ _ _ _ _ _ hR4).mono ?_
  rintro z w5 ⟨v, rfl, ho5, hb5⟩
  obtain ⟨A5, c5, rfl, -⟩ := ho5.rd
  go_wp2_with fail
  -- Copy of the number
  refine (hcp2 _ _ _ (hR4n.ext hb5)).mono ?_
  rintro z w6 ⟨v, rfl, ho6, hb6⟩
  obtain ⟨A6, c6, rfl, -⟩ := ho6.rd
  have hP := Bx.new w6 (.int .i64 fk) (.bool fn) (.int .i64 fe) (.slice A5 (cn fm).length c5)
  have hM6 := Bx.new (w6.alloc (.cells #[.int .i64 fk, .bool fn, .int .i64 fe, .slice A5 (cn fm).length c5] 36)) (.int .i64 0) (.bool false) (.int .i64 0) (.slice A6 (cn N).length c6)
  rw [World.size_alloc] at hM6
  have hA6 := ((Ext.refl w6).al (.cells #[.int .i64 fk, .bool fn, .int .i64 fe, .slice A5 (cn fm).length c5] 36)).al (.cells #[.int .i64 0, .bool false, .int .i64 0, .slice A6 (cn N).length c6] 36)
  replace hP := hP.ext ((Ext.refl _).al (.cells #[.int .i64 0, .bool false, .int .i64 0, .slice A6 (cn N).length c6] 36))
  have hB6 := (hb5.tr hb6).tr hA6
  replace ho5 := (ho5.ext hb6).ext hA6
  replace ho6 := ho6.ext hA6
  have hs45 := hb5.size
  have hs56 := hb6.size
  have HP := Lib.hid hP
  have HM6 := Lib.hid hM6
  have HB6 := Lib.hid hB6
  have HO5 := Lib.hid ho5
  have HO6 := Lib.hid ho6
  clear hP hM6 hA6 hB6 ho5 ho6
  have HY := Lib.hid hY4
  have HQ := Lib.hid hQ
  have HRY := Lib.hid hRy4
  have HRN := Lib.hid hRn4
  have HRQ := Lib.hid hRq4
  have HO := Lib.hid hO
  have HO1 := Lib.hid ho1
  have HX1 := Lib.hid hX1
  have HF1 := Lib.hid hF1
  have HALY := Lib.hid hal2
  have HALN := Lib.hid haln
  have HALQ := Lib.hid halq
  clear hY4 hQ hRy4 hRn4 hRq4 hO ho1 hX1 hF1 hal2 haln halq hR4 hR4n
  go_wp2_with fail
  generalize ((w6.alloc (.cells #[.int .i64 fk, .bool fn, .int .i64 fe, .slice A5 (cn fm).length c5] 36)).alloc (.cells #[.int .i64 0, .bool false, .int .i64 0, .slice A6 (cn N).length c6] 36)) = V6 at *
  have hs6 : w6.heap.size + 1 < V6.heap.size := HM6.out.lt
  have HY6 := Lib.hid (HY.out.ext HB6.out)
  have HQ6 := Lib.hid (HQ.out.ext (hA4'.out.tr HB6.out))
  have HRY6 := Lib.hid (Rw.ext HB6.out HRY.out)
  have HRN6 := Lib.hid (Rw.ext HB6.out HRN.out)
  have HRQ6 := Lib.hid (Rw.ext HB6.out HRQ.out)
  have hB2s := hB2.size
  have HV := Lib.hid (hB4.tr HB6.out)
  have HE1 := Lib.hid hE1
  have hn1 := HRY.out.len
  have hn2 := HRN.out.len
  have hn3 := HRQ.out.len
  clear HY HQ HRY HRN HRQ hB4 hE4 hE1 hB2
  go_loopw [14] (fun v wr => Inc V6 V1.heap.size Ay (cn fm).length v wr) (fun v _ => (cn fm).length - (intOf v).toNat)
  case atStart => exact ⟨0, Nat.zero_le _, rfl, HRY6.out, Kb.refl _ _⟩
  case round =>
    obtain ⟨i, hi, rfl, hR, hK⟩ := hrel
    have hYr := hK.bx HY6.out (fun a ha => by have := (HALY.out a ha).2; omega)
    obtain ⟨y0, y1, y2, y3, -⟩ := hYr.facts
    by_cases hlt : i < (cn fm).length
    · obtain ⟨g, x, rfl, hc, hfz⟩ := hR.get i hlt
      have HR := Lib.hid hR
      have HK := Lib.hid hK
      clear hR hK hYr
      go_wp2
      go_roundw
      case rel => exact ⟨i + 1, hlt, by go_num, HR.out.set i _, HK.out.set (p := ⟨g, i, none⟩) rfl rfl _⟩
      case measure => simp [intOf]; omega
    obtain rfl : i = (cn fm).length := by omega
    have HRN1 := Lib.hid (Rw.kb hK HRN6.out (fun a a' ha ha' => by have := (HALY.out a ha).2; have := (HALN.out a' ha').1; omega))
    have HK1 := Lib.hid hK
    generalize wr = wr1 at *
    clear hR hK hYr
    go_wp2
    go_loopw [15] (fun v wr => Inc wr1 V2.heap.size An (cn N).length v wr) (fun v _ => (cn N).length - (intOf v).toNat)
    case atStart => exact ⟨0, Nat.zero_le _, rfl, HRN1.out, Kb.refl _ _⟩
    case round =>
      obtain ⟨i, hi, rfl, hR, hK⟩ := hrel
      by_cases hlt : i < (cn N).length
      · obtain ⟨g, x, rfl, hc, hfz⟩ := hR.get i hlt
        have HR := Lib.hid hR
        have HK := Lib.hid hK
        clear hR hK
        go_wp2
        go_roundw
        case rel => exact ⟨i + 1, hlt, by go_num, HR.out.set i _, HK.out.set (p := ⟨g, i, none⟩) rfl rfl _⟩
        case measure => simp [intOf]; omega
      obtain rfl : i = (cn N).length := by omega
      have HRQ2 := Lib.hid (Rw.kb hK (Rw.kb HK1.out HRQ6.out (fun a a' ha ha' => by have := (HALY.out a ha).2; have := (HALQ.out a' ha').1; omega)) (fun a a' ha ha' => by have := (HALN.out a ha).2; have := (HALQ.out a' ha').1; omega))
      have HQ2 := Lib.hid (hK.bq (HK1.out.bq HQ6.out (fun a ha => by have := (HALY.out a ha).2; omega)) (fun a ha => by have := (HALN.out a ha).2; omega))
      have HK2 := Lib.hid hK
      generalize wr = wr2 at *
      clear hR hK
      go_wp2
      go_loopw [16] (fun v wr => Inc wr2 w3.heap.size Aq (cn vnum).length v wr) (fun v _ => (cn vnum).length - (intOf v).toNat)
      case atStart => exact ⟨0, Nat.zero_le _, rfl, HRQ2.out, Kb.refl _ _⟩
      case round =>
        obtain ⟨i, hi, rfl, hR, hK⟩ := hrel
        have hQr := hK.bq HQ2.out (fun a ha => by have := (HALQ.out a ha).2; omega)
        obtain ⟨q0, q1, q2, -⟩ := hQr.facts
        by_cases hlt : i < (cn vnum).length
        · obtain ⟨g, x, rfl, hc, hfz⟩ := hR.get i hlt
          have HR := Lib.hid hR
          have HK := Lib.hid hK
          clear hR hK hQr
          go_wp2
          go_roundw
          case rel => exact ⟨i + 1, hlt, by go_num, HR.out.set i _, HK.out.set (p := ⟨g, i, none⟩) rfl rfl _⟩
          case measure => simp [intOf]; omega
        obtain rfl : i = (cn vnum).length := by omega
        have hV3 : Ext V1 wr := hK.ext (HK2.out.ext (HK1.out.ext HV.out (fun a ha => (HALY.out a ha).1)) (fun a ha => by have := (HALN.out a ha).1; omega)) (fun a ha => by have := (HALQ.out a ha).1; omega)
        have hEw := HE1.out.tr hV3
        have hX3 := HX1.out.ext hV3
        have hF3 := HF1.out.ext hV3
        have hO3 := HO.out.ext hV3
        have ho1 := HO1.out.ext hV3
        have hP3 := hK.bx (HK2.out.bx (HK1.out.bx HP.out (fun a ha => by have := (HALY.out a ha).2; omega)) (fun a ha => by have := (HALN.out a ha).2; omega)) (fun a ha => by have := (HALQ.out a ha).2; omega)
        have hM3 := hK.bx (HK2.out.bx (HK1.out.bx HM6.out (fun a ha => by have := (HALY.out a ha).2; omega)) (fun a ha => by have := (HALN.out a ha).2; omega)) (fun a ha => by have := (HALQ.out a ha).2; omega)
        have ho5 := hK.own (HK2.out.own (HK1.out.own HO5.out (fun a ha => by have := (HALY.out a ha).2; omega)) (fun a ha => by have := (HALN.out a ha).2; omega)) (fun a ha => by have := (HALQ.out a ha).2; omega)
        have ho6 := hK.own (HK2.out.own (HK1.out.own HO6.out (fun a ha => by have := (HALY.out a ha).2; omega)) (fun a ha => by have := (HALN.out a ha).2; omega)) (fun a ha => by have := (HALQ.out a ha).2; omega)
        generalize wr = w7 at *
        clear hR hK hQr HV HE1 HX1 HF1 HO HO1 HP HM6 HO5 HO6 HB6 HY6 HQ6 HRY6 HRN6 HRQ6 HQ2 HK1 HK2 HRN1 HRQ2 HALY HALN HALQ hV3
        have hro := ho1.rdHere.2
        have hr5 := ho5.rdHere.2
        have hr6 := ho6.rdHere.2
        clear ho1 ho5 ho6
        obtain ⟨x0, x1, x2, x3, -⟩ := hX3.facts
        go_wp2_with fail
        -- Canonical again
        refine (hcan _ (hT.ext hEw) (h.ext hEw)).mono ?_
        rintro z w8 ⟨u, rfl, ⟨v, rfl, ho8⟩, hb8⟩
        obtain ⟨Az, cz, rfl, hr8⟩ := ho8.rd
        have hZ := Bx.new w8 (.int .i64 fk) (.bool fn) (.int .i64 fe) (.slice Az (cn fm).length cz)
        have hA8 := (Ext.refl w8).al (.cells #[.int .i64 fk, .bool fn, .int .i64 fe, .slice Az (cn fm).length cz] 36)
        have hX8 := hX3.ext hb8
        have hF8 := hF3.ext hb8
        have hlx8 := hX8.lt
        have hlf8 := hF8.lt
        clear x0 x1 x2 x3
        obtain ⟨x0, x1, x2, x3, -⟩ := hX8.facts
        obtain ⟨f0, f1⟩ := hF8.facts
        go_wp2_with fail
        have hB8 := hb8.tr hA8
        have hE8 := hEw.tr hB8
        replace hr8 := hr8.ext hA8
        replace hX8 := hX8.ext hA8
        generalize w8.alloc (.cells #[.int .i64 fk, .bool fn, .int .i64 fe, .slice Az (cn fm).length cz] 36) = V8 at *
        -- Encode again
        refine (hen _ (hT.ext hE8) (h.ext hE8)).mono ?_
        rintro z w9 ⟨v, rfl, ho9, hb9⟩
        obtain ⟨Am, cm, rfl, hr9⟩ := ho9.rd
        have hX9 := hX8.ext hb9
        clear x0 x1 x2 x3 f0 f1 hlx8 hlf8
        obtain ⟨x0, x1, x2, x3, -⟩ := hX9.facts
        go_wp2_with fail
        -- Value again
        refine (hval _ (hT.ext (hE8.tr hb9)) (h.ext (hE8.tr hb9))).mono ?_
        rintro z wa ⟨v1, v2, rfl, hoa, hoa', hba⟩
        obtain ⟨B1, d1, rfl, -⟩ := hoa.rd
        obtain ⟨B2, d2, rfl, -⟩ := hoa'.rd
        have hAa := (Ext.refl wa).al (.cells #[.bool vneg, .slice B1 (cn vnum).length d1, .slice B2 (cn vden).length d2] 52)
        go_wp2_with fail
        have hXa := hX9.ext (hba.tr hAa)
        have hZa := hZ.ext (hb9.tr (hba.tr hAa))
        have hBa := hB8.tr (hb9.tr (hba.tr hAa))
        have hra := hr8.ext (hb9.tr (hba.tr hAa))
        have hrm := hr9.ext (hba.tr hAa)
        have hEa := hEw.tr hBa
        have hOa := hO3.ext hBa
        have hPa := hP3.ext hBa
        have hMa := hM3.ext hBa
        have hroa := hro.ext hBa
        have hr5a := hr5.ext hBa
        have hr6a := hr6.ext hBa
        generalize wa.alloc (.cells #[.bool vneg, .slice B1 (cn vnum).length d1, .slice B2 (cn vden).length d2] 52) = V9 at *
        clear x0 x1 x2 x3
        obtain ⟨x0, x1, x2, x3, -⟩ := hXa.facts
        obtain ⟨y0, y1, y2, y3, -⟩ := hOa.facts
        obtain ⟨z0, z1, z2, z3, -⟩ := hZa.facts
        obtain ⟨p0, p1, p2, p3, -⟩ := hPa.facts
        obtain ⟨m0, m1, m2, m3, -⟩ := hMa.facts
        have j01 := Later.cell x0
        have j02 := Later.cell x1
        have j03 := Later.cell x2
        have j04 := Later.cell x3
        have j05 := Later.cell y0
        have j06 := Later.cell y1
        have j07 := Later.cell y2
        have j08 := Later.cell y3
        have j09 := Later.cell z0
        have j10 := Later.cell z1
        have j11 := Later.cell z2
        have j12 := Later.cell z3
        have j13 := Later.cell p0
        have j14 := Later.cell p1
        have j15 := Later.cell p2
        have j16 := Later.cell p3
        have j17 := Later.cell m0
        have j18 := Later.cell m1
        have j19 := Later.cell m2
        have j20 := Later.cell m3
        refine wp_region_later (by kernel_rfl) (by kernel_rfl) ?_
        repeat (go_big_quiet_step (first
          | (go_at_call 29; (with_reducible refine Calls.later (hth _ _ _ _ _ _ _)))
          | (go_at_call 39; (with_reducible refine Calls.later (hq1 _ _ _ _ _ (hra.ext (Later.h _)) (hr5a.ext (Later.h _)))))
          | (go_at_call 39; (with_reducible refine Calls.later (hq2 _ _ _ _ _ (hrm.ext (Later.h _)) (hr6a.ext (Later.h _)))))
          | (go_at_call 39; (with_reducible refine Calls.later (hq0 _ _ _ _ _ (h.ext (hEa.tr (Later.h _))) (hroa.ext (Later.h _)))))
          | (go_at_call 18; (with_reducible refine Calls.later (awake_c _ (hT.ext (hEa.tr (Later.h _))) (hM.ext (hEa.tr (Later.h _))))))))
        refine wpQuiet_nil ?_
        intro _ hw'
        obtain ⟨⟨wq, hq⟩, rfl⟩ := hw'
        go_wp2
        go_ret
        exact ⟨rfl, hEa.tr hq⟩
end Go.Proofs.YtgkojhhodncpbaaDoor
