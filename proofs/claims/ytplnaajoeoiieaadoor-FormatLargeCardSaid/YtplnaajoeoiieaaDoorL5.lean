/- FormatEncodes: the walk. -/
import Derived.Test.YtplnaajoeoiieaaDoorS6
import Derived.Test.YtplnaajoeoiieaaDoorL1
import Derived.Test.YtplnaajoeoiieaaDoorF8
set_option linter.unusedVariables false
set_option linter.unusedSimpArgs false
namespace Go.Proofs.YtplnaajoeoiieaaDoor
open Go.RowKit

/-- A format's box, a float's box and a slice of that float: what Short is handed. -/
theorem three_boxes (w : World) (k p : Int) (a : FA) (h : Rd w a.A a.c a.xs) : ∀ W, W = (((w.alloc (.cells #[.int .i64 k, .int .i64 p] 24)).alloc (.cells #[.int .i64 a.k, .bool a.neg, .int .i64 a.e, .slice a.A a.xs.length a.c] 37)).alloc (.cells #[.int .i64 a.k, .bool a.neg, .int .i64 a.e, .slice a.A a.xs.length a.c] 37)) →
    Bf W w.heap.size (.int .i64 k) (.int .i64 p) ∧ Bx W (w.heap.size + 1) (.int .i64 a.k) (.bool a.neg) (.int .i64 a.e) (.slice a.A a.xs.length a.c) ∧ FRd W (some ⟨w.heap.size + 2, 0, none⟩) 1 [a] ∧ Ext w W := by
  rintro W rfl
  have h1 := (Ext.refl w).al (.cells #[.int .i64 k, .int .i64 p] 24)
  have h2 := h1.al (.cells #[.int .i64 a.k, .bool a.neg, .int .i64 a.e, .slice a.A a.xs.length a.c] 37)
  have hE := h2.al (.cells #[.int .i64 a.k, .bool a.neg, .int .i64 a.e, .slice a.A a.xs.length a.c] 37)
  have x1 := Bx.new (w.alloc (.cells #[.int .i64 k, .int .i64 p] 24)) (.int .i64 a.k) (.bool a.neg) (.int .i64 a.e) (.slice a.A a.xs.length a.c)
  rw [World.size_alloc] at x1
  have x2 := Bx.new ((w.alloc (.cells #[.int .i64 k, .int .i64 p] 24)).alloc (.cells #[.int .i64 a.k, .bool a.neg, .int .i64 a.e, .slice a.A a.xs.length a.c] 37)) (.int .i64 a.k) (.bool a.neg) (.int .i64 a.e) (.slice a.A a.xs.length a.c)
  rw [World.size_alloc, World.size_alloc] at x2
  exact ⟨((Bf.new w _ _).ext ((Ext.refl _).al _)).ext ((Ext.refl _).al _), x1.ext ((Ext.refl _).al _), FRd.one x2 (h.ext hE), hE⟩
theorem FRd.oneR {w : World} {g : Nat} {a : FA} (hx : Br w g (.int .i64 a.k) (.bool a.neg) (.int .i64 a.e) (.slice a.A a.xs.length a.c)) (hr : Rd w a.A a.c a.xs) : FRd w (some ⟨g, 0, none⟩) 1 [a] :=
  ⟨by simp, by simp, fun i hi => by
    obtain rfl : i = 0 := by simpa using hi
    obtain ⟨h0, h1, h2, h3, -⟩ := hx.facts
    exact ⟨_, rfl, h0, h1, h2, h3, hr⟩⟩
theorem chk_flt {k p : Int} {a : FA} (h : a.xs.length ≤ 4096) : chkS k p [a] = fltE k p a := by
  have hn : ¬ 4096 < a.xs.length := by omega
  have hc : chkS k p [a] = if Rgt k p then (if (holdS k p a.can).isSome = true then 0 else 151) else 150 := by unfold chkS; simp
  rw [hc, fltE, FlsS_one, if_neg hn]
  by_cases hR : Rgt k p
  · rw [if_pos hR, if_pos hR]
    cases hh : holdS k p a.can <;> simp
  · rw [if_neg hR, if_neg hR]
/-- The reference's Check of one float in new memory. -/
theorem rcheck_one (k p : Int) (a : FA) (w : World) (h : Rd w a.A a.c a.xs) (hl : a.xs.length ≤ 4096) : Calls Tryd.prog 23 #[.agg #[.int .i64 k, .int .i64 p], .slice (some ⟨w.heap.size, 0, none⟩) 1 1] (w.alloc (.cells #[.int .i64 a.k, .bool a.neg, .int .i64 a.e, .slice a.A a.xs.length a.c] 43))
    fun z w' => z = .returned (.int .i64 (fltE k p a)) ∧ Ext w w' := by
  have hA := (Ext.refl w).al (.cells #[.int .i64 a.k, .bool a.neg, .int .i64 a.e, .slice a.A a.xs.length a.c] 43)
  have h1 := rcheck15_c k p (some ⟨w.heap.size, 0, none⟩) 1 [a] _ (FRd.oneR (Br.new w _ _ _ _) (h.ext hA)) (fun i hi => by
    obtain rfl : i = 0 := by simpa using hi
    exact hl)
  rw [chk_flt hl] at h1
  exact h1.mono fun z w' ⟨hz, hb⟩ => ⟨hz, hA.tr hb⟩
theorem canon_neg {k : Int} {neg : Bool} {e : Int} {m : Nat} {f : Fl} (h : canon k neg e m = some f) : f.neg = neg := by
  by_cases h1 : k = 1
  · subst h1; obtain ⟨rfl, -⟩ := canon_fin h; rfl
  · rw [canon_not1 h1 h]
theorem encN_eq {k p : Int} {a : FA} {f : Fl} (hR : Rgt k p) (h0 : fltE k p a = 0) (hc : a.can = some f) : encN k p a = encM k p f + if a.neg = true then 2 ^ (k + p - 1).toNat else 0 := by
  unfold encN
  rw [if_pos h0, hc]
  have hn : f.neg = a.neg := canon_neg hc
  obtain ⟨h1, h2, h3, h4⟩ := hR
  simp only [encS, hn]
  rw [show (k + p - 1).toNat = k.toNat + p.toNat - 1 by omega]
theorem encN_bad {k p : Int} {a : FA} (h0 : fltE k p a ≠ 0) : encN k p a = 0 := by unfold encN; rw [if_neg h0]
set_option maxHeartbeats 2000000 in
set_option maxRecDepth 100000 in
set_option exponentiation.threshold 1000 in
theorem formatEncodes_c (k p : Int) (a : FA) (w : World) (hT : Tab w) (hM : MapT w) (h : Rd w a.A a.c a.xs) :
    Calls Tryd.prog 4 #[.agg #[.int .i64 k, .int .i64 p], a.v] w fun e w' => e = .returned (.bool true) ∧ Ext w w' := by
  obtain ⟨hF, hX, hS, hE⟩ := three_boxes w k p a h _ rfl
  have hsh := short_c _ _ [a] _ hS
  have hall : [a].all (fun b => decide (b.xs.length ≤ 40)) = decide (a.xs.length ≤ 40) := by simp
  rw [hall] at hsh
  clear hall hS
  have HF := Lib.hid hF
  have HX := Lib.hid hX
  have HE := Lib.hid hE
  clear hF hX hE
  by_cases hs : a.xs.length ≤ 40
  · rw [show decide (a.xs.length ≤ 40) = true by simpa using hs] at hsh
    have hen := fun w hT h => encode_c k p a w hT h
    have hth := fun w => their_c a.k a.e a.neg a.A a.xs.length a.c w
    have hfm := fun w => fmt_c k p w
    have hck := fun w h => rcheck_one k p a w h (by omega)
    by_cases h0 : fltE k p a = 0
    · obtain ⟨hR, hl, f, hcan, hin, -⟩ := FlsS_ok h0
      have hre := fun w h => rencode_c k p hR a.k a.e a.neg a.A a.c a.xs w h (by omega) f hcan hin
      rw [← encN_eq hR h0 hcan] at hre
      rw [h0] at hen hck
      have hnl : (cn (encN k p a)).length ≤ 10000000 := by
        have h1 := encM_len hR (canon_ok hcan) hin
        rw [encN_eq hR h0 hcan]
        obtain ⟨k1, k2, k3, k4⟩ := hR
        refine Nat.le_trans ((cn_len_le _ 6).2 ?_) (by omega)
        have e1 : encM k p f < B ^ 5 := (cn_len_le _ _).1 h1
        have e2 : 2 ^ (k + p - 1).toNat < B ^ 5 := by rw [B_two, ← Nat.pow_mul]; exact Nat.pow_lt_pow_right (by omega) (by omega)
        have e3 : 2 * B ^ 5 ≤ B ^ 6 := by rw [Nat.pow_succ B 5, Nat.mul_comm]; exact Nat.mul_le_mul_left _ two_le_B
        split <;> omega
      have his := fun A1 A2 c1 c2 w h1 h2 => ris_c A1 A2 c1 c2 (cn (encN k p a)) (cn (encN k p a)) w h1 h2 hnl
      rw [val_cn, show decide (cn (encN k p a) = cn (encN k p a)) = true by simp] at his
      generalize encN k p a = N at *
      clear h0 hcan hin hR hl hnl
      obtain ⟨kd, neg, e, A, c, xs⟩ := a
      simp only at hsh HX HE HF hth h hs hen hck hre
      go_enter Tryd.func4, Tryd.ntmps4
      go_wp2_with fail
      refine hsh.mono ?_
      rintro z w1 ⟨rfl, rfl⟩
      have hF := HF.out
      have hX := HX.out
      have hE := HE.out
      clear HF HX HE hsh
      generalize (((w.alloc (.cells #[.int .i64 k, .int .i64 p] 24)).alloc (.cells #[.int .i64 kd, .bool neg, .int .i64 e, .slice A xs.length c] 37)).alloc (.cells #[.int .i64 kd, .bool neg, .int .i64 e, .slice A xs.length c] 37)) = W at *
      obtain ⟨f0, f1⟩ := hF.facts
      obtain ⟨x0, x1, x2, x3, -⟩ := hX.facts
      go_wp2_with fail
      refine (hen _ (hT.ext hE) (h.ext hE)).mono ?_
      rintro z w2 ⟨v, rfl, hov, hb2⟩
      obtain ⟨A2, c2, rfl, hr2⟩ := hov.rd
      have hF2 := hF.ext hb2
      have hX2 := hX.ext hb2
      have hE2 := hE.tr hb2
      clear f0 f1 x0 x1 x2 x3 hF hX hE hb2 hov hen
      obtain ⟨f0, f1⟩ := hF2.facts
      obtain ⟨x0, x1, x2, x3, -⟩ := hX2.facts
      go_wp2_with fail
      go_region_held3 (fun w' => w'.cell? ⟨w.heap.size, 0, none⟩ = some (.int .i64 k) ∧ w'.cell? ⟨w.heap.size, 1, none⟩ = some (.int .i64 p) ∧
          w'.cell? ⟨w.heap.size + 1, 0, none⟩ = some (.int .i64 kd) ∧ w'.cell? ⟨w.heap.size + 1, 1, none⟩ = some (.bool neg) ∧ w'.cell? ⟨w.heap.size + 1, 2, none⟩ = some (.int .i64 e) ∧ w'.cell? ⟨w.heap.size + 1, 3, none⟩ = some (.slice A xs.length c))
        (first | go_keep | (go_split_ands; refine ⟨?_, ?_, ?_, ?_, ?_, ?_⟩ <;> (refine Ext.cell (w := w2) (by assumption) ?_; assumption)))
        (first
          | (go_at_call 20; (with_reducible refine (hfm _).mono ?_); rintro z w3 ⟨rfl, hb3⟩; have hE3 : Ext w2 w3 := (Ext.refl w2).drew.tr hb3)
          | (go_at_call 24; (with_reducible refine (hth _).mono ?_); rintro z w4 ⟨rfl, hb4⟩; have hE4 : Ext w2 w4 := hE3.tr hb4)
          | (go_at_call 23; (with_reducible refine (hck _ (h.ext (hE2.tr hE4))).mono ?_); rintro z w5 ⟨rfl, hb5⟩; have hE5 : Ext w2 w5 := hE4.tr hb5))
      have hF5 := hF2.ext hE5
      have hX5 := hX2.ext hE5
      have hr5 := hr2.ext hE5
      have hEE := hE2.tr hE5
      clear f0 f1 x0 x1 x2 x3 hF2 hX2 hE2 hE3 hE4 hE5 hb3 hb4 hb5 hr2 hck
      obtain ⟨f0, f1⟩ := hF5.facts
      obtain ⟨x0, x1, x2, x3, -⟩ := hX5.facts
      go_wp2_with fail
      go_region_held3 (fun w' => w'.cell? ⟨w.heap.size, 0, none⟩ = some (.int .i64 k) ∧ w'.cell? ⟨w.heap.size, 1, none⟩ = some (.int .i64 p) ∧
          w'.cell? ⟨w.heap.size + 1, 0, none⟩ = some (.int .i64 kd) ∧ w'.cell? ⟨w.heap.size + 1, 1, none⟩ = some (.bool neg) ∧ w'.cell? ⟨w.heap.size + 1, 2, none⟩ = some (.int .i64 e) ∧ w'.cell? ⟨w.heap.size + 1, 3, none⟩ = some (.slice A xs.length c))
        (first | go_keep | (go_split_ands; refine ⟨?_, ?_, ?_, ?_, ?_, ?_⟩ <;> (refine Ext.cell (w := w5) (by assumption) ?_; assumption)))
        (first
          | (go_at_call 20; (with_reducible refine (hfm _).mono ?_); rintro z w6 ⟨rfl, hb6⟩; have hE6 : Ext w5 w6 := (Ext.refl w5).drew.tr hb6)
          | (go_at_call 24; (with_reducible refine (hth _).mono ?_); rintro z w7 ⟨rfl, hb7⟩; have hE7 : Ext w5 w7 := hE6.tr hb7)
          | (go_at_call 26; (with_reducible refine (hre _ (h.ext (hEE.tr hE7))).mono ?_); rintro z w8 ⟨v, rfl, ho8, hb8⟩; have hE8 : Ext w5 w8 := hE7.tr hb8; obtain ⟨A8, c8, rfl, hr8⟩ := ho8.rd)
          | (go_at_call 25; (with_reducible refine (his A2 A8 c2 c8 _ (hr5.ext hE8) hr8).mono ?_); rintro z w9 ⟨rfl, hb9⟩; have hE9 : Ext w5 w9 := hE8.tr hb9)
          | (go_at_call 17; (with_reducible refine (awake_c _ (hT.ext (hEE.tr hE9)) (hM.ext (hEE.tr hE9))).mono ?_); rintro z w10 ⟨rfl, hb10⟩; have hE10 : Ext w5 w10 := hE9.tr hb10))
      go_wp2
      go_ret
      exact ⟨rfl, hEE.tr hE10⟩
    · rw [encN_bad h0] at hen
      generalize fltE k p a = E at *
      have hE0 : (E != 0) = true := by rw [bne_iff_ne]; exact h0
      clear h0
      obtain ⟨kd, neg, e, A, c, xs⟩ := a
      simp only at hsh HX HE HF hth h hs hen hck
      go_enter Tryd.func4, Tryd.ntmps4
      go_wp2_with fail
      refine hsh.mono ?_
      rintro z w1 ⟨rfl, rfl⟩
      have hF := HF.out
      have hX := HX.out
      have hE := HE.out
      clear HF HX HE hsh
      generalize (((w.alloc (.cells #[.int .i64 k, .int .i64 p] 24)).alloc (.cells #[.int .i64 kd, .bool neg, .int .i64 e, .slice A xs.length c] 37)).alloc (.cells #[.int .i64 kd, .bool neg, .int .i64 e, .slice A xs.length c] 37)) = W at *
      obtain ⟨f0, f1⟩ := hF.facts
      obtain ⟨x0, x1, x2, x3, -⟩ := hX.facts
      go_wp2_with fail
      refine (hen _ (hT.ext hE) (h.ext hE)).mono ?_
      rintro z w2 ⟨v, rfl, hov, hb2⟩
      rw [show cn (0 : Nat) = [] from digs_zero B] at hov
      obtain ⟨A2, c2, rfl, hr2⟩ := hov.rd
      simp only [List.length_nil]
      have hF2 := hF.ext hb2
      have hX2 := hX.ext hb2
      have hE2 := hE.tr hb2
      clear f0 f1 x0 x1 x2 x3 hF hX hE hb2 hov hen
      obtain ⟨f0, f1⟩ := hF2.facts
      obtain ⟨x0, x1, x2, x3, -⟩ := hX2.facts
      go_wp2_with fail
      go_region_held3 (fun w' => w'.cell? ⟨w.heap.size, 0, none⟩ = some (.int .i64 k) ∧ w'.cell? ⟨w.heap.size, 1, none⟩ = some (.int .i64 p) ∧
          w'.cell? ⟨w.heap.size + 1, 0, none⟩ = some (.int .i64 kd) ∧ w'.cell? ⟨w.heap.size + 1, 1, none⟩ = some (.bool neg) ∧ w'.cell? ⟨w.heap.size + 1, 2, none⟩ = some (.int .i64 e) ∧ w'.cell? ⟨w.heap.size + 1, 3, none⟩ = some (.slice A xs.length c))
        (first | go_keep | (go_split_ands; refine ⟨?_, ?_, ?_, ?_, ?_, ?_⟩ <;> (refine Ext.cell (w := w2) (by assumption) ?_; assumption)))
        (first
          | (go_at_call 20; (with_reducible refine (hfm _).mono ?_); rintro z w3 ⟨rfl, hb3⟩; have hE3 : Ext w2 w3 := (Ext.refl w2).drew.tr hb3)
          | (go_at_call 24; (with_reducible refine (hth _).mono ?_); rintro z w4 ⟨rfl, hb4⟩; have hE4 : Ext w2 w4 := hE3.tr hb4)
          | (go_at_call 23; (with_reducible refine (hck _ (h.ext (hE2.tr hE4))).mono ?_); rintro z w5 ⟨rfl, hb5⟩; have hE5 : Ext w2 w5 := hE4.tr hb5))
      have hEE := hE2.tr hE5
      clear f0 f1 x0 x1 x2 x3
      go_wp2_with (go_at_call 17; refine (awake_c _ (hT.ext hEE) (hM.ext hEE)).mono ?_; rintro z w6 ⟨rfl, hb6⟩)
      go_ret
      exact ⟨rfl, hEE.tr hb6⟩
  · rw [show decide (a.xs.length ≤ 40) = false by simpa using hs] at hsh
    go_enter Tryd.func4, Tryd.ntmps4
    go_wp2_with (first
      | (go_at_call 21; refine hsh.mono ?_; rintro z w1 ⟨rfl, rfl⟩)
      | (go_at_call 17; refine (awake_c _ (hT.ext HE.out) (hM.ext HE.out)).mono ?_; rintro z w2 ⟨rfl, hb⟩))
    go_ret
    exact ⟨rfl, HE.out.tr hb⟩
end Go.Proofs.YtplnaajoeoiieaaDoor
