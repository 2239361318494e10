/- FormatChecks: the walk. -/
import Derived.Test.YtgkojhhodncpbaaDoorV5
import Derived.Test.YtgkojhhodncpbaaDoorT8
import Derived.Test.YtgkojhhodncpbaaDoorTA
import Derived.Test.YtgkojhhodncpbaaDoorS3
import Derived.Test.YtgkojhhodncpbaaDoorG2
set_option linter.unusedVariables false
set_option linter.unusedSimpArgs false
namespace Go.Proofs.YtgkojhhodncpbaaDoor
open Go.RowKit

/-- Three boxes of floats in new memory. -/
theorem boxes3L (w : World) (a1 b1 c1 d1 a2 b2 c2 d2 a3 b3 c3 d3 : Value) : ∀ W, W = (((w.alloc (.cells #[a1, b1, c1, d1] 36)).alloc (.cells #[a2, b2, c2, d2] 36)).alloc (.cells #[a3, b3, c3, d3] 36)) →
    Bx W w.heap.size a1 b1 c1 d1 ∧ Bx W (w.heap.size + 1) a2 b2 c2 d2 ∧ Bx W (w.heap.size + 1 + 1) a3 b3 c3 d3 ∧ Ext w W := by
  rintro W rfl
  have h1 := (Ext.refl w).al (.cells #[a1, b1, c1, d1] 36)
  have x1 := Bx.new w a1 b1 c1 d1
  have x2 := Bx.new (w.alloc (.cells #[a1, b1, c1, d1] 36)) a2 b2 c2 d2
  have x3 := Bx.new ((w.alloc (.cells #[a1, b1, c1, d1] 36)).alloc (.cells #[a2, b2, c2, d2] 36)) a3 b3 c3 d3
  rw [World.size_alloc] at x2
  rw [World.size_alloc, World.size_alloc] at x3
  exact ⟨(x1.ext ((Ext.refl _).al _)).ext ((Ext.refl _).al _), x2.ext ((Ext.refl _).al _), x3, (h1.al _).al _⟩
theorem chk_none (k p : Int) : chkS k p [] = fmtE k p := by unfold chkS fmtE; simp
theorem lim_ok {k p : Int} (h : Rgt k p) : (⟨1, false, gr k - p + 1, 2 ^ p.toNat - 1⟩ : Fl).Ok ∧ (⟨1, false, le k, 1⟩ : Fl).Ok ∧ (⟨1, false, ti k p, 1⟩ : Fl).Ok := by
  obtain ⟨h1, h2, h3, h4⟩ := h
  have hg := gr_bd h1 h2
  have e1 : le k = 1 - gr k := rfl
  have e2 : ti k p = le k - (p - 1) := rfl
  have hod : (2 ^ p.toNat - 1) % 2 = 1 := by
    obtain ⟨n, hn⟩ : ∃ n, p.toNat = n + 1 := ⟨p.toNat - 1, by omega⟩
    have := Nat.two_pow_pos n
    rw [hn, Nat.pow_succ]
    omega
  refine ⟨⟨by simp only; omega, by simp only; omega, by simp, fun _ => hod, fun h => absurd rfl h, fun h => by simp at h⟩, ⟨by simp only; omega, by simp only; omega, by simp, fun _ => rfl, fun h => absurd rfl h, fun h => by simp at h⟩, ⟨by simp only; omega, by simp only; omega, by simp, fun _ => rfl, fun h => absurd rfl h, fun h => by simp at h⟩⟩
/-- Is, at a float that is canonical. -/
theorem lis_self (f : Fl) (hok : f.Ok) (hl : (cn f.mag).length ≤ 4096) (A A' : Option Addr) (c c' : Nat) (w : World) (h : Rd w A c (cn f.mag)) (h' : Rd w A' c' (cn f.mag)) :
    Calls Tryd.prog 22 #[flV f.kind f.neg f.exp (.slice A (cn f.mag).length c), flV f.kind f.neg f.exp (.slice A' (cn f.mag).length c')] w fun z w' => z = .returned (.bool true) ∧ Ext w w' := by
  have h1 := lis_c f.kind f.kind f.exp f.exp f.neg f.neg A A' c c' (cn f.mag) (cn f.mag) w h h' hl f (by rw [val_cn]; exact canon_self hok)
  rwa [show decide (f.kind = f.kind ∧ f.neg = f.neg ∧ f.exp = f.exp ∧ cn f.mag = cn f.mag) = true by simp] at h1
set_option maxHeartbeats 4000000 in
set_option maxRecDepth 100000 in
theorem formatChecks_no (k p : Int) (w : World) (hT : Tab w) (hM : MapT w) (h : ¬ Rgt k p) :
    Calls Tryd.prog 3 #[.agg #[.int .i64 k, .int .i64 p]] w fun e w' => e = .returned (.bool true) ∧ Ext w w' := by
  have hF := Bf.new w (.int .i64 k) (.int .i64 p)
  have hA := (Ext.refl w).al (.cells #[.int .i64 k, .int .i64 p] 23)
  have hfm := fun w => fmt_c k p w
  have hck := fun w => rcheck15_c k p none 0 [] w ⟨by simp, by simp, fun i hi => absurd hi (by simp)⟩ (fun i hi => absurd hi (by simp))
  have hch := fun w => check_c k p w
  have hwd := fun w => width_c k p w
  have hrg := fun w => range_no k p w h
  have hlm := fun w => limits_no k p w h
  rw [chk_none] at hck
  rw [if_neg h] at hwd
  rw [fmtE_no h] at hck hch hwd
  have hnn := fun A c w => none_c 0 0 false A 0 c w
  simp only [show decide ((0 : Int) = 0 ∧ false = false ∧ (0 : Int) = 0 ∧ (0 : Nat) = 0) = true by decide] at hnn
  simp only [List.length_nil] at hck
  clear h
  have HF := Lib.hid hF
  have HA := Lib.hid hA
  clear hF hA
  go_enter Tryd.func3, Tryd.ntmps3
  go_wp2_with fail
  have hF := HF.out
  have hE := HA.out
  clear HF HA
  generalize w.alloc (.cells #[.int .i64 k, .int .i64 p] 23) = W at *
  refine (hfm _).mono ?_
  rintro z w1 ⟨rfl, hb1⟩
  have hG := Bg.new w1 (.int .i64 k) (.int .i64 p)
  have hA1 := (Ext.refl w1).al (.cells #[.int .i64 k, .int .i64 p] 24)
  have hlf1 := (hF.ext hb1).lt
  go_wp2_with fail
  have hE1 := (hE.tr hb1).tr hA1
  have hF1 := (hF.ext hb1).ext hA1
  generalize w1.alloc (.cells #[.int .i64 k, .int .i64 p] 24) = V1 at *
  clear hE hF hA1 hb1
  refine (hck _).mono ?_
  rintro z w2 ⟨rfl, hb2⟩
  have hE2 := hE1.tr hb2
  have hF2 := hF1.ext hb2
  have hG2 := hG.ext hb2
  obtain ⟨f0, f1⟩ := hF2.facts
  clear hE1 hF1 hG hb2
  go_wp2_with fail
  refine (hrg _).mono ?_
  rintro z w3 ⟨rfl, hb3⟩
  have hE3 := hE2.tr hb3
  have hF3 := hF2.ext hb3
  have hG3 := hG2.ext hb3
  clear f0 f1 hE2 hF2 hG2 hb3
  obtain ⟨f0, f1⟩ := hF3.facts
  go_wp2_with fail
  refine (hwd _).mono ?_
  rintro z w4 ⟨rfl, hb4⟩
  have hE4 := hE3.tr hb4
  have hF4 := hF3.ext hb4
  have hG4 := hG3.ext hb4
  clear f0 f1 hE3 hF3 hG3 hb4
  obtain ⟨f0, f1⟩ := hF4.facts
  go_wp2_with fail
  refine (hlm _).mono ?_
  rintro z w5 ⟨u1, u2, u3, rfl, ⟨v1, rfl, ho1⟩, ⟨v2, rfl, ho2⟩, ⟨v3, rfl, ho3⟩, hb5⟩
  rw [show cn 0 = [] from digs_zero B] at ho1 ho2 ho3
  obtain ⟨A1, c1, rfl, -⟩ := ho1.rd
  obtain ⟨A2, c2, rfl, -⟩ := ho2.rd
  obtain ⟨A3, c3, rfl, -⟩ := ho3.rd
  simp only [List.length_nil]
  have hE5 := hE4.tr hb5
  have hF5 := hF4.ext hb5
  have hG5 := hG4.ext hb5
  have hlf5 := hF5.lt
  have hlg5 := hG5.lt
  have hlf6 : w.heap.size < w5.heap.size + 1 := by omega
  have hlf7 : w.heap.size < w5.heap.size + 1 + 1 := by omega
  clear f0 f1 hE4 hF4 hG4 hb5
  obtain ⟨f0, f1⟩ := hF5.facts
  obtain ⟨hX1, hX2, hX3, hA6⟩ := boxes3L w5 (.int .i64 0) (.bool false) (.int .i64 0) (.slice A1 0 c1) (.int .i64 0) (.bool false) (.int .i64 0) (.slice A2 0 c2) (.int .i64 0) (.bool false) (.int .i64 0) (.slice A3 0 c3) _ rfl
  go_wp2_with fail
  have hE6 := hE5.tr hA6
  have hF6 := hF5.ext hA6
  have hG6 := hG5.ext hA6
  generalize (((w5.alloc (.cells #[.int .i64 0, .bool false, .int .i64 0, .slice A1 0 c1] 36)).alloc (.cells #[.int .i64 0, .bool false, .int .i64 0, .slice A2 0 c2] 36)).alloc (.cells #[.int .i64 0, .bool false, .int .i64 0, .slice A3 0 c3] 36)) = V6 at *
  refine (hch _).mono ?_
  rintro z w7 ⟨rfl, hb7⟩
  have hE7 := hE6.tr hb7
  have hX1' := hX1.ext hb7
  have hX2' := hX2.ext hb7
  have hX3' := hX3.ext hb7
  clear f0 f1
  obtain ⟨a0, a1, a2, a3, -⟩ := hX1'.facts
  go_wp2_with fail
  refine (hnn _ _ _).mono ?_
  rintro z w8 ⟨rfl, hb8⟩
  have hE8 := hE7.tr hb8
  obtain ⟨b0, b1, b2, b3, -⟩ := (hX2'.ext hb8).facts
  clear a0 a1 a2 a3
  go_wp2_with fail
  refine (hnn _ _ _).mono ?_
  rintro z w9 ⟨rfl, hb9⟩
  have hE9 := hE8.tr hb9
  obtain ⟨d0, d1, d2, d3, -⟩ := ((hX3'.ext hb8).ext hb9).facts
  clear b0 b1 b2 b3
  go_wp2_with fail
  refine (hnn _ _ _).mono ?_
  rintro z wa ⟨rfl, hba⟩
  have hEa := hE9.tr hba
  go_wp2_with fail
  refine (awake_c _ (hT.ext hEa) (hM.ext hEa)).mono ?_
  rintro z wb ⟨rfl, hbb⟩
  go_wp2
  go_ret
  exact ⟨rfl, hEa.tr hbb⟩
set_option maxHeartbeats 8000000 in
set_option maxRecDepth 100000 in
theorem formatChecks_yes (k p : Int) (w : World) (hT : Tab w) (hM : MapT w) (h : Rgt k p) :
    Calls Tryd.prog 3 #[.agg #[.int .i64 k, .int .i64 p]] w fun e w' => e = .returned (.bool true) ∧ Ext w w' := by
  have hF := Bf.new w (.int .i64 k) (.int .i64 p)
  have hA := (Ext.refl w).al (.cells #[.int .i64 k, .int .i64 p] 23)
  have hfm := fun w => fmt_c k p w
  have hck := fun w => rcheck15_c k p none 0 [] w ⟨by simp, by simp, fun i hi => absurd hi (by simp)⟩ (fun i hi => absurd hi (by simp))
  have hch := fun w => check_c k p w
  have hwd := fun w => width_c k p w
  have hrg := fun w => range_yes k p w h
  have hlm := fun w => limits_yes k p w h
  rw [chk_none] at hck
  rw [if_pos h] at hwd
  rw [fmtE_yes h] at hck hch hwd
  simp only [List.length_nil] at hck
  have hls := fun w => rleast_c k p w h.1 h.2.1
  have hgs := fun w => rgreat_c k p w h.1 h.2.1
  have hti := fun w => rtiny_c k p w h
  have htp := fun w => rtop_c k p w h
  have hno := fun w => rnormal_c k p w h
  have hbo := fun w => rbottom_c k p w h
  obtain ⟨o1, o2, o3⟩ := lim_ok h
  obtain ⟨hk1, hk2, hp1, hp2⟩ := h
  obtain ⟨-, hl2, -⟩ := top_len hp1 hp2
  have hi1 := fun A A' c c' w h h' => lis_self _ o1 (by simp only; omega) A A' c c' w h h'
  have hi2 := fun A A' c c' w h h' => lis_self _ o2 (by simp only [cn_one]; simp) A A' c c' w h h'
  have hi3 := fun A A' c c' w h h' => lis_self _ o3 (by simp only [cn_one]; simp) A A' c c' w h h'
  have hw1 : IntKind.i64.wrap (k + p) = k + p := by rw [IntKind.wrap_i64]; omega
  simp only at hi1 hi2 hi3
  clear o1 o2 o3 hl2
  generalize 2 ^ p.toNat - 1 = T at *
  generalize gr k - p + 1 = E at *
  generalize gr k = g at *
  generalize le k = l at *
  generalize ti k p = t at *
  have HF := Lib.hid hF
  have HA := Lib.hid hA
  clear hF hA
  go_enter Tryd.func3, Tryd.ntmps3
  go_wp2_with fail
  have hF := HF.out
  have hE := HA.out
  clear HF HA
  generalize w.alloc (.cells #[.int .i64 k, .int .i64 p] 23) = W at *
  refine (hfm _).mono ?_
  rintro z w1 ⟨rfl, hb1⟩
  have hG := Bg.new w1 (.int .i64 k) (.int .i64 p)
  have hA1 := (Ext.refl w1).al (.cells #[.int .i64 k, .int .i64 p] 24)
  have hlf1 := (hF.ext hb1).lt
  go_wp2_with fail
  have hE1 := (hE.tr hb1).tr hA1
  have hF1 := (hF.ext hb1).ext hA1
  generalize w1.alloc (.cells #[.int .i64 k, .int .i64 p] 24) = V1 at *
  clear hE hF hA1 hb1
  refine (hck _).mono ?_
  rintro z w2 ⟨rfl, hb2⟩
  have hE2 := hE1.tr hb2
  have hF2 := hF1.ext hb2
  have hG2 := hG.ext hb2
  obtain ⟨f0, f1⟩ := hF2.facts
  clear hE1 hF1 hG hb2
  go_wp2_with fail
  refine (hrg _).mono ?_
  rintro z w3 ⟨rfl, hb3⟩
  have hE3 := hE2.tr hb3
  have hF3 := hF2.ext hb3
  have hG3 := hG2.ext hb3
  clear f0 f1 hE2 hF2 hG2 hb3
  obtain ⟨f0, f1⟩ := hF3.facts
  go_wp2_with fail
  refine (hwd _).mono ?_
  rintro z w4 ⟨rfl, hb4⟩
  have hE4 := hE3.tr hb4
  have hF4 := hF3.ext hb4
  have hG4 := hG3.ext hb4
  clear f0 f1 hE3 hF3 hG3 hb4
  obtain ⟨f0, f1⟩ := hF4.facts
  go_wp2_with fail
  refine (hlm _).mono ?_
  rintro z w5 ⟨u1, u2, u3, rfl, ⟨v1, rfl, ho1⟩, ⟨v2, rfl, ho2⟩, ⟨v3, rfl, ho3⟩, hb5⟩
  obtain ⟨A1, c1, rfl, r1⟩ := ho1.rd
  obtain ⟨A2, c2, rfl, r2⟩ := ho2.rd
  obtain ⟨A3, c3, rfl, r3⟩ := ho3.rd
  have hE5 := hE4.tr hb5
  have hF5 := hF4.ext hb5
  have hG5 := hG4.ext hb5
  have hlf5 := hF5.lt
  have hlg5 := hG5.lt
  have hlf6 : w.heap.size < w5.heap.size + 1 := by omega
  have hlf7 : w.heap.size < w5.heap.size + 1 + 1 := by omega
  clear f0 f1 hE4 hF4 hG4 hb5
  obtain ⟨f0, f1⟩ := hF5.facts
  obtain ⟨hX1, hX2, hX3, hA6⟩ := boxes3L w5 (.int .i64 1) (.bool false) (.int .i64 E) (.slice A1 (cn T).length c1) (.int .i64 1) (.bool false) (.int .i64 l) (.slice A2 (cn 1).length c2) (.int .i64 1) (.bool false) (.int .i64 t) (.slice A3 (cn 1).length c3) _ rfl
  go_wp2_with fail
  have hE6 := hE5.tr hA6
  have hF6 := hF5.ext hA6
  have hG6 := hG5.ext hA6
  have r1' := r1.ext hA6
  have r2' := r2.ext hA6
  have r3' := r3.ext hA6
  generalize (((w5.alloc (.cells #[.int .i64 1, .bool false, .int .i64 E, .slice A1 (cn T).length c1] 36)).alloc (.cells #[.int .i64 1, .bool false, .int .i64 l, .slice A2 (cn 1).length c2] 36)).alloc (.cells #[.int .i64 1, .bool false, .int .i64 t, .slice A3 (cn 1).length c3] 36)) = V6 at *
  refine (hch _).mono ?_
  rintro z w7 ⟨rfl, hb7⟩
  have hE7 := hE6.tr hb7
  clear f0 f1
  obtain ⟨f0, f1⟩ := (hF6.ext hb7).facts
  obtain ⟨g0, g1⟩ := (hG6.ext hb7).facts
  obtain ⟨a0, a1, a2, a3, -⟩ := (hX1.ext hb7).facts
  obtain ⟨b0, b1, b2, b3, -⟩ := (hX2.ext hb7).facts
  obtain ⟨d0, d1, d2, d3, -⟩ := (hX3.ext hb7).facts
  have q1 := r1'.ext hb7
  have q2 := r2'.ext hb7
  have q3 := r3'.ext hb7
  clear hlf5 hlg5
  go_wp2_with fail
  go_region_held3 (fun w' => w'.cell? ⟨w.heap.size, 0, none⟩ = some (.int .i64 k) ∧ w'.cell? ⟨w.heap.size, 1, none⟩ = some (.int .i64 p) ∧ w'.cell? ⟨w1.heap.size, 0, none⟩ = some (.int .i64 k) ∧ w'.cell? ⟨w1.heap.size, 1, none⟩ = some (.int .i64 p) ∧
      w'.cell? ⟨w5.heap.size, 0, none⟩ = some (.int .i64 1) ∧ w'.cell? ⟨w5.heap.size, 1, none⟩ = some (.bool false) ∧ w'.cell? ⟨w5.heap.size, 2, none⟩ = some (.int .i64 E) ∧ w'.cell? ⟨w5.heap.size, 3, none⟩ = some (.slice A1 (cn T).length c1) ∧
      w'.cell? ⟨w5.heap.size + 1, 0, none⟩ = some (.int .i64 1) ∧ w'.cell? ⟨w5.heap.size + 1, 1, none⟩ = some (.bool false) ∧ w'.cell? ⟨w5.heap.size + 1, 2, none⟩ = some (.int .i64 l) ∧ w'.cell? ⟨w5.heap.size + 1, 3, none⟩ = some (.slice A2 (cn 1).length c2) ∧
      w'.cell? ⟨w5.heap.size + 1 + 1, 0, none⟩ = some (.int .i64 1) ∧ w'.cell? ⟨w5.heap.size + 1 + 1, 1, none⟩ = some (.bool false) ∧ w'.cell? ⟨w5.heap.size + 1 + 1, 2, none⟩ = some (.int .i64 t) ∧ w'.cell? ⟨w5.heap.size + 1 + 1, 3, none⟩ = some (.slice A3 (cn 1).length c3))
    (first | go_keep | (go_split_ands; refine ⟨?_, ?_, ?_, ?_, ?_, ?_, ?_, ?_, ?_, ?_, ?_, ?_, ?_, ?_, ?_, ?_⟩ <;> (refine Ext.cell (w := w7) (by assumption) ?_; assumption)))
    (first
      | (go_at_call 19; (with_reducible refine (hls _).mono ?_); rintro z k1 ⟨rfl, j1⟩; have i1 : Ext w7 k1 := (Ext.refl w7).drew.tr j1)
      | (go_at_call 20; (with_reducible refine (hgs _).mono ?_); rintro z k2 ⟨rfl, j2⟩; have i2 : Ext w7 k2 := i1.tr j2)
      | (go_at_call 21; (with_reducible refine (hti _).mono ?_); rintro z k3 ⟨rfl, j3⟩; have i3 : Ext w7 k3 := i2.tr j3)
      | (go_at_call 23; (with_reducible refine (htp _).mono ?_); rintro z k4 ⟨u4, rfl, ⟨v4, rfl, ho4⟩, j4⟩; obtain ⟨B4, d4, rfl, s4⟩ := ho4.rd; have i4 : Ext w7 k4 := i3.tr j4)
      | (go_at_call 22; (with_reducible refine (hi1 A1 B4 c1 d4 _ (q1.ext i4) s4).mono ?_); rintro z k5 ⟨rfl, j5⟩; have i5 : Ext w7 k5 := i4.tr j5)
      | (go_at_call 24; (with_reducible refine (hno _).mono ?_); rintro z k6 ⟨u6, rfl, ⟨v6, rfl, ho6⟩, j6⟩; obtain ⟨B6, d6, rfl, s6⟩ := ho6.rd; have i6 : Ext w7 k6 := i5.tr j6)
      | (go_at_call 22; (with_reducible refine (hi2 A2 B6 c2 d6 _ (q2.ext i6) s6).mono ?_); rintro z k7 ⟨rfl, j7⟩; have i7 : Ext w7 k7 := i6.tr j7)
      | (go_at_call 25; (with_reducible refine (hbo _).mono ?_); rintro z k8 ⟨u8, rfl, ⟨v8, rfl, ho8⟩, j8⟩; obtain ⟨B8, d8, rfl, s8⟩ := ho8.rd; have i8 : Ext w7 k8 := i7.tr j8)
      | (go_at_call 22; (with_reducible refine (hi3 A3 B8 c3 d8 _ (q3.ext i8) s8).mono ?_); rintro z k9 ⟨rfl, j9⟩; have i9 : Ext w7 k9 := i8.tr j9)
      | (go_at_call 18; (with_reducible refine (awake_c _ (hT.ext (hE7.tr i9)) (hM.ext (hE7.tr i9))).mono ?_); rintro z ka ⟨rfl, ja⟩; have ia : Ext w7 ka := i9.tr ja))
  go_wp2
  go_ret
  exact ⟨rfl, hE7.tr ia⟩
theorem formatChecks_c (k p : Int) (w : World) (hT : Tab w) (hM : MapT w) :
    Calls Tryd.prog 3 #[.agg #[.int .i64 k, .int .i64 p]] w fun e w' => e = .returned (.bool true) ∧ Ext w w' := by
  by_cases h : Rgt k p
  · exact formatChecks_yes k p w hT hM h
  · exact formatChecks_no k p w hT hM h
end Go.Proofs.YtgkojhhodncpbaaDoor
