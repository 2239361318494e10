/- package format: Of, at the value of a float. -/
import Derived.Test.YtknafhogaheacaaDoorT3
import Derived.Test.YtknafhogaheacaaDoorV2
import Derived.Test.YtknafhogaheacaaDoorT8
set_option linter.unusedVariables false
set_option linter.unusedSimpArgs false
namespace Go.Proofs.YtknafhogaheacaaDoor
open Go.RowKit
attribute [local go_sem ↓] Go.wp_at_zero Go.wp_at_succ

theorem there_can {f : Fl} (h : f.Ok) (hk : f.kind = 1) : canon 1 f.neg (-(((-f.exp).toNat : Nat) : Int)) (f.mag * 2 ^ f.exp.toNat) = some f := by
  obtain ⟨fk, fn, fe, fm⟩ := f
  simp only at hk
  subst hk
  have ho := h.odd rfl
  have hlo := h.lo
  have hhi := h.hi
  simp only at ho hlo hhi
  have hp : 0 < fm := by omega
  have ht : tz (fm * 2 ^ fe.toNat) = fe.toNat := by rw [Nat.mul_comm, tz_mul_pow _ _ hp, tz_odd ho]; omega
  have hd : fm * 2 ^ fe.toNat / 2 ^ fe.toNat = fm := Nat.mul_div_cancel _ (Nat.two_pow_pos _)
  have h0 : fm * 2 ^ fe.toNat ≠ 0 := Nat.pos_iff_ne_zero.1 (Nat.mul_pos hp (Nat.two_pow_pos _))
  unfold canon
  simp only
  rw [if_neg (by omega), if_neg (by omega), if_pos True.intro, if_neg (by omega), ht, if_pos (by omega), hd]
  congr 2
  omega
/-- The two boxes of Of. -/
theorem boxesOf (w : World) (neg : Bool) (v1 v2 : Value) : ∀ W, W = ((w.alloc (.cells #[.bool neg, v1, v2] 27)).alloc (.cells #[.int .i64 0, .bool false, .int .i64 0, .slice none 0 0] 31)) →
    Bq W w.heap.size (.bool neg) v1 v2 ∧ Bx W (w.heap.size + 1) (.int .i64 0) (.bool false) (.int .i64 0) (.slice none 0 0) ∧ Ext w W := by
  rintro W rfl
  have h1 := (Ext.refl w).al (.cells #[.bool neg, v1, v2] 27)
  have x2 := Bx.new (w.alloc (.cells #[.bool neg, v1, v2] 27)) (.int .i64 0) (.bool false) (.int .i64 0) (.slice none 0 0)
  rw [World.size_alloc] at x2
  exact ⟨(Bq.new w _ _ _).ext ((Ext.refl _).al _), x2, h1.al _⟩
set_option maxHeartbeats 2000000 in
set_option maxRecDepth 100000 in
/-- Of, at 0. -/
theorem of_zero (neg : Bool) (A1 A2 : Option Addr) (c1 c2 : Nat) (ds : List Nat) (w : World) (h2 : Rd w A2 c2 ds) (hl2 : ds.length ≤ 4096) (hd : 0 < val ds) :
    Calls Tryd.prog 5 #[ratV neg (.slice A1 0 c1) (.slice A2 ds.length c2)] w fun z w' => z = .returned (.tuple #[flV 0 false 0 (.slice none 0 0), .int .i64 0]) ∧ Ext w w' := by
  obtain ⟨hQ, hY, hE⟩ := boxesOf w neg (.slice A1 0 c1) (.slice A2 ds.length c2) _ rfl
  have hz2 := fun w h => zero_c A2 c2 ds w h
  have hz1 := fun w => zero_c A1 c1 [] w (Rd.nil w _ _)
  rw [show decide (val ds = 0) = false by rw [decide_eq_false_iff_not]; omega] at hz2
  simp only [show decide (val [] = 0) = true from rfl, List.length_nil] at hz1
  have g2 : decide ((4096 : Int) < (ds.length : Int)) = false := by rw [decide_eq_false_iff_not]; omega
  have HQ := Lib.hid hQ
  have HY := Lib.hid hY
  have HE := Lib.hid hE
  clear hQ hY hE hd hl2
  go_enter Tryd.func5, Tryd.ntmps5
  go_wp2_with fail
  have hQ := HQ.out
  have hY := HY.out
  have hE := HE.out
  clear HQ HY HE
  generalize ((w.alloc (.cells #[.bool neg, .slice A1 0 c1, .slice A2 ds.length c2] 27)).alloc (.cells #[.int .i64 0, .bool false, .int .i64 0, .slice none 0 0] 31)) = W at *
  obtain ⟨q0, q1, q2, qf⟩ := hQ.facts
  obtain ⟨y0, y1, y2, y3, yf⟩ := hY.facts
  refine (hz2 _ (h2.ext hE)).mono ?_
  rintro z w1 ⟨rfl, n1, rfl⟩
  go_wp2_with fail
  refine (hz1 _).mono ?_
  rintro z w1 ⟨rfl, n2, rfl⟩
  go_wp2_with fail
  have hE3 := (hE.drewN (n1 + n2)).put (g := w.heap.size + 1) (by omega) (.int .i64 0) (.bool false) (.int .i64 0) (.slice none 0 0)
  have hY3 := (hY.ext ((Ext.refl W).drewN (n1 + n2))).put (.int .i64 0) (.bool false) (.int .i64 0) (.slice none 0 0)
  obtain ⟨r0, r1, r2, r3, rf⟩ := hY3.facts
  refine bodyPost_ret (v := .tuple #[flV 0 false 0 (.slice none 0 0), .int .i64 0]) (by simp [results, Tryd.results5, go_sem, r0, r1, r2, r3]) rfl ?_
  exact ⟨rfl, hE3⟩
set_option maxHeartbeats 4000000 in
set_option maxRecDepth 100000 in
/-- Of, at a number whose denominator is a power of 2. -/
theorem of_fin (neg : Bool) (num s : Nat) (f : Fl) (A1 A2 : Option Addr) (c1 c2 : Nat) (w : World) (hT : Tab w) (h1 : Rd w A1 c1 (cn num)) (h2 : Rd w A2 c2 (cn (2 ^ s))) (hl1 : (cn num).length ≤ 4096) (hl2 : (cn (2 ^ s)).length ≤ 4096)
    (hs : s ≤ 1000000) (hn : 0 < num) (hf : canon 1 neg (-(s : Int)) num = some f) :
    Calls Tryd.prog 5 #[ratV neg (.slice A1 (cn num).length c1) (.slice A2 (cn (2 ^ s)).length c2)] w (FErr w 0 f) := by
  obtain ⟨hQ, hY, hE⟩ := boxesOf w neg (.slice A1 (cn num).length c1) (.slice A2 (cn (2 ^ s)).length c2) _ rfl
  have hz2 := fun w h => zero_c A2 c2 (cn (2 ^ s)) w h
  have hz1 := fun w h => zero_c A1 c1 (cn num) w h
  rw [val_cn, show decide (2 ^ s = 0) = false by rw [decide_eq_false_iff_not]; exact Nat.pos_iff_ne_zero.1 (Nat.two_pow_pos s)] at hz2
  rw [val_cn, show decide (num = 0) = false by rw [decide_eq_false_iff_not]; omega] at hz1
  have hz3 := fun (A : Option Addr) c w => zero_c A c [] w (Rd.nil w _ _)
  simp only [show decide (val [] = 0) = true from rfl, List.length_nil] at hz3
  have htr := fun w h hT => trailing_c A2 c2 (cn (2 ^ s)) w h (by omega) hT
  have htz : tz (2 ^ s) = s := by have := tz_mul_pow 1 s (by omega); rwa [Nat.mul_one, show tz 1 = 0 from tz_odd rfl, Nat.add_zero] at this
  rw [val_cn, htz] at htr
  have hsh := fun w h => shr_c A2 c2 (cn (2 ^ s)) s w h (by omega) (by omega)
  rw [val_cn, Nat.div_self (Nat.two_pow_pos s), cn_one] at hsh
  have hdm := fun A c w h h' => divmod_one A1 A c1 c (cn num) w h h' (by rw [val_cn]; exact hn) (by omega)
  rw [val_cn] at hdm
  have hcn := fun A c w hT h => canonical_c 1 neg (-(s : Int)) A c (cn num) w hT h (by omega)
  rw [val_cn, hf] at hcn
  have hw1 : IntKind.i64.wrap (-(s : Int)) = -(s : Int) := by rw [IntKind.wrap_i64]; omega
  have g1 : decide ((4096 : Int) < ((cn num).length : Int)) = false := by rw [decide_eq_false_iff_not]; omega
  have g2 : decide ((4096 : Int) < ((cn (2 ^ s)).length : Int)) = false := by rw [decide_eq_false_iff_not]; omega
  have HQ := Lib.hid hQ
  have HY := Lib.hid hY
  have HE := Lib.hid hE
  clear hQ hY hE hn hf hl1 hl2 htz
  generalize cn (2 ^ s) = ds at *
  generalize cn num = ns at *
  go_enter Tryd.func5, Tryd.ntmps5
  go_wp2_with fail
  have hQ := HQ.out
  have hY := HY.out
  have hE := HE.out
  clear HQ HY HE
  generalize ((w.alloc (.cells #[.bool neg, .slice A1 ns.length c1, .slice A2 ds.length c2] 27)).alloc (.cells #[.int .i64 0, .bool false, .int .i64 0, .slice none 0 0] 31)) = W at *
  obtain ⟨q0, q1, q2, qf⟩ := hQ.facts
  refine (hz2 _ (h2.ext hE)).mono ?_
  rintro z w1 ⟨rfl, n1, rfl⟩
  go_wp2_with fail
  refine (hz1 _ (h1.ext (hE.drewN _))).mono ?_
  rintro z w1 ⟨rfl, n2, rfl⟩
  go_wp2_with fail
  refine (htr _ (h2.ext (hE.drewN _)) (hT.ext (hE.drewN _))).mono ?_
  rintro z w1 ⟨rfl, n3, rfl⟩
  go_wp2_with fail
  have hE3 := hE.drewN (n1 + n2 + n3)
  have hQ3 := hQ.ext ((Ext.refl W).drewN (n1 + n2 + n3))
  have hY3 := hY.ext ((Ext.refl W).drewN (n1 + n2 + n3))
  clear hE hQ hY q0 q1 q2 qf
  generalize W.drewN (n1 + n2 + n3) = W3 at *
  obtain ⟨q0, q1, q2, qf⟩ := hQ3.facts
  go_region_held3 (fun w' => w'.cell? ⟨w.heap.size, 1, none⟩ = some (.slice A1 ns.length c1) ∧ w'.cell? ⟨w.heap.size, 2, none⟩ = some (.slice A2 ds.length c2))
    (first | go_keep | (go_split_ands; refine ⟨?_, ?_⟩ <;> (refine Ext.cell (w := W3) (by assumption) ?_; assumption)))
    (first
      | (go_at_call 18; (with_reducible refine (hsh _ ?hr).mono ?_); (case hr => exact (h2.ext hE3).drew); rintro z w5 ⟨v, rfl, ho5, hb5⟩; obtain ⟨A5, c5, rfl, hr5⟩ := ho5.rd; have hE5 : Ext W3 w5 := (Ext.refl W3).drew.tr hb5)
      | (go_at_call 17; (with_reducible refine (hdm A5 c5 _ (h1.ext (hE3.tr hE5)) hr5).mono ?_); rintro z w6 ⟨v, v', rfl, ho6, ho6', hb6⟩; obtain ⟨A6, c6, rfl, hr6⟩ := ho6.rd; obtain ⟨A7, c7, rfl, -⟩ := ho6'.rd; have hE6 : Ext W3 w6 := hE5.tr hb6))
  have hE6' := hE3.tr hE6
  have hQ6 := hQ3.ext hE6
  have hY6 := hY3.ext hE6
  clear q0 q1 q2 qf
  obtain ⟨q0, q1, q2, qf⟩ := hQ6.facts
  obtain ⟨y0, y1, y2, y3, yf⟩ := hY6.facts
  go_wp2_with fail
  refine (hz3 _ _ _).mono ?_
  rintro z w7 ⟨rfl, n4, rfl⟩
  go_wp2_with fail
  refine (hcn _ _ _ (hT.ext (hE6'.drewN _)) (hr6.ext ((Ext.refl w6).drewN _))).mono ?_
  rintro z w8 ⟨u, rfl, hb8, hfl, -⟩
  obtain ⟨v, rfl, ho8⟩ := hfl f rfl
  obtain ⟨A8, c8, rfl, hr8⟩ := ho8.rd
  have hE8 := (hE6'.drewN n4).tr hb8
  have hY8 := hY6.ext (((Ext.refl w6).drewN n4).tr hb8)
  have hZ := Bx.new w8 (.int .i64 f.kind) (.bool f.neg) (.int .i64 f.exp) (.slice A8 (cn f.mag).length c8)
  have hA8 := (Ext.refl w8).al (.cells #[.int .i64 f.kind, .bool f.neg, .int .i64 f.exp, .slice A8 (cn f.mag).length c8] 31)
  have hly := hY8.lt
  have hs6 := hY6.lt
  have hs8 := hb8.size
  have hY9 := (hY8.put (.int .i64 f.kind) (.bool f.neg) (.int .i64 f.exp) (.slice A8 (cn f.mag).length c8)).ext ((Ext.refl _).al (.cells #[.int .i64 f.kind, .bool f.neg, .int .i64 f.exp, .slice A8 (cn f.mag).length c8] 31))
  have hE9 := (hE8.put (g := w.heap.size + 1) (by omega) (.int .i64 f.kind) (.bool f.neg) (.int .i64 f.exp) (.slice A8 (cn f.mag).length c8)).al (.cells #[.int .i64 f.kind, .bool f.neg, .int .i64 f.exp, .slice A8 (cn f.mag).length c8] 31)
  have ho9 := ((ho8.putBelow (g := w.heap.size + 1) (by simpa using hs6) (.int .i64 f.kind) (.bool f.neg) (.int .i64 f.exp) (.slice A8 (cn f.mag).length c8)).ext ((Ext.refl _).al (.cells #[.int .i64 f.kind, .bool f.neg, .int .i64 f.exp, .slice A8 (cn f.mag).length c8] 31))).low (b := w.heap.size) (by have := hE6'.size; simpa using this)
  have HY9 := Lib.hid hY9
  have HE9 := Lib.hid hE9
  have HO9 := Lib.hid ho9
  clear hY9 hE9 ho9 q0 q1 q2 qf y0 y1 y2 y3 yf
  obtain ⟨y0, y1, y2, y3, yf⟩ := hY8.facts
  go_wp2_with fail
  obtain ⟨r0, r1, r2, r3, rf⟩ := HY9.out.facts
  refine bodyPost_ret (v := .tuple #[flV f.kind f.neg f.exp (.slice A8 (cn f.mag).length c8), .int .i64 0]) (by simp [results, Tryd.results5, go_sem, r0, r1, r2, r3]) rfl ?_
  exact ⟨_, rfl, ⟨_, rfl, HO9.out⟩, HE9.out⟩
end Go.Proofs.YtknafhogaheacaaDoor
