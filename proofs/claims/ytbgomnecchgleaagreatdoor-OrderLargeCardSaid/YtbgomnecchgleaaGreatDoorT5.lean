/- package reckonerlaw15: Long, NoRat; format.Of at too many words. -/
import Derived.Test.YtbgomnecchgleaaGreatDoorT3
set_option linter.unusedVariables false
set_option linter.unusedSimpArgs false
namespace Go.Proofs.YtbgomnecchgleaaGreatDoor
open Go.RowKit
attribute [local go_sem ↓] Go.wp_at_zero Go.wp_at_succ

/-- The words of a float, and the zeros behind them. -/
def padW (xs : List Nat) (i : Nat) : List Nat := xs.take i ++ List.replicate (4097 - i) 0
theorem padW_len {xs : List Nat} {i : Nat} (hi : i ≤ xs.length) (h4 : i ≤ 4097) : (padW xs i).length = 4097 := by unfold padW; simp; omega
theorem padW_set {xs : List Nat} {i : Nat} (hi : i < xs.length) (h4 : i < 4097) : (padW xs i).set i (xs.getD i 0) = padW xs (i + 1) := by
  unfold padW
  have ht : (xs.take i).length = i := by simp; omega
  rw [List.set_append_right _ _ (by omega), ht, Nat.sub_self]
  obtain ⟨r, hr⟩ : ∃ r, 4097 - i = r + 1 := ⟨4096 - i, by omega⟩
  rw [hr, show 4097 - (i + 1) = r by omega, List.replicate_succ, List.set_cons_zero, List.take_succ_eq_append_getElem hi, List.append_assoc]
  simp [List.getD_eq_getElem?_getD, List.getElem?_eq_getElem hi]
theorem padW_val (xs : List Nat) : val (padW xs xs.length) = val xs := by
  unfold padW
  rw [List.take_length]
  show valb B (xs ++ _) = valb B xs
  rw [valb_append, valb_zeros]; simp
set_option maxHeartbeats 2000000 in
set_option maxRecDepth 100000 in
theorem long_c (k e : Int) (neg : Bool) (A : Option Addr) (c : Nat) (xs : List Nat) (w : World) (h : Rd w A c xs) (hs : xs.length ≤ 40) :
    Calls Tryz.prog 6 #[flV k neg e (.slice A xs.length c)] w fun z w' => ∃ g, z = .returned (flV k neg e (.slice (some ⟨g, 0, none⟩) 4097 4097)) ∧ Bk w' g (padW xs xs.length) ∧ Ext w w' := by
  have hX := Bx.new w (.int .i64 k) (.bool neg) (.int .i64 e) (.slice A xs.length c)
  have hY := Bx.new (w.alloc (.cells #[.int .i64 k, .bool neg, .int .i64 e, .slice A xs.length c] 29)) (.int .i64 0) (.bool false) (.int .i64 0) (.slice none 0 0)
  have hE := ((Ext.refl w).al (.cells #[.int .i64 k, .bool neg, .int .i64 e, .slice A xs.length c] 29)).al (.cells #[.int .i64 0, .bool false, .int .i64 0, .slice none 0 0] 29)
  rw [World.size_alloc] at hY
  replace hX := hX.ext ((Ext.refl _).al (.cells #[.int .i64 0, .bool false, .int .i64 0, .slice none 0 0] 29))
  have HX := Lib.hid hX
  have HY := Lib.hid hY
  have HE := Lib.hid hE
  clear hX hY hE
  go_enter Tryz.func6, Tryz.ntmps6
  go_wp2_with (at_make; refine wp_make rfl _ _ _ rfl Tryz.underlying26 4097 _ rfl rfl rfl (by omega) ?_; intro g w1 hg hbk hb1)
  have hlt0 := HY.out.lt
  have hX := HX.out.ext hb1
  have hY := HY.out.ext hb1
  have hE := HE.out.tr hb1
  have HG := Lib.hid (show w.heap.size + 1 < g by omega)
  clear HX HY HE hg hlt0 hb1
  have HBK := Lib.hid hbk
  clear hbk
  go_loopw [4] (fun v4 wr => ∃ i : Nat, i ≤ xs.length ∧ v4 = .int .i64 i ∧ Bk wr g (padW xs i) ∧ Bx wr w.heap.size (.int .i64 k) (.bool neg) (.int .i64 e) (.slice A xs.length c) ∧ Bx wr (w.heap.size + 1) (.int .i64 0) (.bool false) (.int .i64 0) (.slice none 0 0) ∧ Ext w wr) (fun v _ => xs.length - (intOf v).toNat)
  case atStart => exact ⟨0, Nat.zero_le _, rfl, by unfold padW; simpa using HBK.out, hX, hY, hE⟩
  case round =>
    obtain ⟨i, hi, rfl, hbk, hXr, hYr, he⟩ := hrel
    obtain ⟨x0, x1, x2, x3, xf⟩ := hXr.facts
    by_cases hlt : i < xs.length
    · have hfz := hbk.frozen i
      have hcell := hbk.cell i (by rw [padW_len hi (by omega)]; omega)
      obtain ⟨ad, rfl, hx⟩ := h.cell i hlt
      have hx' := he.cell hx
      have hxB : xs.getD i 0 < B := h.w64.get i
      have hset := padW_set hlt (show i < 4097 by omega)
      have HSET := Lib.hid hset
      have HBK2 := Lib.hid (hbk.set i _ hxB)
      have HXR := Lib.hid hXr
      have HYR := Lib.hid hYr
      have HEE := Lib.hid he
      clear hx hset hbk hXr hYr he
      generalize xs.getD i 0 = x at *
      generalize (padW xs i).getD i 0 = y at *
      go_wp2
      go_roundw
      case rel => exact ⟨i + 1, hlt, rfl, by rw [← HSET.out]; exact HBK2.out, HXR.out.far (by have := HG.out; simp; omega) _, HYR.out.far (by have := HG.out; simp; omega) _, HEE.out.set (by have := HG.out; omega) _ _⟩
      case measure => simp [intOf]; omega
    · obtain rfl : i = xs.length := by omega
      have hXs := hXr.s3 (.slice (some ⟨g, 0, none⟩) 4097 4097)
      have hYs := hYr.far (p := ⟨w.heap.size, 3, none⟩) (by simp) (.slice (some ⟨g, 0, none⟩) 4097 4097)
      have hlg := HG.out
      have hYf := hYs.put (.int .i64 k) (.bool neg) (.int .i64 e) (.slice (some ⟨g, 0, none⟩) 4097 4097)
      have hbf := ((((hbk.far (p := ⟨w.heap.size, 3, none⟩) (by simp; omega) (.slice (some ⟨g, 0, none⟩) 4097 4097)).far (p := ⟨w.heap.size + 1, 0, none⟩) (by simp; omega) (.int .i64 k)).far (p := ⟨w.heap.size + 1, 1, none⟩) (by simp; omega) (.bool neg)).far (p := ⟨w.heap.size + 1, 2, none⟩) (by simp; omega) (.int .i64 e)).far (p := ⟨w.heap.size + 1, 3, none⟩) (by simp; omega) (.slice (some ⟨g, 0, none⟩) 4097 4097)
      have hef := (he.set (g := w.heap.size) (Nat.le_refl _) 3 (.slice (some ⟨g, 0, none⟩) 4097 4097)).put (g := w.heap.size + 1) (by omega) (.int .i64 k) (.bool neg) (.int .i64 e) (.slice (some ⟨g, 0, none⟩) 4097 4097)
      have HYF := Lib.hid hYf
      have HBF := Lib.hid hbf
      have HEF := Lib.hid hef
      obtain ⟨s0, s1, s2, s3, sf⟩ := hXs.facts
      obtain ⟨t0, t1, t2, t3, tf⟩ := hYs.facts
      clear hYf hbf hef hbk hXr hYr he hXs hYs
      go_wp2
      obtain ⟨r0, r1, r2, r3, rf⟩ := HYF.out.facts
      refine bodyPost_ret (v := flV k neg e (.slice (some ⟨g, 0, none⟩) 4097 4097)) (by simp [results, Tryz.results6, go_sem, r0, r1, r2, r3]) rfl ?_
      exact ⟨g, rfl, HBF.out, HEF.out⟩
end Go.Proofs.YtbgomnecchgleaaGreatDoor
