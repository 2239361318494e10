/- package integer: large, sum, Sub. package integer: Sub. -/
import Derived.Test.YtlnfmngginihfaaGreatDoorO5
set_option linter.unusedVariables false
set_option linter.unusedSimpArgs false
namespace Go.Proofs.YtlnfmngginihfaaGreatDoor
open Go.RowKit

/-- A slice of integers. -/
def SlZ (w : World) (A : Option Addr) (n : Nat) (ys : Nat → Int) : Prop := ∀ i, i < n → ∃ ad, A = some ad ∧ ∃ A' c', w.cell? (ad.add (i * 2)) = some (.bool (decide (ys i < 0))) ∧
  w.cell? ⟨(ad.add (i * 2)).block, (ad.add (i * 2)).off + 1, none⟩ = some (.slice A' (cn (ys i).natAbs).length c') ∧ Rd w A' c' (cn (ys i).natAbs) ∧ (cn (ys i).natAbs).length ≤ 4096
theorem SlZ.ext {w w' : World} {A : Option Addr} {n : Nat} {ys : Nat → Int} (h : SlZ w A n ys) (hb : Ext w w') : SlZ w' A n ys := fun i hi => by
  obtain ⟨ad, e, A', c', h0, h1, hr, hm⟩ := h i hi
  exact ⟨ad, e, A', c', hb.cell h0, hb.cell h1, hr.ext hb, hm⟩
/-- A slice of integers of which none is large. -/
def SlL (w : World) (A : Option Addr) (n : Nat) : Prop := ∀ i, i < n → ∃ ad, A = some ad ∧ ∃ b A' m c', w.cell? (ad.add (i * 2)) = some (.bool b) ∧ w.cell? ⟨(ad.add (i * 2)).block, (ad.add (i * 2)).off + 1, none⟩ = some (.slice A' m c') ∧ m ≤ 4096
theorem SlL.ext {w w' : World} {A : Option Addr} {n : Nat} (h : SlL w A n) (hb : Ext w w') : SlL w' A n := fun i hi => by
  obtain ⟨ad, e, b, A', m, c', h0, h1, hm⟩ := h i hi
  exact ⟨ad, e, b, A', m, c', hb.cell h0, hb.cell h1, hm⟩
theorem SlL.two (w : World) (b1 b2 : Bool) (A1 A2 : Option Addr) (n1 c1 n2 c2 : Nat) (h1 : n1 ≤ 4096) (h2 : n2 ≤ 4096) : SlL (w.alloc (.cells #[.bool b1, .slice A1 n1 c1, .bool b2, .slice A2 n2 c2] 49)) (some ⟨w.heap.size, 0, none⟩) 2 := fun i hi => by
  have hn := heap_alloc_new w (.cells #[.bool b1, .slice A1 n1 c1, .bool b2, .slice A2 n2 c2] 49)
  have c := fun j => cell_of_row _ _ j _ _ _ hn
  rcases (show i = 0 ∨ i = 1 by omega) with rfl | rfl
  · exact ⟨_, rfl, b1, A1, n1, c1, c 0, c 1, h1⟩
  · exact ⟨_, rfl, b2, A2, n2, c2, c 2, c 3, h2⟩
theorem ilone_c (b : Bool) (A : Option Addr) (n c : Nat) (w : World) (hn : n ≤ 4096) : Calls Tryz.prog 76 #[intV b A n c] w fun e w' => e = .returned (.bool false) ∧ Ext w w' := by
  have hd : decide ((4096 : Int) < (n : Int)) = false := by rw [decide_eq_false_iff_not]; omega
  have hA := (Ext.refl w).al (.cells #[.bool b, .slice A n c] 49)
  go_enter Tryz.func76, Tryz.ntmps76
  go_wp2
  go_ret
  exact ⟨rfl, hA⟩
set_option maxHeartbeats 1000000 in
set_option maxRecDepth 100000 in
theorem ilidx_c (A : Option Addr) (n c : Nat) (w : World) (hn : n ≤ 1000) (h : SlL w A n) : Calls Tryz.prog 94 #[.slice A n c, .func (.func 76) #[] #[]] w fun e w' => e = .returned (.int .i64 (-1)) ∧ Ext w w' := by
  go_enter Tryz.func94, Tryz.ntmps94
  go_wp2
  go_loopw [8] (fun v wr => ∃ i : Nat, i ≤ n ∧ v = .int .i64 i ∧ Ext w wr) (fun v _ => n - (intOf v).toNat)
  case atStart => exact ⟨0, Nat.zero_le _, rfl, Ext.refl w⟩
  case round =>
    obtain ⟨i, hi, rfl, hE⟩ := hrel
    by_cases hlt : i < n
    · obtain ⟨ad, rfl, b, A', m, c', hc0, hc1, hm⟩ := h.ext hE i hlt
      have h1 := fun w => ilone_c b A' m c' w hm
      have hidx : ((i : Int) * 2).toNat = i * 2 := by omega
      go_wp2_with fail
      refine (h1 _).mono ?_
      rintro z w2 ⟨rfl, hb2⟩
      have hE2 := hE.tr hb2
      go_wp2
      go_roundw
      case rel => exact ⟨i + 1, hlt, by go_num, hE2⟩
      case measure => simp [intOf]; omega
    · obtain rfl : i = n := by omega
      go_wp2
      go_ret
      exact ⟨rfl, hE⟩
set_option maxHeartbeats 1000000 in
set_option maxRecDepth 100000 in
theorem ilarge_c (A : Option Addr) (n c : Nat) (w : World) (hn : n ≤ 1000) (h : SlL w A n) : Calls Tryz.prog 47 #[.slice A n c] w fun e w' => e = .returned (.bool false) ∧ Ext w w' := by
  have h1 := ilidx_c A n c w hn h
  have hcon : Calls Tryz.prog 75 #[.slice A n c, .func (.func 76) #[] #[]] w fun e w' => e = .returned (.bool false) ∧ Ext w w' := by
    go_enter Tryz.func75, Tryz.ntmps75
    go_wp2_with fail
    refine h1.mono ?_
    rintro z w2 ⟨rfl, hb⟩
    go_wp2
    go_ret
    exact ⟨rfl, hb⟩
  go_enter Tryz.func47, Tryz.ntmps47
  go_wp2_with fail
  refine hcon.mono ?_
  rintro z w2 ⟨rfl, hb⟩
  go_wp2
  go_ret
  exact ⟨rfl, hb⟩
/-- The sum of the first ones. -/
def sumZ (ys : Nat → Int) : Nat → Int
  | 0 => 0
  | n + 1 => sumZ ys n + ys n
theorem sum_cases (s y : Int) : ((decide (s < 0) == decide (y < 0)) = true ∧ sg (decide (s < 0)) (s.natAbs + y.natAbs) = s + y) ∨
    ((decide (s < 0) == decide (y < 0)) = false ∧ decide (0 ≤ cmp3 s.natAbs y.natAbs) = true ∧ y.natAbs ≤ s.natAbs ∧ sg (decide (s < 0)) (s.natAbs - y.natAbs) = s + y) ∨
    ((decide (s < 0) == decide (y < 0)) = false ∧ decide (0 ≤ cmp3 s.natAbs y.natAbs) = false ∧ s.natAbs ≤ y.natAbs ∧ sg (decide (y < 0)) (y.natAbs - s.natAbs) = s + y) := by
  by_cases h1 : s < 0 <;> by_cases h2 : y < 0
  · refine .inl ⟨by rw [decide_eq_true h1, decide_eq_true h2]; rfl, ?_⟩
    rw [decide_eq_true h1]; unfold sg; rw [if_pos rfl]; omega
  · by_cases h3 : y.natAbs ≤ s.natAbs
    · refine .inr (.inl ⟨by rw [decide_eq_true h1, decide_eq_false h2]; rfl, ?_, h3, ?_⟩)
      · rw [decide_eq_true_iff]
        rcases Nat.eq_or_lt_of_le h3 with e | e
        · rw [cmp3_eq e.symm]; omega
        · rw [cmp3_gt e]; omega
      · rw [decide_eq_true h1]; unfold sg; rw [if_pos rfl]; omega
    · refine .inr (.inr ⟨by rw [decide_eq_true h1, decide_eq_false h2]; rfl, ?_, by omega, ?_⟩)
      · rw [decide_eq_false_iff_not, cmp3_lt (by omega)]; omega
      · rw [decide_eq_false h2]; unfold sg; rw [if_neg (by simp)]; omega
  · by_cases h3 : y.natAbs ≤ s.natAbs
    · refine .inr (.inl ⟨by rw [decide_eq_false h1, decide_eq_true h2]; rfl, ?_, h3, ?_⟩)
      · rw [decide_eq_true_iff]
        rcases Nat.eq_or_lt_of_le h3 with e | e
        · rw [cmp3_eq e.symm]; omega
        · rw [cmp3_gt e]; omega
      · rw [decide_eq_false h1]; unfold sg; rw [if_neg (by simp)]; omega
    · refine .inr (.inr ⟨by rw [decide_eq_false h1, decide_eq_true h2]; rfl, ?_, by omega, ?_⟩)
      · rw [decide_eq_false_iff_not, cmp3_lt (by omega)]; omega
      · rw [decide_eq_true h2]; unfold sg; rw [if_pos rfl]; omega
  · refine .inl ⟨by rw [decide_eq_false h1, decide_eq_false h2]; rfl, ?_⟩
    rw [decide_eq_false h1]; unfold sg; rw [if_neg (by simp)]; omega
set_option maxHeartbeats 4000000 in
set_option maxRecDepth 100000 in
theorem isum_c (A : Option Addr) (n c : Nat) (ys : Nat → Int) (w : World) (hn : n ≤ 1000) (h : SlZ w A n ys) (hS : ∀ k, k ≤ n → (cn (sumZ ys k).natAbs).length ≤ 4096) :
    Calls Tryz.prog 48 #[.slice A n c] w fun e w' => ∃ A1 c1, e = .returned (.tuple #[intV (decide (sumZ ys n < 0)) A1 (cn (sumZ ys n).natAbs).length c1, .int .i64 0]) ∧ Own w' w.heap.size (.slice A1 (cn (sumZ ys n).natAbs).length c1) (cn (sumZ ys n).natAbs) ∧ Ext w w' := by
  have h1 := Bi.new w (.bool false) (.slice none 0 0)
  have h2 := Bi.new (w.alloc (.cells #[.bool false, .slice none 0 0] 49)) (.bool false) (.slice none 0 0)
  rw [World.size_alloc] at h2
  have hE := ((Ext.refl w).al (.cells #[.bool false, .slice none 0 0] 49)).al (.cells #[.bool false, .slice none 0 0] 49)
  replace h1 := h1.ext ((Ext.refl _).al (.cells #[.bool false, .slice none 0 0] 49))
  have H1 := Lib.hid h1
  have H2 := Lib.hid h2
  have HE := Lib.hid hE
  clear h1 h2 hE
  go_enter Tryz.func48, Tryz.ntmps48
  go_wp2_with fail
  go_loopw [12] (fun v wr => ∃ (i : Nat) (A1 : Option Addr) (c1 : Nat), i ≤ n ∧ v = .int .i64 i ∧ Bi wr w.heap.size (.bool false) (.slice none 0 0) ∧ Bi wr (w.heap.size + 1) (.bool (decide (sumZ ys i < 0))) (.slice A1 (cn (sumZ ys i).natAbs).length c1) ∧ Own wr (w.heap.size + 2) (.slice A1 (cn (sumZ ys i).natAbs).length c1) (cn (sumZ ys i).natAbs) ∧ Ext w wr) (fun v _ => n - (intOf v).toNat)
  case atStart => exact ⟨0, none, 0, Nat.zero_le _, rfl, H1.out, by have e := H2.out; simpa [sumZ, show cn 0 = [] from digs_zero B] using e, by rw [show sumZ ys 0 = 0 from rfl, show cn (0 : Int).natAbs = [] from digs_zero B]; exact Own.nil _ _, HE.out⟩
  case round =>
    obtain ⟨i, A1, c1, hi, rfl, hR, hO, ho1, hE⟩ := hrel
    have hr1 := ho1.rdAt.2
    by_cases hlt : i < n
    · obtain ⟨ad, rfl, A', c', hc0, hc1, hry, hly⟩ := h.ext hE i hlt
      have hSn := hS (i + 1) hlt
      have hSi := hS i hi
      obtain ⟨s, hs⟩ : ∃ s, sumZ ys i = s := ⟨_, rfl⟩
      obtain ⟨y, hy⟩ : ∃ y, ys i = y := ⟨_, rfl⟩
      have hnx : sumZ ys (i + 1) = s + y := by rw [← hs, ← hy]; rfl
      rw [hnx] at hSn
      rw [hs] at hO hr1 hSi
      clear ho1
      rw [hy] at hc0 hc1 hry hly
      have HNX := Lib.hid hnx
      have hY := Bi.new wr (.bool (decide (y < 0))) (.slice A' (cn y.natAbs).length c')
      have hA4 := (Ext.refl wr).al (.cells #[.bool (decide (y < 0)), .slice A' (cn y.natAbs).length c'] 49)
      have hO4 := hO.ext hA4
      have hR4 := hR.ext hA4
      have hE4 := hE.tr hA4
      have hidx : ((i : Int) * 2).toNat = i * 2 := by omega
      obtain ⟨p0, p1, -⟩ := hO.facts
      have hlo := hO.lt
      have ca := nAdd_c A1 A' c1 c' (cn s.natAbs) (cn y.natAbs) _ (hr1.ext hA4) (hry.ext hA4) hSi hly
      have cc := nCmp_c A1 A' c1 c' (cn s.natAbs) (cn y.natAbs) _ (hr1.ext hA4) (hry.ext hA4)
      have cs := fun w h h' hle => nSub_c A1 A' c1 c' (cn s.natAbs) (cn y.natAbs) w h h' hle hSi hly
      have cs' := fun w h h' hle => nSub_c A' A1 c' c1 (cn y.natAbs) (cn s.natAbs) w h h' hle hly hSi
      simp only [val_cn] at ca cc cs cs'
      have hsz4 := World.size_alloc wr (.cells #[.bool (decide (y < 0)), .slice A' (cn y.natAbs).length c'] 49)
      clear hs hy hnx
      rcases sum_cases s y with ⟨g1, g2⟩ | ⟨g1, g2, g3, g4⟩ | ⟨g1, g2, g3, g4⟩
      · have hl5 : (cn (s.natAbs + y.natAbs)).length ≤ 4096 := by
          have := congrArg Int.natAbs g2
          rw [sg_abs] at this
          rw [this]; exact hSn
        have ca' := ca hl5
        have HSG := Lib.hid g2
        clear ca cs cs' cc g2 hsz4
        go_wp2_with fail
        obtain ⟨y0, y1, -⟩ := hY.facts
        generalize wr.alloc (.cells #[.bool (decide (y < 0)), .slice A' (cn y.natAbs).length c'] 49) = W at *
        refine ca'.mono ?_
        rintro z w5 ⟨A5, c5, rfl, hr5, hb5⟩
        have hE5 := hE4.tr hb5
        have hO5 := hO4.ext hb5
        have hR5 := hR4.ext hb5
        clear p0 p1
        obtain ⟨p0, p1, pf⟩ := hO5.facts
        have htd := fun w h => itidy_c (decide (s < 0)) A5 c5 (cn (s.natAbs + y.natAbs)) w h (by omega)
        rw [val_cn, HSG.out] at htd
        go_wp2_with fail
        refine (htd _ hr5).mono ?_
        rintro z w6 ⟨A6, c6, rfl, ho6, hb6⟩
        have hO6 := hO5.ext hb6
        have hR6 := hR5.ext hb6
        have hE6 := hE5.tr hb6
        clear p0 p1 pf y0 y1
        obtain ⟨p0, p1, pf⟩ := hO6.facts
        have hlo := hO6.lt
        have hl5 := hO5.lt
        have hO7 := hO6.put (.bool (decide (s + y < 0))) (.slice A6 (cn (s + y).natAbs).length c6)
        have hR7 := hR6.apart (g' := w.heap.size + 1) (by omega) (.bool (decide (s + y < 0))) (.slice A6 (cn (s + y).natAbs).length c6)
        have hE7 := hE6.puti (g := w.heap.size + 1) (by omega) (.bool (decide (s + y < 0))) (.slice A6 (cn (s + y).natAbs).length c6)
        have hr7 := (ho6.puti (g := w.heap.size + 1) hl5 (.bool (decide (s + y < 0))) (.slice A6 (cn (s + y).natAbs).length c6)).low (b := w.heap.size + 2) (by omega)
        have H7 := Lib.hid (And.intro hO7 (And.intro hR7 (And.intro hE7 hr7)))
        clear hO7 hR7 hE7 hr7
        go_wp2
        go_roundw
        case rel => exact ⟨i + 1, A6, c6, hlt, by go_num, H7.out.2.1, by rw [HNX.out]; exact H7.out.1, by rw [HNX.out]; exact H7.out.2.2.2, H7.out.2.2.1⟩
        case measure => simp [intOf]; omega
      · have hl5 : (cn (s.natAbs - y.natAbs)).length ≤ 4096 := by
          have := congrArg Int.natAbs g4
          rw [sg_abs] at this
          rw [this]; exact hSn
        have HSG := Lib.hid g4
        clear ca cs' g4 hsz4
        go_wp2_with fail
        obtain ⟨y0, y1, -⟩ := hY.facts
        have hryW := hry.ext hA4
        have hr1W := hr1.ext hA4
        generalize wr.alloc (.cells #[.bool (decide (y < 0)), .slice A' (cn y.natAbs).length c'] 49) = W at *
        refine cc.mono ?_
        rintro z w4 ⟨rfl, n4, rfl⟩
        clear p0 p1
        obtain ⟨p0, p1, -⟩ := hO4.facts
        have hd := (Ext.refl W).drewN n4
        replace hO4 := hO4.ext hd
        replace hR4 := hR4.ext hd
        replace hE4 := hE4.tr hd
        go_wp2_with fail
        refine (cs _ (hr1W.ext hd) (hryW.ext hd) g3).mono ?_
        rintro z w5 ⟨A5, c5, rfl, hr5, hb5⟩
        have hE5 := hE4.tr hb5
        have hO5 := hO4.ext hb5
        have hR5 := hR4.ext hb5
        clear p0 p1
        obtain ⟨p0, p1, pf⟩ := hO5.facts
        have htd := fun w h => itidy_c (decide (s < 0)) A5 c5 (cn (s.natAbs - y.natAbs)) w h (by omega)
        rw [val_cn, HSG.out] at htd
        go_wp2_with fail
        refine (htd _ hr5).mono ?_
        rintro z w6 ⟨A6, c6, rfl, ho6, hb6⟩
        have hO6 := hO5.ext hb6
        have hR6 := hR5.ext hb6
        have hE6 := hE5.tr hb6
        clear p0 p1 pf y0 y1
        obtain ⟨p0, p1, pf⟩ := hO6.facts
        have hlo := hO6.lt
        have hl5 := hO5.lt
        have hO7 := hO6.put (.bool (decide (s + y < 0))) (.slice A6 (cn (s + y).natAbs).length c6)
        have hR7 := hR6.apart (g' := w.heap.size + 1) (by omega) (.bool (decide (s + y < 0))) (.slice A6 (cn (s + y).natAbs).length c6)
        have hE7 := hE6.puti (g := w.heap.size + 1) (by omega) (.bool (decide (s + y < 0))) (.slice A6 (cn (s + y).natAbs).length c6)
        have hr7 := (ho6.puti (g := w.heap.size + 1) hl5 (.bool (decide (s + y < 0))) (.slice A6 (cn (s + y).natAbs).length c6)).low (b := w.heap.size + 2) (by omega)
        have H7 := Lib.hid (And.intro hO7 (And.intro hR7 (And.intro hE7 hr7)))
        clear hO7 hR7 hE7 hr7
        go_wp2
        go_roundw
        case rel => exact ⟨i + 1, A6, c6, hlt, by go_num, H7.out.2.1, by rw [HNX.out]; exact H7.out.1, by rw [HNX.out]; exact H7.out.2.2.2, H7.out.2.2.1⟩
        case measure => simp [intOf]; omega
      · have hl5 : (cn (y.natAbs - s.natAbs)).length ≤ 4096 := by
          have := congrArg Int.natAbs g4
          rw [sg_abs] at this
          rw [this]; exact hSn
        have HSG := Lib.hid g4
        clear ca cs g4 hsz4
        go_wp2_with fail
        obtain ⟨y0, y1, -⟩ := hY.facts
        have hryW := hry.ext hA4
        have hr1W := hr1.ext hA4
        generalize wr.alloc (.cells #[.bool (decide (y < 0)), .slice A' (cn y.natAbs).length c'] 49) = W at *
        refine cc.mono ?_
        rintro z w4 ⟨rfl, n4, rfl⟩
        clear p0 p1
        obtain ⟨p0, p1, -⟩ := hO4.facts
        have hd := (Ext.refl W).drewN n4
        replace hO4 := hO4.ext hd
        replace hR4 := hR4.ext hd
        replace hE4 := hE4.tr hd
        go_wp2_with fail
        refine (cs' _ (hryW.ext hd) (hr1W.ext hd) g3).mono ?_
        rintro z w5 ⟨A5, c5, rfl, hr5, hb5⟩
        have hE5 := hE4.tr hb5
        have hO5 := hO4.ext hb5
        have hR5 := hR4.ext hb5
        clear p0 p1
        obtain ⟨p0, p1, pf⟩ := hO5.facts
        clear y0 y1
        obtain ⟨y0, y1, -⟩ := (hY.ext (hd.tr hb5)).facts
        have htd := fun w h => itidy_c (decide (y < 0)) A5 c5 (cn (y.natAbs - s.natAbs)) w h (by omega)
        rw [val_cn, HSG.out] at htd
        go_wp2_with fail
        refine (htd _ hr5).mono ?_
        rintro z w6 ⟨A6, c6, rfl, ho6, hb6⟩
        have hO6 := hO5.ext hb6
        have hR6 := hR5.ext hb6
        have hE6 := hE5.tr hb6
        clear p0 p1 pf y0 y1
        obtain ⟨p0, p1, pf⟩ := hO6.facts
        have hlo := hO6.lt
        have hl5 := hO5.lt
        have hO7 := hO6.put (.bool (decide (s + y < 0))) (.slice A6 (cn (s + y).natAbs).length c6)
        have hR7 := hR6.apart (g' := w.heap.size + 1) (by omega) (.bool (decide (s + y < 0))) (.slice A6 (cn (s + y).natAbs).length c6)
        have hE7 := hE6.puti (g := w.heap.size + 1) (by omega) (.bool (decide (s + y < 0))) (.slice A6 (cn (s + y).natAbs).length c6)
        have hr7 := (ho6.puti (g := w.heap.size + 1) hl5 (.bool (decide (s + y < 0))) (.slice A6 (cn (s + y).natAbs).length c6)).low (b := w.heap.size + 2) (by omega)
        have H7 := Lib.hid (And.intro hO7 (And.intro hR7 (And.intro hE7 hr7)))
        clear hO7 hR7 hE7 hr7
        go_wp2
        go_roundw
        case rel => exact ⟨i + 1, A6, c6, hlt, by go_num, H7.out.2.1, by rw [HNX.out]; exact H7.out.1, by rw [HNX.out]; exact H7.out.2.2.2, H7.out.2.2.1⟩
        case measure => simp [intOf]; omega
    · obtain rfl : i = n := by omega
      have hO7 := hR.put (.bool (decide (sumZ ys i < 0))) (.slice A1 (cn (sumZ ys i).natAbs).length c1)
      have hE7 := hE.puti (g := w.heap.size) (Nat.le_refl _) (.bool (decide (sumZ ys i < 0))) (.slice A1 (cn (sumZ ys i).natAbs).length c1)
      have hr7 := (ho1.puti (g := w.heap.size) (by omega) (.bool (decide (sumZ ys i < 0))) (.slice A1 (cn (sumZ ys i).natAbs).length c1)).low (b := w.heap.size) (by omega)
      obtain ⟨p0, p1, -⟩ := hO.facts
      obtain ⟨r0, r1, rf⟩ := hR.facts
      have H7 := Lib.hid (And.intro hO7 (And.intro hE7 hr7))
      clear hO7 hE7 hr7 hO hR ho1 hr1
      go_wp2
      obtain ⟨m0, m1, -⟩ := H7.out.1.facts
      refine bodyPost_ret (v := .tuple #[intV (decide (sumZ ys i < 0)) A1 (cn (sumZ ys i).natAbs).length c1, .int .i64 0]) (by simp [results, Tryz.results48, go_sem, m0, m1]) rfl ?_
      exact ⟨_, _, rfl, H7.out.2.2, H7.out.2.1⟩
end Go.Proofs.YtlnfmngginihfaaGreatDoor
namespace Go.Proofs.YtlnfmngginihfaaGreatDoor
open Go.RowKit

theorem sg_flip (n : Bool) (m : Nat) : sg (!n) m = -sg n m := by unfold sg; cases n <;> simp
/-- What hands back an integer and no error. -/
def IntSE (w : World) (z : Int) (e : Ending) (w' : World) : Prop :=
  ∃ A c, e = .returned (.tuple #[intV (decide (z < 0)) A (cn z.natAbs).length c, .int .i64 0]) ∧ Own w' w.heap.size (.slice A (cn z.natAbs).length c) (cn z.natAbs) ∧ Ext w w'
/-- Two integers. -/
def two (z1 z2 : Int) : Nat → Int := fun i => if i = 0 then z1 else z2
theorem SlZ.two (w : World) (z1 z2 : Int) (A1 A2 : Option Addr) (c1 c2 : Nat) (h1 : Rd w A1 c1 (cn z1.natAbs)) (h2 : Rd w A2 c2 (cn z2.natAbs)) (l1 : (cn z1.natAbs).length ≤ 4096) (l2 : (cn z2.natAbs).length ≤ 4096) :
    SlZ (w.alloc (.cells #[.bool (decide (z1 < 0)), .slice A1 (cn z1.natAbs).length c1, .bool (decide (z2 < 0)), .slice A2 (cn z2.natAbs).length c2] 49)) (some ⟨w.heap.size, 0, none⟩) 2 (two z1 z2) := fun i hi => by
  have hn := heap_alloc_new w (.cells #[.bool (decide (z1 < 0)), .slice A1 (cn z1.natAbs).length c1, .bool (decide (z2 < 0)), .slice A2 (cn z2.natAbs).length c2] 49)
  have c := fun j => cell_of_row _ _ j _ _ _ hn
  have hb := (Ext.refl w).al (.cells #[.bool (decide (z1 < 0)), .slice A1 (cn z1.natAbs).length c1, .bool (decide (z2 < 0)), .slice A2 (cn z2.natAbs).length c2] 49)
  rcases (show i = 0 ∨ i = 1 by omega) with rfl | rfl
  · exact ⟨_, rfl, A1, c1, c 0, c 1, h1.ext hb, l1⟩
  · exact ⟨_, rfl, A2, c2, c 2, c 3, h2.ext hb, l2⟩
set_option maxHeartbeats 1000000 in
set_option maxRecDepth 100000 in
theorem isub_c (n1 n2 : Bool) (A1 A2 : Option Addr) (c1 c2 : Nat) (xs ys : List Nat) (w : World) (h1 : Rd w A1 c1 xs) (h2 : Rd w A2 c2 ys) (hs1 : xs.length ≤ 4096) (hs2 : ys.length ≤ 4096)
    (hz : (cn (sg n1 (val xs) - sg n2 (val ys)).natAbs).length ≤ 4096) :
    Calls Tryz.prog 27 #[intV n1 A1 xs.length c1, intV n2 A2 ys.length c2] w (IntSE w (sg n1 (val xs) - sg n2 (val ys))) := by
  obtain ⟨hX, hY, hR, hE⟩ := boxesI w n1 n2 (.slice A1 xs.length c1) (.slice A2 ys.length c2) _ rfl
  have htr := fun w h => iTrim_c n1 A1 c1 xs w h (by omega)
  have htd := fun w h => itidy_c (!n2) A2 c2 ys w h (by omega)
  rw [sg_flip] at htd
  have hly : (cn (-sg n2 (val ys)).natAbs).length ≤ 4096 := by
    have e : (-sg n2 (val ys)).natAbs = val ys := by rw [← sg_flip, sg_abs]
    rw [e]
    have : (cn (val ys)).length ≤ ys.length := (cn_len_le _ _).2 (val_lt h2.w64)
    omega
  have hlx : (cn (sg n1 (val xs)).natAbs).length ≤ 4096 := by
    rw [sg_abs]
    have : (cn (val xs)).length ≤ xs.length := (cn_len_le _ _).2 (val_lt h1.w64)
    omega
  have hlg := fun (A : Option Addr) w h => ilarge_c A 2 2 w (by omega) h
  have hsum := fun (A : Option Addr) w h => isum_c A 2 2 (two (sg n1 (val xs)) (-sg n2 (val ys))) w (by omega) h (by
    intro k hk
    have e0 : sumZ (two (sg n1 (val xs)) (-sg n2 (val ys))) 0 = 0 := rfl
    have e1 : sumZ (two (sg n1 (val xs)) (-sg n2 (val ys))) 1 = sg n1 (val xs) := by show 0 + sg n1 (val xs) = _; omega
    have e2 : sumZ (two (sg n1 (val xs)) (-sg n2 (val ys))) 2 = sg n1 (val xs) - sg n2 (val ys) := by show 0 + sg n1 (val xs) + -sg n2 (val ys) = _; omega
    rcases (show k = 0 ∨ k = 1 ∨ k = 2 by omega) with rfl | rfl | rfl
    · rw [e0]; have : cn (0 : Int).natAbs = [] := digs_zero B
      rw [this]; simp
    · rw [e1]; exact hlx
    · rw [e2]; exact hz)
  rw [show sumZ (two (sg n1 (val xs)) (-sg n2 (val ys))) 2 = sg n1 (val xs) - sg n2 (val ys) by show 0 + sg n1 (val xs) + -sg n2 (val ys) = _; omega] at hsum
  unfold IntR at htr htd
  unfold IntSE
  generalize sg n1 (val xs) - sg n2 (val ys) = z at *
  generalize sg n1 (val xs) = z1 at *
  generalize -sg n2 (val ys) = z2 at *
  have HX := Lib.hid hX
  have HY := Lib.hid hY
  have HR := Lib.hid hR
  have HE := Lib.hid hE
  clear hX hY hR hE hz
  go_enter Tryz.func27, Tryz.ntmps27
  go_wp2_with fail
  have hX := HX.out
  have hY := HY.out
  have hR := HR.out
  have hE := HE.out
  clear HX HY HR HE
  have hsW : (((w.alloc (.cells #[.bool n1, .slice A1 xs.length c1] 49)).alloc (.cells #[.bool n2, .slice A2 ys.length c2] 49)).alloc (.cells #[.bool false, .slice none 0 0] 49)).heap.size = w.heap.size + 1 + 1 + 1 := by simp only [World.size_alloc]
  generalize (((w.alloc (.cells #[.bool n1, .slice A1 xs.length c1] 49)).alloc (.cells #[.bool n2, .slice A2 ys.length c2] 49)).alloc (.cells #[.bool false, .slice none 0 0] 49)) = W at *
  have hL := SlL.two W n1 n2 A1 A2 xs.length c1 ys.length c2 hs1 hs2
  rw [hsW] at hL
  clear hsW
  refine (hlg _ _ hL).mono ?_
  rintro e w2 ⟨rfl, hb2⟩
  have hal := ((Ext.refl W).al (.cells #[.bool n1, .slice A1 xs.length c1, .bool n2, .slice A2 ys.length c2] 49)).tr hb2
  have hX2 := hX.ext hal
  have hY2 := hY.ext hal
  have hR2 := hR.ext hal
  have hE2 := hE.tr hal
  clear hX hY hR hE hb2 hal hL
  obtain ⟨x0, x1, -⟩ := hX2.facts
  obtain ⟨y0, y1, -⟩ := hY2.facts
  have hlr := hR2.lt
  go_wp2_with fail
  go_region_held3 (fun w' => w'.cell? ⟨w.heap.size, 0, none⟩ = some (.bool n1) ∧ w'.cell? ⟨w.heap.size, 1, none⟩ = some (.slice A1 xs.length c1) ∧ w'.cell? ⟨w.heap.size + 1, 0, none⟩ = some (.bool n2) ∧ w'.cell? ⟨w.heap.size + 1, 1, none⟩ = some (.slice A2 ys.length c2))
    (first | go_keep | (go_split_ands; refine ⟨?_, ?_, ?_, ?_⟩ <;> first | assumption | (refine Ext.cell (w := w2) ?_ ?_ <;> assumption)))
    (first
      | (go_at_call 49; (with_reducible refine (htr _ (h1.ext hE2).drew).mono ?_); rintro e w3 ⟨A3, c3, rfl, ho3, hb3⟩; obtain ⟨-, hr3⟩ := ho3.rdAt; have hE3 : Ext w2 w3 := (Ext.refl w2).drew.tr hb3; have hr23 := h2.ext (hE2.tr hE3))
      | (go_at_call 50; (with_reducible refine (htd _ hr23).mono ?_); rintro e w4 ⟨A4, c4, rfl, ho4, hb4⟩; obtain ⟨-, hr4⟩ := ho4.rdAt; have hE4 : Ext w2 w4 := hE3.tr hb4; have hr34 := hr3.ext hb4; have hE4' := (Ext.refl w4).al (.cells #[.bool (decide (z1 < 0)), .slice A3 (cn z1.natAbs).length c3, .bool (decide (z2 < 0)), .slice A4 (cn z2.natAbs).length c4] 49); have hE5 : Ext w2 (w4.alloc (.cells #[.bool (decide (z1 < 0)), .slice A3 (cn z1.natAbs).length c3, .bool (decide (z2 < 0)), .slice A4 (cn z2.natAbs).length c4] 49)) := hE4.tr hE4')
      | (go_at_call 48; (with_reducible refine (hsum _ _ (SlZ.two _ _ _ _ _ _ _ hr34 hr4 hlx hly)).mono ?_); rintro e w6 ⟨A6, c6, rfl, ho6, hb6⟩; have hE6 : Ext w2 w6 := hE5.tr hb6; obtain ⟨q0, q1, qf⟩ := (hR2.ext hE6).facts; obtain ⟨k0, k1, -⟩ := ((hX2.ext hE6).apart (g' := w.heap.size + 1 + 1) (by omega) (.bool (decide (z < 0))) (.slice A6 (cn z.natAbs).length c6)).facts; obtain ⟨l0, l1, -⟩ := ((hY2.ext hE6).apart (g' := w.heap.size + 1 + 1) (by omega) (.bool (decide (z < 0))) (.slice A6 (cn z.natAbs).length c6)).facts))
  all_goals
    go_wp2
    have hR7 := (hR2.ext hE6).put (.bool (decide (z < 0))) (.slice A6 (cn z.natAbs).length c6)
    obtain ⟨r0, r1, rf⟩ := hR7.facts
    refine bodyPost_ret (v := .tuple #[intV (decide (z < 0)) A6 (cn z.natAbs).length c6, .int .i64 0]) (by simp [results, Tryz.results27, go_sem, r0, r1]) rfl ?_
    exact ⟨_, _, rfl, (ho6.puti (g := w.heap.size + 1 + 1) (by have := hE5.size; omega) _ _).low (hE2.tr hE5).size, (hE2.tr hE6).puti (g := w.heap.size + 1 + 1) (by omega) _ _⟩
end Go.Proofs.YtlnfmngginihfaaGreatDoor
