/- OrderSteps: the walk. -/
import Derived.Test.YtcdgkhmiolhfdaaGreatDoorRG
import Derived.Test.YtcdgkhmiolhfdaaGreatDoorTG

set_option linter.unusedVariables false
set_option linter.unusedSimpArgs false
namespace Go.Proofs.YtcdgkhmiolhfdaaGreatDoor
open Go.RowKit
attribute [local go_sem ↓] Go.wp_at_zero Go.wp_at_succ

theorem boxesV3 (w : World) (k p : Int) (a b : FA) (u v : Value) : ∀ W, W = ((((w.alloc (.cells #[.int .i64 k, .int .i64 p] 23)).alloc (.cells #[.int .i64 a.k, .bool a.neg, .int .i64 a.e, .slice a.A a.xs.length a.c] 28)).alloc (.cells #[.int .i64 b.k, .bool b.neg, .int .i64 b.e, .slice b.A b.xs.length b.c] 28)).alloc (.cells #[u, v] 56)) →
    Bf W w.heap.size (.int .i64 k) (.int .i64 p) ∧ Bx W (w.heap.size + 1) (.int .i64 a.k) (.bool a.neg) (.int .i64 a.e) (.slice a.A a.xs.length a.c) ∧ Bx W (w.heap.size + 1 + 1) (.int .i64 b.k) (.bool b.neg) (.int .i64 b.e) (.slice b.A b.xs.length b.c) ∧ Bi W (w.heap.size + 1 + 1 + 1) u v ∧ Ext w W ∧ W.heap.size = w.heap.size + 1 + 1 + 1 + 1 := by
  rintro W rfl
  obtain ⟨h1, h2, h3, h4, h5⟩ := boxesV2 w k p a b _ rfl
  have x4 := Bi.new (((w.alloc (.cells #[.int .i64 k, .int .i64 p] 23)).alloc (.cells #[.int .i64 a.k, .bool a.neg, .int .i64 a.e, .slice a.A a.xs.length a.c] 28)).alloc (.cells #[.int .i64 b.k, .bool b.neg, .int .i64 b.e, .slice b.A b.xs.length b.c] 28)) u v
  rw [World.size_alloc, World.size_alloc, World.size_alloc] at x4
  exact ⟨h1.ext ((Ext.refl _).al _), h2.ext ((Ext.refl _).al _), h3.ext ((Ext.refl _).al _), x4, h4.al _, by simp only [World.size_alloc]⟩
theorem chk_nil (k p : Int) : chkS k p [] = if Rgt k p then 0 else 150 := by unfold chkS; simp
theorem Br.drew' {w : World} {g : Nat} {a b c d : Value} (x : Br w g a b c d) : Br w.drew g a b c d := ⟨x.h⟩
theorem at_of {k p : Int} {z : Int} (hR : Rgt k p) (h : z.natAbs ≤ infN k p) : FOf k p (atF k p z) := (dec_upto hR h (decide (z < 0))).2.1
set_option maxHeartbeats 8000000 in
set_option maxRecDepth 100000 in
theorem orderSteps_long (k p : Int) (a b : FA) (jn : Bool) (jA : Option Addr) (jc : Nat) (js : List Nat) (w : World) (hT : Tab w) (ha : Rd w a.A a.c a.xs) (hb : Rd w b.A b.c b.xs) (hj : Rd w jA jc js) (hs : ¬ ([a, b].all (fun a => decide (a.xs.length ≤ 40)) = true ∧ js.length ≤ 40)) :
    Calls Tryz.prog 6 #[.agg #[.int .i64 k, .int .i64 p], a.v, b.v, intV jn jA js.length jc] w fun e w' => e = .returned (.bool true) ∧ Ext w w' := by
  obtain ⟨hF, hX, hY, hI, hE, hsz⟩ := boxesV3 w k p a b (.bool jn) (.slice jA js.length jc) _ rfl
  have HF := Lib.hid hF
  have HX := Lib.hid hX
  have HY := Lib.hid hY
  have HI := Lib.hid hI
  have HE := Lib.hid hE
  have HS := Lib.hid hsz
  clear hF hX hY hI hE hsz
  have hsh := fun A c w h => short_c A c [a, b] w h
  by_cases hs1 : [a, b].all (fun a => decide (a.xs.length ≤ 40)) = true
  · rw [hs1] at hsh
    have hd : decide ((40 : Int) < (js.length : Int)) = true := decide_eq_true (by have : ¬ js.length ≤ 40 := fun h => hs ⟨hs1, h⟩; omega)
    clear hs hs1
    obtain ⟨ak, an, ae, aA, ac, as1⟩ := a
    obtain ⟨bk, bn, be, bA, bc, bs1⟩ := b
    simp only at HF HX HY HI HE HS ha hb
    go_enter Tryz.func6, Tryz.ntmps6
    go_wp2_with fail
    have hF := HF.out
    have hX := HX.out
    have hY := HY.out
    have hI := HI.out
    have hE := HE.out
    have hsz := HS.out
    clear HF HX HY HI HE HS
    generalize ((((w.alloc (.cells #[.int .i64 k, .int .i64 p] 23)).alloc (.cells #[.int .i64 ak, .bool an, .int .i64 ae, .slice aA as1.length ac] 28)).alloc (.cells #[.int .i64 bk, .bool bn, .int .i64 be, .slice bA bs1.length bc] 28)).alloc (.cells #[.bool jn, .slice jA js.length jc] 56)) = W at *
    have hL := FRd.two W ⟨ak, an, ae, aA, ac, as1⟩ ⟨bk, bn, be, bA, bc, bs1⟩ (ha.ext hE) (hb.ext hE)
    have hA := (Ext.refl W).al (.cells #[.int .i64 ak, .bool an, .int .i64 ae, .slice aA as1.length ac, .int .i64 bk, .bool bn, .int .i64 be, .slice bA bs1.length bc] 28)
    rw [hsz] at hL
    clear hsz
    refine (hsh _ _ _ hL).mono ?_
    rintro z w1 ⟨rfl, rfl⟩
    have hF1 := hF.ext hA
    have hX1 := hX.ext hA
    have hY1 := hY.ext hA
    have hI1 := hI.ext hA
    have hE1 := hE.tr hA
    clear hF hX hY hI hE hA hL
    generalize W.alloc (.cells #[.int .i64 ak, .bool an, .int .i64 ae, .slice aA as1.length ac, .int .i64 bk, .bool bn, .int .i64 be, .slice bA bs1.length bc] 28) = V at *
    obtain ⟨i0, i1, -⟩ := hI1.facts
    go_wp2_with fail
    refine (awake21_c _ (hT.ext hE1)).mono ?_
    rintro z w99 ⟨rfl, hb99⟩
    go_wp2
    go_ret
    exact ⟨rfl, hE1.tr hb99⟩
  · rw [Bool.eq_false_iff.2 hs1] at hsh
    clear hs hs1
    obtain ⟨ak, an, ae, aA, ac, as1⟩ := a
    obtain ⟨bk, bn, be, bA, bc, bs1⟩ := b
    simp only at HF HX HY HI HE HS ha hb
    go_enter Tryz.func6, Tryz.ntmps6
    go_wp2_with fail
    have hF := HF.out
    have hX := HX.out
    have hY := HY.out
    have hI := HI.out
    have hE := HE.out
    have hsz := HS.out
    clear HF HX HY HI HE HS
    generalize ((((w.alloc (.cells #[.int .i64 k, .int .i64 p] 23)).alloc (.cells #[.int .i64 ak, .bool an, .int .i64 ae, .slice aA as1.length ac] 28)).alloc (.cells #[.int .i64 bk, .bool bn, .int .i64 be, .slice bA bs1.length bc] 28)).alloc (.cells #[.bool jn, .slice jA js.length jc] 56)) = W at *
    have hL := FRd.two W ⟨ak, an, ae, aA, ac, as1⟩ ⟨bk, bn, be, bA, bc, bs1⟩ (ha.ext hE) (hb.ext hE)
    have hA := (Ext.refl W).al (.cells #[.int .i64 ak, .bool an, .int .i64 ae, .slice aA as1.length ac, .int .i64 bk, .bool bn, .int .i64 be, .slice bA bs1.length bc] 28)
    rw [hsz] at hL
    clear hsz
    refine (hsh _ _ _ hL).mono ?_
    rintro z w1 ⟨rfl, rfl⟩
    have hF1 := hF.ext hA
    have hX1 := hX.ext hA
    have hY1 := hY.ext hA
    have hI1 := hI.ext hA
    have hE1 := hE.tr hA
    clear hF hX hY hI hE hA hL
    generalize W.alloc (.cells #[.int .i64 ak, .bool an, .int .i64 ae, .slice aA as1.length ac, .int .i64 bk, .bool bn, .int .i64 be, .slice bA bs1.length bc] 28) = V at *
    go_wp2_with fail
    refine (awake21_c _ (hT.ext hE1)).mono ?_
    rintro z w99 ⟨rfl, hb99⟩
    go_wp2
    go_ret
    exact ⟨rfl, hE1.tr hb99⟩
set_option maxHeartbeats 8000000 in
set_option maxRecDepth 100000 in
theorem orderSteps_11 (k p : Int) (a b : FA) (jn : Bool) (jA : Option Addr) (jc : Nat) (js : List Nat) (w : World) (hT : Tab w) (ha : Rd w a.A a.c a.xs) (hb : Rd w b.A b.c b.xs) (hj : Rd w jA jc js) (hs : [a, b].all (fun a => decide (a.xs.length ≤ 40)) = true) (hjl : js.length ≤ 40) (hc : chkS k p [a, b] ≠ 0) (hR : ¬ Rgt k p) :
    Calls Tryz.prog 6 #[.agg #[.int .i64 k, .int .i64 p], a.v, b.v, intV jn jA js.length jc] w fun e w' => e = .returned (.bool true) ∧ Ext w w' := by
  obtain ⟨hF, hX, hY, hI, hE, hsz⟩ := boxesV3 w k p a b (.bool jn) (.slice jA js.length jc) _ rfl
  have HF := Lib.hid hF
  have HX := Lib.hid hX
  have HY := Lib.hid hY
  have HI := Lib.hid hI
  have HE := Lib.hid hE
  have HS := Lib.hid hsz
  clear hF hX hY hI hE hsz
  have hsh := fun A c w h => short_c A c [a, b] w h
  have hck := fun A c w h => check21_c k p A c [a, b] w h (fun i hi => by
      have h1 := List.all_eq_true.1 hs _ (List.getElem_mem hi)
      have := of_decide_eq_true h1
      omega)
  have hla : a.xs.length ≤ 40 := of_decide_eq_true (List.all_eq_true.1 hs a (by simp))
  have hlb : b.xs.length ≤ 40 := of_decide_eq_true (List.all_eq_true.1 hs b (by simp))
  rw [hs] at hsh
  have hjd : decide ((40 : Int) < (js.length : Int)) = false := decide_eq_false (by omega)
  have hcn := fun w => check21_c k p none 0 [] w ⟨by simp, by simp, fun i hi => absurd hi (by simp)⟩ (fun i hi => absurd hi (by simp))
  simp only [List.length_nil] at hcn
  rw [chk_nil, if_neg hR] at hcn
  have hfl := FlsS_chk (k := k) (p := p) (l := [a, b]) (fun x hx => by
      have := of_decide_eq_true (List.all_eq_true.1 hs x hx)
      omega) hc
  have hcb : (chkS k p [a, b] != 0) = true := by rw [bne_iff_ne]; exact hc
  have t1 := fun w hT h h' => Steps_bad k p a b _ hfl hc w hT h h'
  have hC0 : (chkS k p [a, b] == 0) = false := by simpa using hc
  have hself : (chkS k p [a, b] != chkS k p [a, b]) = false := by simp
  unfold IntNo at t1
  have hni := fun w => noint_c none 0 w
  have hfm := fun w => fmt_c k p w
  have hta := fun w => their_c a.k a.e a.neg a.A a.xs.length a.c w
  have htb := fun w => their_c b.k b.e b.neg b.A b.xs.length b.c w
  have t2 := fun w (hT : Tab w) h => At_bad k p hR jn jA jc js (by omega) w h
  unfold FErr FlR at t2
  have hnn := fun A c w => none_c 0 0 false A 0 c w
  simp only [show decide ((0 : Int) = 0 ∧ false = false ∧ (0 : Int) = 0 ∧ (0 : Nat) = 0) = true by decide] at hnn
  clear hs hla hlb hjl hc hfl hR
  generalize chkS k p [a, b] = C at *
  obtain ⟨ak, an, ae, aA, ac, as1⟩ := a
  obtain ⟨bk, bn, be, bA, bc, bs1⟩ := b
  simp only at HF HX HY HI HE HS ha hb t1 hta htb
  go_enter Tryz.func6, Tryz.ntmps6
  go_wp2_with fail
  have hF := HF.out
  have hX := HX.out
  have hY := HY.out
  have hI := HI.out
  have hE := HE.out
  have hsz := HS.out
  clear HF HX HY HI HE HS
  generalize ((((w.alloc (.cells #[.int .i64 k, .int .i64 p] 23)).alloc (.cells #[.int .i64 ak, .bool an, .int .i64 ae, .slice aA as1.length ac] 28)).alloc (.cells #[.int .i64 bk, .bool bn, .int .i64 be, .slice bA bs1.length bc] 28)).alloc (.cells #[.bool jn, .slice jA js.length jc] 56)) = W at *
  have hL := FRd.two W ⟨ak, an, ae, aA, ac, as1⟩ ⟨bk, bn, be, bA, bc, bs1⟩ (ha.ext hE) (hb.ext hE)
  have hA := (Ext.refl W).al (.cells #[.int .i64 ak, .bool an, .int .i64 ae, .slice aA as1.length ac, .int .i64 bk, .bool bn, .int .i64 be, .slice bA bs1.length bc] 28)
  rw [hsz] at hL
  clear hsz
  refine (hsh _ _ _ hL).mono ?_
  rintro z w1 ⟨rfl, rfl⟩
  have hF1 := hF.ext hA
  have hX1 := hX.ext hA
  have hY1 := hY.ext hA
  have hI1 := hI.ext hA
  have hE1 := hE.tr hA
  clear hF hX hY hI hE hA hL
  generalize W.alloc (.cells #[.int .i64 ak, .bool an, .int .i64 ae, .slice aA as1.length ac, .int .i64 bk, .bool bn, .int .i64 be, .slice bA bs1.length bc] 28) = V at *
  obtain ⟨f0, f1⟩ := hF1.facts
  obtain ⟨x0, x1, x2, x3, -⟩ := hX1.facts
  obtain ⟨y0, y1, y2, y3, -⟩ := hY1.facts
  obtain ⟨i0, i1, -⟩ := hI1.facts
  go_wp2_with fail
  refine (t1 _ (hT.ext hE1) (ha.ext hE1) (hb.ext hE1)).mono ?_
  rintro z w2 ⟨rfl, hb2⟩
  have hN2 := Bi.new w2 (.bool false) (.slice none 0 0)
  have hG1 := (Ext.refl w2).al (.cells #[.bool false, .slice none 0 0] 56)
  have hF2 := hF1.ext hb2
  have hX2 := hX1.ext hb2
  have hY2 := hY1.ext hb2
  have hI2 := hI1.ext hb2
  have hE2 := hE1.tr hb2
  clear f0 f1 x0 x1 x2 x3 y0 y1 y2 y3 i0 i1
  clear hF1 hX1 hY1 hI1 hE1
  have hlf := hF2.lt
  have hlx := hX2.lt
  have hly := hY2.lt
  have hli := hI2.lt
  obtain ⟨f0, f1⟩ := hF2.facts
  obtain ⟨x0, x1, x2, x3, -⟩ := hX2.facts
  obtain ⟨y0, y1, y2, y3, -⟩ := hY2.facts
  obtain ⟨i0, i1, -⟩ := hI2.facts
  go_wp2_with fail
  have hF3 := hF2.ext hG1
  have hX3 := hX2.ext hG1
  have hY3 := hY2.ext hG1
  have hI3 := hI2.ext hG1
  have hE3 := hE2.tr hG1
  refine (t2 _ (hT.ext hE3) (hj.ext hE3)).mono ?_
  rintro z w4 ⟨u, rfl, ⟨v, rfl, ho4⟩, hb4⟩
  rw [show cn (0 : Nat) = [] from digs_zero B] at ho4
  obtain ⟨A2, c2, rfl, hr2⟩ := ho4.rd
  simp only [List.length_nil]
  have hP4 := Bx.new w4 (.int .i64 0) (.bool false) (.int .i64 0) (.slice A2 0 c2)
  have hG2 := (Ext.refl w4).al (.cells #[.int .i64 0, .bool false, .int .i64 0, .slice A2 0 c2] 28)
  have hF4 := hF3.ext hb4
  have hX4 := hX3.ext hb4
  have hY4 := hY3.ext hb4
  have hI4 := hI3.ext hb4
  have hE4 := hE3.tr hb4
  have hN4 := hN2.ext hb4
  clear f0 f1 x0 x1 x2 x3 y0 y1 y2 y3 i0 i1
  clear hF2 hX2 hY2 hI2 hE2 hF3 hX3 hY3 hI3 hE3 hlf hlx hly hli
  have hlf := hF4.lt
  have hlx := hX4.lt
  have hly := hY4.lt
  have hli := hI4.lt
  have hln := hN4.lt
  obtain ⟨f0, f1⟩ := hF4.facts
  obtain ⟨x0, x1, x2, x3, -⟩ := hX4.facts
  obtain ⟨y0, y1, y2, y3, -⟩ := hY4.facts
  obtain ⟨i0, i1, -⟩ := hI4.facts
  have hF5 := hF4.ext hG2
  have hX5 := hX4.ext hG2
  have hY5 := hY4.ext hG2
  have hI5 := hI4.ext hG2
  have hE5 := hE4.tr hG2
  have hN5 := hN4.ext hG2
  have hr25 := hr2.ext hG2
  have hL := FRd.two _ ⟨ak, an, ae, aA, ac, as1⟩ ⟨bk, bn, be, bA, bc, bs1⟩ (ha.ext hE5) (hb.ext hE5)
  have hA := (Ext.refl (w4.alloc (.cells #[.int .i64 0, .bool false, .int .i64 0, .slice A2 0 c2] 28))).al (.cells #[.int .i64 ak, .bool an, .int .i64 ae, .slice aA as1.length ac, .int .i64 bk, .bool bn, .int .i64 be, .slice bA bs1.length bc] 28)
  go_wp2_with fail
  rw [World.size_alloc] at hL
  refine (hck _ _ _ hL).mono ?_
  rintro z w6 ⟨rfl, hb6⟩
  replace hb6 := hA.tr hb6
  have hF6 := hF5.ext hb6
  have hX6 := hX5.ext hb6
  have hY6 := hY5.ext hb6
  have hI6 := hI5.ext hb6
  have hE6 := hE5.tr hb6
  have hN6 := hN5.ext hb6
  have hP6 := hP4.ext hb6
  have hr26 := hr25.ext hb6
  clear f0 f1 x0 x1 x2 x3 y0 y1 y2 y3 i0 i1
  clear hL hA hlf hlx hly hli hln hF5 hX5 hY5 hI5 hE5 hF4 hX4 hY4 hI4 hE4 hN4 hN5 hN2 hP4 hG1 hG2 hb4 hb6 hr2 hr25 ho4 hb2
  obtain ⟨f0, f1⟩ := hF6.facts
  obtain ⟨x0, x1, x2, x3, -⟩ := hX6.facts
  obtain ⟨y0, y1, y2, y3, -⟩ := hY6.facts
  obtain ⟨i0, i1, -⟩ := hI6.facts
  obtain ⟨q0, q1, -⟩ := hN6.facts
  go_wp2_with fail
  refine (hni _).mono ?_
  rintro z w7 ⟨rfl, hb7⟩
  have hF7 := hF6.ext hb7
  have hX7 := hX6.ext hb7
  have hY7 := hY6.ext hb7
  have hI7 := hI6.ext hb7
  have hE7 := hE6.tr hb7
  have hP7 := hP6.ext hb7
  have hr27 := hr26.ext hb7
  clear f0 f1 x0 x1 x2 x3 y0 y1 y2 y3 i0 i1
  clear q0 q1 hN6 hF6 hX6 hY6 hI6 hE6 hP6 hr26 hb7
  obtain ⟨f0, f1⟩ := hF7.facts
  go_wp2_with fail
  refine (hcn _).mono ?_
  rintro z w8 ⟨rfl, hb8⟩
  have hF8 := hF7.ext hb8
  have hX8 := hX7.ext hb8
  have hY8 := hY7.ext hb8
  have hI8 := hI7.ext hb8
  have hE8 := hE7.tr hb8
  have hP8 := hP7.ext hb8
  have hr28 := hr27.ext hb8
  clear f0 f1
  obtain ⟨p0, p1, p2, p3, -⟩ := hP8.facts
  go_wp2_with fail
  refine (hnn _ _ _).mono ?_
  rintro z w9 ⟨rfl, hb9⟩
  have hE9 := hE8.tr hb9
  clear p0 p1 p2 p3
  go_wp2_with fail
  refine (awake21_c _ (hT.ext hE9)).mono ?_
  rintro z w99 ⟨rfl, hb99⟩
  go_wp2
  go_ret
  exact ⟨rfl, hE9.tr hb99⟩
set_option maxHeartbeats 8000000 in
set_option maxRecDepth 100000 in
theorem orderSteps_12 (k p : Int) (a b : FA) (jn : Bool) (jA : Option Addr) (jc : Nat) (js : List Nat) (w : World) (hT : Tab w) (ha : Rd w a.A a.c a.xs) (hb : Rd w b.A b.c b.xs) (hj : Rd w jA jc js) (hs : [a, b].all (fun a => decide (a.xs.length ≤ 40)) = true) (hjl : js.length ≤ 40) (hc : chkS k p [a, b] ≠ 0) (hR : Rgt k p) (hm : infN k p < val js) :
    Calls Tryz.prog 6 #[.agg #[.int .i64 k, .int .i64 p], a.v, b.v, intV jn jA js.length jc] w fun e w' => e = .returned (.bool true) ∧ Ext w w' := by
  obtain ⟨hF, hX, hY, hI, hE, hsz⟩ := boxesV3 w k p a b (.bool jn) (.slice jA js.length jc) _ rfl
  have HF := Lib.hid hF
  have HX := Lib.hid hX
  have HY := Lib.hid hY
  have HI := Lib.hid hI
  have HE := Lib.hid hE
  have HS := Lib.hid hsz
  clear hF hX hY hI hE hsz
  have hsh := fun A c w h => short_c A c [a, b] w h
  have hck := fun A c w h => check21_c k p A c [a, b] w h (fun i hi => by
      have h1 := List.all_eq_true.1 hs _ (List.getElem_mem hi)
      have := of_decide_eq_true h1
      omega)
  have hla : a.xs.length ≤ 40 := of_decide_eq_true (List.all_eq_true.1 hs a (by simp))
  have hlb : b.xs.length ≤ 40 := of_decide_eq_true (List.all_eq_true.1 hs b (by simp))
  rw [hs] at hsh
  have hjd : decide ((40 : Int) < (js.length : Int)) = false := decide_eq_false (by omega)
  have hcn := fun w => check21_c k p none 0 [] w ⟨by simp, by simp, fun i hi => absurd hi (by simp)⟩ (fun i hi => absurd hi (by simp))
  simp only [List.length_nil] at hcn
  rw [chk_nil, if_pos hR] at hcn
  have hfl := FlsS_chk (k := k) (p := p) (l := [a, b]) (fun x hx => by
      have := of_decide_eq_true (List.all_eq_true.1 hs x hx)
      omega) hc
  have hcb : (chkS k p [a, b] != 0) = true := by rw [bne_iff_ne]; exact hc
  have t1 := fun w hT h h' => Steps_bad k p a b _ hfl hc w hT h h'
  have hC0 : (chkS k p [a, b] == 0) = false := by simpa using hc
  have hself : (chkS k p [a, b] != chkS k p [a, b]) = false := by simp
  unfold IntNo at t1
  have hni := fun w => noint_c none 0 w
  have hfm := fun w => fmt_c k p w
  have hta := fun w => their_c a.k a.e a.neg a.A a.xs.length a.c w
  have htb := fun w => their_c b.k b.e b.neg b.A b.xs.length b.c w
  have t2 := fun w hT h => At_no k p hR jn jA jc js (by omega) hm w hT h
  have m2 := fun w h => rat21_no k p hR jn jA jc js (by omega) hm w h
  unfold FErr FlR at t2
  have hnn := fun A c w => none_c 0 0 false A 0 c w
  simp only [show decide ((0 : Int) = 0 ∧ false = false ∧ (0 : Int) = 0 ∧ (0 : Nat) = 0) = true by decide] at hnn
  clear hs hla hlb hjl hc hm hfl hR
  generalize chkS k p [a, b] = C at *
  obtain ⟨ak, an, ae, aA, ac, as1⟩ := a
  obtain ⟨bk, bn, be, bA, bc, bs1⟩ := b
  simp only at HF HX HY HI HE HS ha hb t1 hta htb
  go_enter Tryz.func6, Tryz.ntmps6
  go_wp2_with fail
  have hF := HF.out
  have hX := HX.out
  have hY := HY.out
  have hI := HI.out
  have hE := HE.out
  have hsz := HS.out
  clear HF HX HY HI HE HS
  generalize ((((w.alloc (.cells #[.int .i64 k, .int .i64 p] 23)).alloc (.cells #[.int .i64 ak, .bool an, .int .i64 ae, .slice aA as1.length ac] 28)).alloc (.cells #[.int .i64 bk, .bool bn, .int .i64 be, .slice bA bs1.length bc] 28)).alloc (.cells #[.bool jn, .slice jA js.length jc] 56)) = W at *
  have hL := FRd.two W ⟨ak, an, ae, aA, ac, as1⟩ ⟨bk, bn, be, bA, bc, bs1⟩ (ha.ext hE) (hb.ext hE)
  have hA := (Ext.refl W).al (.cells #[.int .i64 ak, .bool an, .int .i64 ae, .slice aA as1.length ac, .int .i64 bk, .bool bn, .int .i64 be, .slice bA bs1.length bc] 28)
  rw [hsz] at hL
  clear hsz
  refine (hsh _ _ _ hL).mono ?_
  rintro z w1 ⟨rfl, rfl⟩
  have hF1 := hF.ext hA
  have hX1 := hX.ext hA
  have hY1 := hY.ext hA
  have hI1 := hI.ext hA
  have hE1 := hE.tr hA
  clear hF hX hY hI hE hA hL
  generalize W.alloc (.cells #[.int .i64 ak, .bool an, .int .i64 ae, .slice aA as1.length ac, .int .i64 bk, .bool bn, .int .i64 be, .slice bA bs1.length bc] 28) = V at *
  obtain ⟨f0, f1⟩ := hF1.facts
  obtain ⟨x0, x1, x2, x3, -⟩ := hX1.facts
  obtain ⟨y0, y1, y2, y3, -⟩ := hY1.facts
  obtain ⟨i0, i1, -⟩ := hI1.facts
  go_wp2_with fail
  refine (t1 _ (hT.ext hE1) (ha.ext hE1) (hb.ext hE1)).mono ?_
  rintro z w2 ⟨rfl, hb2⟩
  have hN2 := Bi.new w2 (.bool false) (.slice none 0 0)
  have hG1 := (Ext.refl w2).al (.cells #[.bool false, .slice none 0 0] 56)
  have hF2 := hF1.ext hb2
  have hX2 := hX1.ext hb2
  have hY2 := hY1.ext hb2
  have hI2 := hI1.ext hb2
  have hE2 := hE1.tr hb2
  clear f0 f1 x0 x1 x2 x3 y0 y1 y2 y3 i0 i1
  clear hF1 hX1 hY1 hI1 hE1
  have hlf := hF2.lt
  have hlx := hX2.lt
  have hly := hY2.lt
  have hli := hI2.lt
  obtain ⟨f0, f1⟩ := hF2.facts
  obtain ⟨x0, x1, x2, x3, -⟩ := hX2.facts
  obtain ⟨y0, y1, y2, y3, -⟩ := hY2.facts
  obtain ⟨i0, i1, -⟩ := hI2.facts
  go_wp2_with fail
  have hF3 := hF2.ext hG1
  have hX3 := hX2.ext hG1
  have hY3 := hY2.ext hG1
  have hI3 := hI2.ext hG1
  have hE3 := hE2.tr hG1
  refine (t2 _ (hT.ext hE3) (hj.ext hE3)).mono ?_
  rintro z w4 ⟨u, rfl, ⟨v, rfl, ho4⟩, hb4⟩
  rw [show cn (0 : Nat) = [] from digs_zero B] at ho4
  obtain ⟨A2, c2, rfl, hr2⟩ := ho4.rd
  simp only [List.length_nil]
  have hP4 := Bx.new w4 (.int .i64 0) (.bool false) (.int .i64 0) (.slice A2 0 c2)
  have hG2 := (Ext.refl w4).al (.cells #[.int .i64 0, .bool false, .int .i64 0, .slice A2 0 c2] 28)
  have hF4 := hF3.ext hb4
  have hX4 := hX3.ext hb4
  have hY4 := hY3.ext hb4
  have hI4 := hI3.ext hb4
  have hE4 := hE3.tr hb4
  have hN4 := hN2.ext hb4
  clear f0 f1 x0 x1 x2 x3 y0 y1 y2 y3 i0 i1
  clear hF2 hX2 hY2 hI2 hE2 hF3 hX3 hY3 hI3 hE3 hlf hlx hly hli
  have hlf := hF4.lt
  have hlx := hX4.lt
  have hly := hY4.lt
  have hli := hI4.lt
  have hln := hN4.lt
  obtain ⟨f0, f1⟩ := hF4.facts
  obtain ⟨x0, x1, x2, x3, -⟩ := hX4.facts
  obtain ⟨y0, y1, y2, y3, -⟩ := hY4.facts
  obtain ⟨i0, i1, -⟩ := hI4.facts
  have hF5 := hF4.ext hG2
  have hX5 := hX4.ext hG2
  have hY5 := hY4.ext hG2
  have hI5 := hI4.ext hG2
  have hE5 := hE4.tr hG2
  have hN5 := hN4.ext hG2
  have hr25 := hr2.ext hG2
  have hL := FRd.two _ ⟨ak, an, ae, aA, ac, as1⟩ ⟨bk, bn, be, bA, bc, bs1⟩ (ha.ext hE5) (hb.ext hE5)
  have hA := (Ext.refl (w4.alloc (.cells #[.int .i64 0, .bool false, .int .i64 0, .slice A2 0 c2] 28))).al (.cells #[.int .i64 ak, .bool an, .int .i64 ae, .slice aA as1.length ac, .int .i64 bk, .bool bn, .int .i64 be, .slice bA bs1.length bc] 28)
  go_wp2_with fail
  rw [World.size_alloc] at hL
  refine (hck _ _ _ hL).mono ?_
  rintro z w6 ⟨rfl, hb6⟩
  replace hb6 := hA.tr hb6
  have hF6 := hF5.ext hb6
  have hX6 := hX5.ext hb6
  have hY6 := hY5.ext hb6
  have hI6 := hI5.ext hb6
  have hE6 := hE5.tr hb6
  have hN6 := hN5.ext hb6
  have hP6 := hP4.ext hb6
  have hr26 := hr25.ext hb6
  clear f0 f1 x0 x1 x2 x3 y0 y1 y2 y3 i0 i1
  clear hL hA hlf hlx hly hli hln hF5 hX5 hY5 hI5 hE5 hF4 hX4 hY4 hI4 hE4 hN4 hN5 hN2 hP4 hG1 hG2 hb4 hb6 hr2 hr25 ho4 hb2
  obtain ⟨f0, f1⟩ := hF6.facts
  obtain ⟨x0, x1, x2, x3, -⟩ := hX6.facts
  obtain ⟨y0, y1, y2, y3, -⟩ := hY6.facts
  obtain ⟨i0, i1, -⟩ := hI6.facts
  obtain ⟨q0, q1, -⟩ := hN6.facts
  go_wp2_with fail
  refine (hni _).mono ?_
  rintro z w7 ⟨rfl, hb7⟩
  have hF7 := hF6.ext hb7
  have hX7 := hX6.ext hb7
  have hY7 := hY6.ext hb7
  have hI7 := hI6.ext hb7
  have hE7 := hE6.tr hb7
  have hP7 := hP6.ext hb7
  have hr27 := hr26.ext hb7
  clear f0 f1 x0 x1 x2 x3 y0 y1 y2 y3 i0 i1
  clear q0 q1 hN6 hF6 hX6 hY6 hI6 hE6 hP6 hr26 hb7
  obtain ⟨f0, f1⟩ := hF7.facts
  go_wp2_with fail
  refine (hcn _).mono ?_
  rintro z w8 ⟨rfl, hb8⟩
  have hF8 := hF7.ext hb8
  have hX8 := hX7.ext hb8
  have hY8 := hY7.ext hb8
  have hI8 := hI7.ext hb8
  have hE8 := hE7.tr hb8
  have hP8 := hP7.ext hb8
  have hr28 := hr27.ext hb8
  clear f0 f1
  generalize w8 = V at *
  obtain ⟨f0, f1⟩ := hF8.facts
  obtain ⟨i0, i1, -⟩ := hI8.facts
  have hA0 := (Ext.refl V).al (.cells #[.int .i64 0, .bool false, .int .i64 0, .slice none 0 0] 40)
  have hY0' : Br (V.drew.alloc (.cells #[.int .i64 0, .bool false, .int .i64 0, .slice none 0 0] 40)) V.heap.size (.int .i64 0) (.bool false) (.int .i64 0) (.slice none 0 0) := Br.new V.drew (.int .i64 0) (.bool false) (.int .i64 0) (.slice none 0 0)
  have hY0 := Br.new V (.int .i64 0) (.bool false) (.int .i64 0) (.slice none 0 0)
  go_wp2_with fail
  go_region_held3 (fun w' => w'.cell? ⟨w.heap.size, 0, none⟩ = some (.int .i64 k) ∧ w'.cell? ⟨w.heap.size, 1, none⟩ = some (.int .i64 p) ∧ w'.cell? ⟨w.heap.size + 1 + 1 + 1, 0, none⟩ = some (.bool jn) ∧ w'.cell? ⟨w.heap.size + 1 + 1 + 1, 1, none⟩ = some (.slice jA js.length jc))
    (first | (go_split_ands; (repeat' apply And.intro) <;> first | (with_reducible assumption) | (refine Ext.cell (w := V) ?_ ?_ <;> (with_reducible assumption))) | go_keep)
    (first
      | (go_at_call 25; (with_reducible refine (hfm _).mono ?_); rintro e wa ⟨rfl, hba⟩; (have hEa : Ext V wa := (by first | with_reducible exact (Ext.refl V).drew.tr hba | with_reducible exact hA0.drew.tr hba | with_reducible exact ((Ext.refl V).drew.al _).tr hba)); (try have hYa : Br wa V.heap.size (.int .i64 0) (.bool false) (.int .i64 0) (.slice none 0 0) := (by first | with_reducible exact hY0.drew'.ext hba | with_reducible exact hY0'.ext hba)))
      | (go_at_call 33; (with_reducible refine (m2 _ ?hr).mono ?_); (case hr => first | with_reducible exact hj.ext (hE8.tr hEa) | with_reducible exact hj.ext ((hE8.tr hEa).al _)); rintro e wb ⟨rfl, hbb⟩; (have hbb' : Ext wa wb := (by first | with_reducible exact hbb | with_reducible exact ((Ext.refl wa).al _).tr hbb)); have hEb : Ext V wb := hEa.tr hbb'; (try have hla := hYa.lt); (try (with_reducible replace hYa := hYa.ext hbb)); (try have hYb : Br wb wa.heap.size (.int .i64 0) (.bool false) (.int .i64 0) (.slice none 0 0) := (by with_reducible exact (Br.new wa (.int .i64 0) (.bool false) (.int .i64 0) (.slice none 0 0)).ext hbb)); (try obtain ⟨y0, y1, y2, y3, yf⟩ := hYa.facts); (try obtain ⟨y0, y1, y2, y3, yf⟩ := hYb.facts); have hE7a := hEb.al (.cells #[.int .i64 0, .bool false, .int .i64 0, .slice none 0 0] 40); have hE7b := hEb.put (g := V.heap.size) (Nat.le_refl _) (.int .i64 0) (.bool false) (.int .i64 0) (.slice none 0 0); have hE7c := hEb.put (g := wa.heap.size) hEa.size (.int .i64 0) (.bool false) (.int .i64 0) (.slice none 0 0))
      | fail)
  · have hEU0 := hE7a
    generalize (wb.alloc (.cells #[.int .i64 0, .bool false, .int .i64 0, .slice none 0 0] 40)) = U at hEU0 ⊢
    have hEU := hE8.tr hEU0
    have hPU := hP8.ext hEU0
    have hr2U := hr28.ext hEU0
    obtain ⟨p0, p1, p2, p3, -⟩ := hPU.facts
    go_wp2_with fail
    refine (hnn _ _ _).mono ?_
    rintro z w20 ⟨rfl, hb20⟩
    have hE20 := hEU.tr hb20
    clear p0 p1 p2 p3
    go_wp2_with fail
    refine (awake21_c _ (hT.ext hE20)).mono ?_
    rintro z w99 ⟨rfl, hb99⟩
    go_wp2
    go_ret
    exact ⟨rfl, hE20.tr hb99⟩
  · have hEU0 := hE7c
    generalize ((((wb.setCell ⟨wa.heap.size, 0, none⟩ (.int .i64 0)).setCell ⟨wa.heap.size, 1, none⟩ (.bool false)).setCell ⟨wa.heap.size, 2, none⟩ (.int .i64 0)).setCell ⟨wa.heap.size, 3, none⟩ (.slice none 0 0)) = U at hEU0 ⊢
    have hEU := hE8.tr hEU0
    have hPU := hP8.ext hEU0
    have hr2U := hr28.ext hEU0
    obtain ⟨p0, p1, p2, p3, -⟩ := hPU.facts
    go_wp2_with fail
    refine (hnn _ _ _).mono ?_
    rintro z w20 ⟨rfl, hb20⟩
    have hE20 := hEU.tr hb20
    clear p0 p1 p2 p3
    go_wp2_with fail
    refine (awake21_c _ (hT.ext hE20)).mono ?_
    rintro z w99 ⟨rfl, hb99⟩
    go_wp2
    go_ret
    exact ⟨rfl, hE20.tr hb99⟩
  · have hEU0 := hE7b
    generalize ((((wb.setCell ⟨V.heap.size, 0, none⟩ (.int .i64 0)).setCell ⟨V.heap.size, 1, none⟩ (.bool false)).setCell ⟨V.heap.size, 2, none⟩ (.int .i64 0)).setCell ⟨V.heap.size, 3, none⟩ (.slice none 0 0)) = U at hEU0 ⊢
    have hEU := hE8.tr hEU0
    have hPU := hP8.ext hEU0
    have hr2U := hr28.ext hEU0
    obtain ⟨p0, p1, p2, p3, -⟩ := hPU.facts
    go_wp2_with fail
    refine (hnn _ _ _).mono ?_
    rintro z w20 ⟨rfl, hb20⟩
    have hE20 := hEU.tr hb20
    clear p0 p1 p2 p3
    go_wp2_with fail
    refine (awake21_c _ (hT.ext hE20)).mono ?_
    rintro z w99 ⟨rfl, hb99⟩
    go_wp2
    go_ret
    exact ⟨rfl, hE20.tr hb99⟩
set_option maxHeartbeats 8000000 in
set_option maxRecDepth 100000 in
theorem orderSteps_13 (k p : Int) (a b : FA) (jn : Bool) (jA : Option Addr) (jc : Nat) (js : List Nat) (w : World) (hT : Tab w) (ha : Rd w a.A a.c a.xs) (hb : Rd w b.A b.c b.xs) (hj : Rd w jA jc js) (hs : [a, b].all (fun a => decide (a.xs.length ≤ 40)) = true) (hjl : js.length ≤ 40) (hc : chkS k p [a, b] ≠ 0) (hR : Rgt k p) (hm : val js ≤ infN k p) :
    Calls Tryz.prog 6 #[.agg #[.int .i64 k, .int .i64 p], a.v, b.v, intV jn jA js.length jc] w fun e w' => e = .returned (.bool true) ∧ Ext w w' := by
  obtain ⟨hF, hX, hY, hI, hE, hsz⟩ := boxesV3 w k p a b (.bool jn) (.slice jA js.length jc) _ rfl
  have HF := Lib.hid hF
  have HX := Lib.hid hX
  have HY := Lib.hid hY
  have HI := Lib.hid hI
  have HE := Lib.hid hE
  have HS := Lib.hid hsz
  clear hF hX hY hI hE hsz
  have hsh := fun A c w h => short_c A c [a, b] w h
  have hck := fun A c w h => check21_c k p A c [a, b] w h (fun i hi => by
      have h1 := List.all_eq_true.1 hs _ (List.getElem_mem hi)
      have := of_decide_eq_true h1
      omega)
  have hla : a.xs.length ≤ 40 := of_decide_eq_true (List.all_eq_true.1 hs a (by simp))
  have hlb : b.xs.length ≤ 40 := of_decide_eq_true (List.all_eq_true.1 hs b (by simp))
  rw [hs] at hsh
  have hjd : decide ((40 : Int) < (js.length : Int)) = false := decide_eq_false (by omega)
  have hcn := fun w => check21_c k p none 0 [] w ⟨by simp, by simp, fun i hi => absurd hi (by simp)⟩ (fun i hi => absurd hi (by simp))
  simp only [List.length_nil] at hcn
  rw [chk_nil, if_pos hR] at hcn
  have hfl := FlsS_chk (k := k) (p := p) (l := [a, b]) (fun x hx => by
      have := of_decide_eq_true (List.all_eq_true.1 hs x hx)
      omega) hc
  have hcb : (chkS k p [a, b] != 0) = true := by rw [bne_iff_ne]; exact hc
  have t1 := fun w hT h h' => Steps_bad k p a b _ hfl hc w hT h h'
  have hC0 : (chkS k p [a, b] == 0) = false := by simpa using hc
  have hself : (chkS k p [a, b] != chkS k p [a, b]) = false := by simp
  unfold IntNo at t1
  have hni := fun w => noint_c none 0 w
  have hfm := fun w => fmt_c k p w
  have hta := fun w => their_c a.k a.e a.neg a.A a.xs.length a.c w
  have htb := fun w => their_c b.k b.e b.neg b.A b.xs.length b.c w
  have t2 := fun w hT h => At_yes k p hR jn jA jc js (by omega) hm w hT h
  have m2 := fun w h => rat21_yes k p hR jn jA jc js (by omega) hm w h
  have hQf := at_of (z := sg jn (val js)) hR (by rw [sg_abs]; exact hm)
  have iz := fun A A' c c' w h h' => lis_own _ hQf.ok hQf.len A A' c c' w h h'
  unfold FErr FlR at t2
  unfold DecR FlR at m2
  clear hs hla hlb hjl hc hm hQf hfl hR
  generalize chkS k p [a, b] = C at *
  generalize atF k p (sg jn (val js)) = Q at *
  obtain ⟨ak, an, ae, aA, ac, as1⟩ := a
  obtain ⟨bk, bn, be, bA, bc, bs1⟩ := b
  simp only at HF HX HY HI HE HS ha hb t1 hta htb
  go_enter Tryz.func6, Tryz.ntmps6
  go_wp2_with fail
  have hF := HF.out
  have hX := HX.out
  have hY := HY.out
  have hI := HI.out
  have hE := HE.out
  have hsz := HS.out
  clear HF HX HY HI HE HS
  generalize ((((w.alloc (.cells #[.int .i64 k, .int .i64 p] 23)).alloc (.cells #[.int .i64 ak, .bool an, .int .i64 ae, .slice aA as1.length ac] 28)).alloc (.cells #[.int .i64 bk, .bool bn, .int .i64 be, .slice bA bs1.length bc] 28)).alloc (.cells #[.bool jn, .slice jA js.length jc] 56)) = W at *
  have hL := FRd.two W ⟨ak, an, ae, aA, ac, as1⟩ ⟨bk, bn, be, bA, bc, bs1⟩ (ha.ext hE) (hb.ext hE)
  have hA := (Ext.refl W).al (.cells #[.int .i64 ak, .bool an, .int .i64 ae, .slice aA as1.length ac, .int .i64 bk, .bool bn, .int .i64 be, .slice bA bs1.length bc] 28)
  rw [hsz] at hL
  clear hsz
  refine (hsh _ _ _ hL).mono ?_
  rintro z w1 ⟨rfl, rfl⟩
  have hF1 := hF.ext hA
  have hX1 := hX.ext hA
  have hY1 := hY.ext hA
  have hI1 := hI.ext hA
  have hE1 := hE.tr hA
  clear hF hX hY hI hE hA hL
  generalize W.alloc (.cells #[.int .i64 ak, .bool an, .int .i64 ae, .slice aA as1.length ac, .int .i64 bk, .bool bn, .int .i64 be, .slice bA bs1.length bc] 28) = V at *
  obtain ⟨f0, f1⟩ := hF1.facts
  obtain ⟨x0, x1, x2, x3, -⟩ := hX1.facts
  obtain ⟨y0, y1, y2, y3, -⟩ := hY1.facts
  obtain ⟨i0, i1, -⟩ := hI1.facts
  go_wp2_with fail
  refine (t1 _ (hT.ext hE1) (ha.ext hE1) (hb.ext hE1)).mono ?_
  rintro z w2 ⟨rfl, hb2⟩
  have hN2 := Bi.new w2 (.bool false) (.slice none 0 0)
  have hG1 := (Ext.refl w2).al (.cells #[.bool false, .slice none 0 0] 56)
  have hF2 := hF1.ext hb2
  have hX2 := hX1.ext hb2
  have hY2 := hY1.ext hb2
  have hI2 := hI1.ext hb2
  have hE2 := hE1.tr hb2
  clear f0 f1 x0 x1 x2 x3 y0 y1 y2 y3 i0 i1
  clear hF1 hX1 hY1 hI1 hE1
  have hlf := hF2.lt
  have hlx := hX2.lt
  have hly := hY2.lt
  have hli := hI2.lt
  obtain ⟨f0, f1⟩ := hF2.facts
  obtain ⟨x0, x1, x2, x3, -⟩ := hX2.facts
  obtain ⟨y0, y1, y2, y3, -⟩ := hY2.facts
  obtain ⟨i0, i1, -⟩ := hI2.facts
  go_wp2_with fail
  have hF3 := hF2.ext hG1
  have hX3 := hX2.ext hG1
  have hY3 := hY2.ext hG1
  have hI3 := hI2.ext hG1
  have hE3 := hE2.tr hG1
  refine (t2 _ (hT.ext hE3) (hj.ext hE3)).mono ?_
  rintro z w4 ⟨u, rfl, ⟨v, rfl, ho4⟩, hb4⟩
  obtain ⟨A2, c2, rfl, hr2⟩ := ho4.rd
  have hP4 := Bx.new w4 (.int .i64 Q.kind) (.bool Q.neg) (.int .i64 Q.exp) (.slice A2 (cn Q.mag).length c2)
  have hG2 := (Ext.refl w4).al (.cells #[.int .i64 Q.kind, .bool Q.neg, .int .i64 Q.exp, .slice A2 (cn Q.mag).length c2] 28)
  have hF4 := hF3.ext hb4
  have hX4 := hX3.ext hb4
  have hY4 := hY3.ext hb4
  have hI4 := hI3.ext hb4
  have hE4 := hE3.tr hb4
  have hN4 := hN2.ext hb4
  clear f0 f1 x0 x1 x2 x3 y0 y1 y2 y3 i0 i1
  clear hF2 hX2 hY2 hI2 hE2 hF3 hX3 hY3 hI3 hE3 hlf hlx hly hli
  have hlf := hF4.lt
  have hlx := hX4.lt
  have hly := hY4.lt
  have hli := hI4.lt
  have hln := hN4.lt
  obtain ⟨f0, f1⟩ := hF4.facts
  obtain ⟨x0, x1, x2, x3, -⟩ := hX4.facts
  obtain ⟨y0, y1, y2, y3, -⟩ := hY4.facts
  obtain ⟨i0, i1, -⟩ := hI4.facts
  have hF5 := hF4.ext hG2
  have hX5 := hX4.ext hG2
  have hY5 := hY4.ext hG2
  have hI5 := hI4.ext hG2
  have hE5 := hE4.tr hG2
  have hN5 := hN4.ext hG2
  have hr25 := hr2.ext hG2
  have hL := FRd.two _ ⟨ak, an, ae, aA, ac, as1⟩ ⟨bk, bn, be, bA, bc, bs1⟩ (ha.ext hE5) (hb.ext hE5)
  have hA := (Ext.refl (w4.alloc (.cells #[.int .i64 Q.kind, .bool Q.neg, .int .i64 Q.exp, .slice A2 (cn Q.mag).length c2] 28))).al (.cells #[.int .i64 ak, .bool an, .int .i64 ae, .slice aA as1.length ac, .int .i64 bk, .bool bn, .int .i64 be, .slice bA bs1.length bc] 28)
  go_wp2_with fail
  rw [World.size_alloc] at hL
  refine (hck _ _ _ hL).mono ?_
  rintro z w6 ⟨rfl, hb6⟩
  replace hb6 := hA.tr hb6
  have hF6 := hF5.ext hb6
  have hX6 := hX5.ext hb6
  have hY6 := hY5.ext hb6
  have hI6 := hI5.ext hb6
  have hE6 := hE5.tr hb6
  have hN6 := hN5.ext hb6
  have hP6 := hP4.ext hb6
  have hr26 := hr25.ext hb6
  clear f0 f1 x0 x1 x2 x3 y0 y1 y2 y3 i0 i1
  clear hL hA hlf hlx hly hli hln hF5 hX5 hY5 hI5 hE5 hF4 hX4 hY4 hI4 hE4 hN4 hN5 hN2 hP4 hG1 hG2 hb4 hb6 hr2 hr25 ho4 hb2
  obtain ⟨f0, f1⟩ := hF6.facts
  obtain ⟨x0, x1, x2, x3, -⟩ := hX6.facts
  obtain ⟨y0, y1, y2, y3, -⟩ := hY6.facts
  obtain ⟨i0, i1, -⟩ := hI6.facts
  obtain ⟨q0, q1, -⟩ := hN6.facts
  go_wp2_with fail
  refine (hni _).mono ?_
  rintro z w7 ⟨rfl, hb7⟩
  have hF7 := hF6.ext hb7
  have hX7 := hX6.ext hb7
  have hY7 := hY6.ext hb7
  have hI7 := hI6.ext hb7
  have hE7 := hE6.tr hb7
  have hP7 := hP6.ext hb7
  have hr27 := hr26.ext hb7
  clear f0 f1 x0 x1 x2 x3 y0 y1 y2 y3 i0 i1
  clear q0 q1 hN6 hF6 hX6 hY6 hI6 hE6 hP6 hr26 hb7
  obtain ⟨f0, f1⟩ := hF7.facts
  go_wp2_with fail
  refine (hcn _).mono ?_
  rintro z w8 ⟨rfl, hb8⟩
  have hF8 := hF7.ext hb8
  have hX8 := hX7.ext hb8
  have hY8 := hY7.ext hb8
  have hI8 := hI7.ext hb8
  have hE8 := hE7.tr hb8
  have hP8 := hP7.ext hb8
  have hr28 := hr27.ext hb8
  clear f0 f1
  generalize w8 = V at *
  obtain ⟨f0, f1⟩ := hF8.facts
  obtain ⟨i0, i1, -⟩ := hI8.facts
  have hA0 := (Ext.refl V).al (.cells #[.int .i64 0, .bool false, .int .i64 0, .slice none 0 0] 40)
  have hY0' : Br (V.drew.alloc (.cells #[.int .i64 0, .bool false, .int .i64 0, .slice none 0 0] 40)) V.heap.size (.int .i64 0) (.bool false) (.int .i64 0) (.slice none 0 0) := Br.new V.drew (.int .i64 0) (.bool false) (.int .i64 0) (.slice none 0 0)
  have hY0 := Br.new V (.int .i64 0) (.bool false) (.int .i64 0) (.slice none 0 0)
  go_wp2_with fail
  go_region_held3 (fun w' => w'.cell? ⟨w.heap.size, 0, none⟩ = some (.int .i64 k) ∧ w'.cell? ⟨w.heap.size, 1, none⟩ = some (.int .i64 p) ∧ w'.cell? ⟨w.heap.size + 1 + 1 + 1, 0, none⟩ = some (.bool jn) ∧ w'.cell? ⟨w.heap.size + 1 + 1 + 1, 1, none⟩ = some (.slice jA js.length jc))
    (first | (go_split_ands; (repeat' apply And.intro) <;> first | (with_reducible assumption) | (refine Ext.cell (w := V) ?_ ?_ <;> (with_reducible assumption))) | go_keep)
    (first
      | (go_at_call 25; (with_reducible refine (hfm _).mono ?_); rintro e wa ⟨rfl, hba⟩; (have hEa : Ext V wa := (by first | with_reducible exact (Ext.refl V).drew.tr hba | with_reducible exact hA0.drew.tr hba | with_reducible exact ((Ext.refl V).drew.al _).tr hba)); (try have hYa : Br wa V.heap.size (.int .i64 0) (.bool false) (.int .i64 0) (.slice none 0 0) := (by first | with_reducible exact hY0.drew'.ext hba | with_reducible exact hY0'.ext hba)))
      | (go_at_call 33; (with_reducible refine (m2 _ ?hr).mono ?_); (case hr => first | with_reducible exact hj.ext (hE8.tr hEa) | with_reducible exact hj.ext ((hE8.tr hEa).al _)); rintro e wb ⟨u, rfl, ⟨v, rfl, ho6⟩, hbb⟩; obtain ⟨A6, c6, rfl, hr6⟩ := ho6.rd; (have hbb' : Ext wa wb := (by first | with_reducible exact hbb | with_reducible exact ((Ext.refl wa).al _).tr hbb)); have hEb : Ext V wb := hEa.tr hbb'; (try have hla := hYa.lt); (try (with_reducible replace hYa := hYa.ext hbb)); (try have hYb : Br wb wa.heap.size (.int .i64 0) (.bool false) (.int .i64 0) (.slice none 0 0) := (by with_reducible exact (Br.new wa (.int .i64 0) (.bool false) (.int .i64 0) (.slice none 0 0)).ext hbb)); (try obtain ⟨y0, y1, y2, y3, yf⟩ := hYa.facts); (try obtain ⟨y0, y1, y2, y3, yf⟩ := hYb.facts); have hE7a := hEb.al (.cells #[.int .i64 Q.kind, .bool Q.neg, .int .i64 Q.exp, .slice A6 (cn Q.mag).length c6] 40); have hE7b := hEb.put (g := V.heap.size) (Nat.le_refl _) (.int .i64 Q.kind) (.bool Q.neg) (.int .i64 Q.exp) (.slice A6 (cn Q.mag).length c6); have hE7c := hEb.put (g := wa.heap.size) hEa.size (.int .i64 Q.kind) (.bool Q.neg) (.int .i64 Q.exp) (.slice A6 (cn Q.mag).length c6))
      | fail)
  · have hEU0 := hE7a
    have hU := Br.new wb (.int .i64 Q.kind) (.bool Q.neg) (.int .i64 Q.exp) (.slice A6 (cn Q.mag).length c6)
    have hrU := hr6.ext ((Ext.refl wb).al (.cells #[.int .i64 Q.kind, .bool Q.neg, .int .i64 Q.exp, .slice A6 (cn Q.mag).length c6] 40))
    generalize (wb.alloc (.cells #[.int .i64 Q.kind, .bool Q.neg, .int .i64 Q.exp, .slice A6 (cn Q.mag).length c6] 40)) = U at hEU0 hU hrU ⊢
    have hEU := hE8.tr hEU0
    have hPU := hP8.ext hEU0
    have hr2U := hr28.ext hEU0
    obtain ⟨p0, p1, p2, p3, -⟩ := hPU.facts
    obtain ⟨u0, u1, u2, u3, -⟩ := hU.facts
    go_wp2_with fail
    refine (iz A2 A6 c2 c6 _ hr2U hrU).mono ?_
    rintro z w20 ⟨rfl, hb20⟩
    have hE20 := hEU.tr hb20
    clear p0 p1 p2 p3 u0 u1 u2 u3
    go_wp2_with fail
    refine (awake21_c _ (hT.ext hE20)).mono ?_
    rintro z w99 ⟨rfl, hb99⟩
    go_wp2
    go_ret
    exact ⟨rfl, hE20.tr hb99⟩
  · have hEU0 := hE7c
    have ho6 := ho6.low (b := wa.heap.size + 1) (by simp)
    have hU := hYb.put (.int .i64 Q.kind) (.bool Q.neg) (.int .i64 Q.exp) (.slice A6 (cn Q.mag).length c6)
    have hrU := (ho6.putBelow (g := wa.heap.size) (Nat.lt_succ_self _) (.int .i64 Q.kind) (.bool Q.neg) (.int .i64 Q.exp) (.slice A6 (cn Q.mag).length c6)).rdAt.2
    generalize ((((wb.setCell ⟨wa.heap.size, 0, none⟩ (.int .i64 Q.kind)).setCell ⟨wa.heap.size, 1, none⟩ (.bool Q.neg)).setCell ⟨wa.heap.size, 2, none⟩ (.int .i64 Q.exp)).setCell ⟨wa.heap.size, 3, none⟩ (.slice A6 (cn Q.mag).length c6)) = U at hEU0 hU hrU ⊢
    have hEU := hE8.tr hEU0
    have hPU := hP8.ext hEU0
    have hr2U := hr28.ext hEU0
    obtain ⟨p0, p1, p2, p3, -⟩ := hPU.facts
    obtain ⟨u0, u1, u2, u3, -⟩ := hU.facts
    go_wp2_with fail
    refine (iz A2 A6 c2 c6 _ hr2U hrU).mono ?_
    rintro z w20 ⟨rfl, hb20⟩
    have hE20 := hEU.tr hb20
    clear p0 p1 p2 p3 u0 u1 u2 u3
    go_wp2_with fail
    refine (awake21_c _ (hT.ext hE20)).mono ?_
    rintro z w99 ⟨rfl, hb99⟩
    go_wp2
    go_ret
    exact ⟨rfl, hE20.tr hb99⟩
  · have hEU0 := hE7b
    have hU := hYa.put (.int .i64 Q.kind) (.bool Q.neg) (.int .i64 Q.exp) (.slice A6 (cn Q.mag).length c6)
    have hrU := (ho6.putBelow (g := V.heap.size) hla (.int .i64 Q.kind) (.bool Q.neg) (.int .i64 Q.exp) (.slice A6 (cn Q.mag).length c6)).rdAt.2
    generalize ((((wb.setCell ⟨V.heap.size, 0, none⟩ (.int .i64 Q.kind)).setCell ⟨V.heap.size, 1, none⟩ (.bool Q.neg)).setCell ⟨V.heap.size, 2, none⟩ (.int .i64 Q.exp)).setCell ⟨V.heap.size, 3, none⟩ (.slice A6 (cn Q.mag).length c6)) = U at hEU0 hU hrU ⊢
    have hEU := hE8.tr hEU0
    have hPU := hP8.ext hEU0
    have hr2U := hr28.ext hEU0
    obtain ⟨p0, p1, p2, p3, -⟩ := hPU.facts
    obtain ⟨u0, u1, u2, u3, -⟩ := hU.facts
    go_wp2_with fail
    refine (iz A2 A6 c2 c6 _ hr2U hrU).mono ?_
    rintro z w20 ⟨rfl, hb20⟩
    have hE20 := hEU.tr hb20
    clear p0 p1 p2 p3 u0 u1 u2 u3
    go_wp2_with fail
    refine (awake21_c _ (hT.ext hE20)).mono ?_
    rintro z w99 ⟨rfl, hb99⟩
    go_wp2
    go_ret
    exact ⟨rfl, hE20.tr hb99⟩
set_option maxHeartbeats 8000000 in
set_option maxRecDepth 100000 in
theorem orderSteps_22 (k p : Int) (a b : FA) (jn : Bool) (jA : Option Addr) (jc : Nat) (js : List Nat) (w : World) (hT : Tab w) (ha : Rd w a.A a.c a.xs) (hb : Rd w b.A b.c b.xs) (hj : Rd w jA jc js) (hs : [a, b].all (fun a => decide (a.xs.length ≤ 40)) = true) (hjl : js.length ≤ 40) (hc : chkS k p [a, b] = 0) (hk : a.k = 3 ∨ b.k = 3) (hR : Rgt k p) (hm : infN k p < val js) :
    Calls Tryz.prog 6 #[.agg #[.int .i64 k, .int .i64 p], a.v, b.v, intV jn jA js.length jc] w fun e w' => e = .returned (.bool true) ∧ Ext w w' := by
  obtain ⟨hF, hX, hY, hI, hE, hsz⟩ := boxesV3 w k p a b (.bool jn) (.slice jA js.length jc) _ rfl
  have HF := Lib.hid hF
  have HX := Lib.hid hX
  have HY := Lib.hid hY
  have HI := Lib.hid hI
  have HE := Lib.hid hE
  have HS := Lib.hid hsz
  clear hF hX hY hI hE hsz
  have hsh := fun A c w h => short_c A c [a, b] w h
  have hck := fun A c w h => check21_c k p A c [a, b] w h (fun i hi => by
      have h1 := List.all_eq_true.1 hs _ (List.getElem_mem hi)
      have := of_decide_eq_true h1
      omega)
  have hla : a.xs.length ≤ 40 := of_decide_eq_true (List.all_eq_true.1 hs a (by simp))
  have hlb : b.xs.length ≤ 40 := of_decide_eq_true (List.all_eq_true.1 hs b (by simp))
  rw [hs] at hsh
  have hjd : decide ((40 : Int) < (js.length : Int)) = false := decide_eq_false (by omega)
  have hcn := fun w => check21_c k p none 0 [] w ⟨by simp, by simp, fun i hi => absurd hi (by simp)⟩ (fun i hi => absurd hi (by simp))
  simp only [List.length_nil] at hcn
  rw [chk_nil, if_pos hR] at hcn
  rw [hc] at hck
  obtain ⟨-, hpt⟩ := chk_good hc
  obtain ⟨f, hfc, hfi⟩ := hpt a (by simp)
  obtain ⟨g, hgc, hgi⟩ := hpt b (by simp)
  have hf := of_good hfc hfi ha.w64 (by omega)
  have hg := of_good hgc hgi hb.w64 (by omega)
  have hfl := FlsS_two_ok hR (by omega) hfc hfi (by omega) hgc hgi
  have ek1 : f.kind = a.k := canon_kind hfc
  have ek2 : g.kind = b.k := canon_kind hgc
  have t1 := fun w hT h h' => Steps_nan k p a b f g hfl (by omega) w hT h h'
  unfold IntNo at t1
  have hkk : (a.k == 3) = true ∨ ((a.k == 3) = false ∧ (b.k == 3) = true) := by
    by_cases h : a.k = 3
    · exact .inl (by simpa using h)
    · exact .inr ⟨by simpa using h, by simpa using hk.resolve_left h⟩
  have hni := fun w => noint_c none 0 w
  have hfm := fun w => fmt_c k p w
  have hta := fun w => their_c a.k a.e a.neg a.A a.xs.length a.c w
  have htb := fun w => their_c b.k b.e b.neg b.A b.xs.length b.c w
  have t2 := fun w hT h => At_no k p hR jn jA jc js (by omega) hm w hT h
  have m2 := fun w h => rat21_no k p hR jn jA jc js (by omega) hm w h
  unfold FErr FlR at t2
  have hnn := fun A c w => none_c 0 0 false A 0 c w
  simp only [show decide ((0 : Int) = 0 ∧ false = false ∧ (0 : Int) = 0 ∧ (0 : Nat) = 0) = true by decide] at hnn
  clear hs hla hlb hjl hc hm hfl hf hg hpt hfc hgc hfi hgi ek1 ek2 hk hR
  obtain ⟨ak, an, ae, aA, ac, as1⟩ := a
  obtain ⟨bk, bn, be, bA, bc, bs1⟩ := b
  simp only at HF HX HY HI HE HS ha hb t1 hta htb hkk
  go_enter Tryz.func6, Tryz.ntmps6
  go_wp2_with fail
  have hF := HF.out
  have hX := HX.out
  have hY := HY.out
  have hI := HI.out
  have hE := HE.out
  have hsz := HS.out
  clear HF HX HY HI HE HS
  generalize ((((w.alloc (.cells #[.int .i64 k, .int .i64 p] 23)).alloc (.cells #[.int .i64 ak, .bool an, .int .i64 ae, .slice aA as1.length ac] 28)).alloc (.cells #[.int .i64 bk, .bool bn, .int .i64 be, .slice bA bs1.length bc] 28)).alloc (.cells #[.bool jn, .slice jA js.length jc] 56)) = W at *
  have hL := FRd.two W ⟨ak, an, ae, aA, ac, as1⟩ ⟨bk, bn, be, bA, bc, bs1⟩ (ha.ext hE) (hb.ext hE)
  have hA := (Ext.refl W).al (.cells #[.int .i64 ak, .bool an, .int .i64 ae, .slice aA as1.length ac, .int .i64 bk, .bool bn, .int .i64 be, .slice bA bs1.length bc] 28)
  rw [hsz] at hL
  clear hsz
  refine (hsh _ _ _ hL).mono ?_
  rintro z w1 ⟨rfl, rfl⟩
  have hF1 := hF.ext hA
  have hX1 := hX.ext hA
  have hY1 := hY.ext hA
  have hI1 := hI.ext hA
  have hE1 := hE.tr hA
  clear hF hX hY hI hE hA hL
  generalize W.alloc (.cells #[.int .i64 ak, .bool an, .int .i64 ae, .slice aA as1.length ac, .int .i64 bk, .bool bn, .int .i64 be, .slice bA bs1.length bc] 28) = V at *
  obtain ⟨f0, f1⟩ := hF1.facts
  obtain ⟨x0, x1, x2, x3, -⟩ := hX1.facts
  obtain ⟨y0, y1, y2, y3, -⟩ := hY1.facts
  obtain ⟨i0, i1, -⟩ := hI1.facts
  go_wp2_with fail
  refine (t1 _ (hT.ext hE1) (ha.ext hE1) (hb.ext hE1)).mono ?_
  rintro z w2 ⟨rfl, hb2⟩
  have hN2 := Bi.new w2 (.bool false) (.slice none 0 0)
  have hG1 := (Ext.refl w2).al (.cells #[.bool false, .slice none 0 0] 56)
  have hF2 := hF1.ext hb2
  have hX2 := hX1.ext hb2
  have hY2 := hY1.ext hb2
  have hI2 := hI1.ext hb2
  have hE2 := hE1.tr hb2
  clear f0 f1 x0 x1 x2 x3 y0 y1 y2 y3 i0 i1
  clear hF1 hX1 hY1 hI1 hE1
  have hlf := hF2.lt
  have hlx := hX2.lt
  have hly := hY2.lt
  have hli := hI2.lt
  obtain ⟨f0, f1⟩ := hF2.facts
  obtain ⟨x0, x1, x2, x3, -⟩ := hX2.facts
  obtain ⟨y0, y1, y2, y3, -⟩ := hY2.facts
  obtain ⟨i0, i1, -⟩ := hI2.facts
  go_wp2_with fail
  have hF3 := hF2.ext hG1
  have hX3 := hX2.ext hG1
  have hY3 := hY2.ext hG1
  have hI3 := hI2.ext hG1
  have hE3 := hE2.tr hG1
  refine (t2 _ (hT.ext hE3) (hj.ext hE3)).mono ?_
  rintro z w4 ⟨u, rfl, ⟨v, rfl, ho4⟩, hb4⟩
  rw [show cn (0 : Nat) = [] from digs_zero B] at ho4
  obtain ⟨A2, c2, rfl, hr2⟩ := ho4.rd
  simp only [List.length_nil]
  have hP4 := Bx.new w4 (.int .i64 0) (.bool false) (.int .i64 0) (.slice A2 0 c2)
  have hG2 := (Ext.refl w4).al (.cells #[.int .i64 0, .bool false, .int .i64 0, .slice A2 0 c2] 28)
  have hF4 := hF3.ext hb4
  have hX4 := hX3.ext hb4
  have hY4 := hY3.ext hb4
  have hI4 := hI3.ext hb4
  have hE4 := hE3.tr hb4
  have hN4 := hN2.ext hb4
  clear f0 f1 x0 x1 x2 x3 y0 y1 y2 y3 i0 i1
  clear hF2 hX2 hY2 hI2 hE2 hF3 hX3 hY3 hI3 hE3 hlf hlx hly hli
  have hlf := hF4.lt
  have hlx := hX4.lt
  have hly := hY4.lt
  have hli := hI4.lt
  have hln := hN4.lt
  obtain ⟨f0, f1⟩ := hF4.facts
  obtain ⟨x0, x1, x2, x3, -⟩ := hX4.facts
  obtain ⟨y0, y1, y2, y3, -⟩ := hY4.facts
  obtain ⟨i0, i1, -⟩ := hI4.facts
  have hF5 := hF4.ext hG2
  have hX5 := hX4.ext hG2
  have hY5 := hY4.ext hG2
  have hI5 := hI4.ext hG2
  have hE5 := hE4.tr hG2
  have hN5 := hN4.ext hG2
  have hr25 := hr2.ext hG2
  have hL := FRd.two _ ⟨ak, an, ae, aA, ac, as1⟩ ⟨bk, bn, be, bA, bc, bs1⟩ (ha.ext hE5) (hb.ext hE5)
  have hA := (Ext.refl (w4.alloc (.cells #[.int .i64 0, .bool false, .int .i64 0, .slice A2 0 c2] 28))).al (.cells #[.int .i64 ak, .bool an, .int .i64 ae, .slice aA as1.length ac, .int .i64 bk, .bool bn, .int .i64 be, .slice bA bs1.length bc] 28)
  go_wp2_with fail
  rw [World.size_alloc] at hL
  refine (hck _ _ _ hL).mono ?_
  rintro z w6 ⟨rfl, hb6⟩
  replace hb6 := hA.tr hb6
  have hF6 := hF5.ext hb6
  have hX6 := hX5.ext hb6
  have hY6 := hY5.ext hb6
  have hI6 := hI5.ext hb6
  have hE6 := hE5.tr hb6
  have hN6 := hN5.ext hb6
  have hP6 := hP4.ext hb6
  have hr26 := hr25.ext hb6
  clear f0 f1 x0 x1 x2 x3 y0 y1 y2 y3 i0 i1
  clear hL hA hlf hlx hly hli hln hF5 hX5 hY5 hI5 hE5 hF4 hX4 hY4 hI4 hE4 hN4 hN5 hN2 hP4 hG1 hG2 hb4 hb6 hr2 hr25 ho4 hb2
  obtain ⟨f0, f1⟩ := hF6.facts
  obtain ⟨x0, x1, x2, x3, -⟩ := hX6.facts
  obtain ⟨y0, y1, y2, y3, -⟩ := hY6.facts
  obtain ⟨i0, i1, -⟩ := hI6.facts
  obtain ⟨q0, q1, -⟩ := hN6.facts
  rcases hkk with hk1 | ⟨hk1, hk2⟩
  · go_wp2_with fail
    refine (hni _).mono ?_
    rintro z w7 ⟨rfl, hb7⟩
    have hF7 := hF6.ext hb7
    have hX7 := hX6.ext hb7
    have hY7 := hY6.ext hb7
    have hI7 := hI6.ext hb7
    have hE7 := hE6.tr hb7
    have hP7 := hP6.ext hb7
    have hr27 := hr26.ext hb7
    clear f0 f1 x0 x1 x2 x3 y0 y1 y2 y3 i0 i1
    clear q0 q1 hN6 hF6 hX6 hY6 hI6 hE6 hP6 hr26 hb7
    obtain ⟨f0, f1⟩ := hF7.facts
    go_wp2_with fail
    refine (hcn _).mono ?_
    rintro z w8 ⟨rfl, hb8⟩
    have hF8 := hF7.ext hb8
    have hX8 := hX7.ext hb8
    have hY8 := hY7.ext hb8
    have hI8 := hI7.ext hb8
    have hE8 := hE7.tr hb8
    have hP8 := hP7.ext hb8
    have hr28 := hr27.ext hb8
    clear f0 f1
    generalize w8 = V at *
    obtain ⟨f0, f1⟩ := hF8.facts
    obtain ⟨i0, i1, -⟩ := hI8.facts
    have hA0 := (Ext.refl V).al (.cells #[.int .i64 0, .bool false, .int .i64 0, .slice none 0 0] 40)
    have hY0' : Br (V.drew.alloc (.cells #[.int .i64 0, .bool false, .int .i64 0, .slice none 0 0] 40)) V.heap.size (.int .i64 0) (.bool false) (.int .i64 0) (.slice none 0 0) := Br.new V.drew (.int .i64 0) (.bool false) (.int .i64 0) (.slice none 0 0)
    have hY0 := Br.new V (.int .i64 0) (.bool false) (.int .i64 0) (.slice none 0 0)
    go_wp2_with fail
    go_region_held3 (fun w' => w'.cell? ⟨w.heap.size, 0, none⟩ = some (.int .i64 k) ∧ w'.cell? ⟨w.heap.size, 1, none⟩ = some (.int .i64 p) ∧ w'.cell? ⟨w.heap.size + 1 + 1 + 1, 0, none⟩ = some (.bool jn) ∧ w'.cell? ⟨w.heap.size + 1 + 1 + 1, 1, none⟩ = some (.slice jA js.length jc))
      (first | (go_split_ands; (repeat' apply And.intro) <;> first | (with_reducible assumption) | (refine Ext.cell (w := V) ?_ ?_ <;> (with_reducible assumption))) | go_keep)
      (first
        | (go_at_call 25; (with_reducible refine (hfm _).mono ?_); rintro e wa ⟨rfl, hba⟩; (have hEa : Ext V wa := (by first | with_reducible exact (Ext.refl V).drew.tr hba | with_reducible exact hA0.drew.tr hba | with_reducible exact ((Ext.refl V).drew.al _).tr hba)); (try have hYa : Br wa V.heap.size (.int .i64 0) (.bool false) (.int .i64 0) (.slice none 0 0) := (by first | with_reducible exact hY0.drew'.ext hba | with_reducible exact hY0'.ext hba)))
        | (go_at_call 33; (with_reducible refine (m2 _ ?hr).mono ?_); (case hr => first | with_reducible exact hj.ext (hE8.tr hEa) | with_reducible exact hj.ext ((hE8.tr hEa).al _)); rintro e wb ⟨rfl, hbb⟩; (have hbb' : Ext wa wb := (by first | with_reducible exact hbb | with_reducible exact ((Ext.refl wa).al _).tr hbb)); have hEb : Ext V wb := hEa.tr hbb'; (try have hla := hYa.lt); (try (with_reducible replace hYa := hYa.ext hbb)); (try have hYb : Br wb wa.heap.size (.int .i64 0) (.bool false) (.int .i64 0) (.slice none 0 0) := (by with_reducible exact (Br.new wa (.int .i64 0) (.bool false) (.int .i64 0) (.slice none 0 0)).ext hbb)); (try obtain ⟨y0, y1, y2, y3, yf⟩ := hYa.facts); (try obtain ⟨y0, y1, y2, y3, yf⟩ := hYb.facts); have hE7a := hEb.al (.cells #[.int .i64 0, .bool false, .int .i64 0, .slice none 0 0] 40); have hE7b := hEb.put (g := V.heap.size) (Nat.le_refl _) (.int .i64 0) (.bool false) (.int .i64 0) (.slice none 0 0); have hE7c := hEb.put (g := wa.heap.size) hEa.size (.int .i64 0) (.bool false) (.int .i64 0) (.slice none 0 0))
        | fail)
    · have hEU0 := hE7a
      generalize (wb.alloc (.cells #[.int .i64 0, .bool false, .int .i64 0, .slice none 0 0] 40)) = U at hEU0 ⊢
      have hEU := hE8.tr hEU0
      have hPU := hP8.ext hEU0
      have hr2U := hr28.ext hEU0
      obtain ⟨p0, p1, p2, p3, -⟩ := hPU.facts
      go_wp2_with fail
      refine (hnn _ _ _).mono ?_
      rintro z w20 ⟨rfl, hb20⟩
      have hE20 := hEU.tr hb20
      clear p0 p1 p2 p3
      go_wp2_with fail
      refine (awake21_c _ (hT.ext hE20)).mono ?_
      rintro z w99 ⟨rfl, hb99⟩
      go_wp2
      go_ret
      exact ⟨rfl, hE20.tr hb99⟩
    · have hEU0 := hE7c
      generalize ((((wb.setCell ⟨wa.heap.size, 0, none⟩ (.int .i64 0)).setCell ⟨wa.heap.size, 1, none⟩ (.bool false)).setCell ⟨wa.heap.size, 2, none⟩ (.int .i64 0)).setCell ⟨wa.heap.size, 3, none⟩ (.slice none 0 0)) = U at hEU0 ⊢
      have hEU := hE8.tr hEU0
      have hPU := hP8.ext hEU0
      have hr2U := hr28.ext hEU0
      obtain ⟨p0, p1, p2, p3, -⟩ := hPU.facts
      go_wp2_with fail
      refine (hnn _ _ _).mono ?_
      rintro z w20 ⟨rfl, hb20⟩
      have hE20 := hEU.tr hb20
      clear p0 p1 p2 p3
      go_wp2_with fail
      refine (awake21_c _ (hT.ext hE20)).mono ?_
      rintro z w99 ⟨rfl, hb99⟩
      go_wp2
      go_ret
      exact ⟨rfl, hE20.tr hb99⟩
    · have hEU0 := hE7b
      generalize ((((wb.setCell ⟨V.heap.size, 0, none⟩ (.int .i64 0)).setCell ⟨V.heap.size, 1, none⟩ (.bool false)).setCell ⟨V.heap.size, 2, none⟩ (.int .i64 0)).setCell ⟨V.heap.size, 3, none⟩ (.slice none 0 0)) = U at hEU0 ⊢
      have hEU := hE8.tr hEU0
      have hPU := hP8.ext hEU0
      have hr2U := hr28.ext hEU0
      obtain ⟨p0, p1, p2, p3, -⟩ := hPU.facts
      go_wp2_with fail
      refine (hnn _ _ _).mono ?_
      rintro z w20 ⟨rfl, hb20⟩
      have hE20 := hEU.tr hb20
      clear p0 p1 p2 p3
      go_wp2_with fail
      refine (awake21_c _ (hT.ext hE20)).mono ?_
      rintro z w99 ⟨rfl, hb99⟩
      go_wp2
      go_ret
      exact ⟨rfl, hE20.tr hb99⟩
  · go_wp2_with fail
    refine (hni _).mono ?_
    rintro z w7 ⟨rfl, hb7⟩
    have hF7 := hF6.ext hb7
    have hX7 := hX6.ext hb7
    have hY7 := hY6.ext hb7
    have hI7 := hI6.ext hb7
    have hE7 := hE6.tr hb7
    have hP7 := hP6.ext hb7
    have hr27 := hr26.ext hb7
    clear f0 f1 x0 x1 x2 x3 y0 y1 y2 y3 i0 i1
    clear q0 q1 hN6 hF6 hX6 hY6 hI6 hE6 hP6 hr26 hb7
    obtain ⟨f0, f1⟩ := hF7.facts
    go_wp2_with fail
    refine (hcn _).mono ?_
    rintro z w8 ⟨rfl, hb8⟩
    have hF8 := hF7.ext hb8
    have hX8 := hX7.ext hb8
    have hY8 := hY7.ext hb8
    have hI8 := hI7.ext hb8
    have hE8 := hE7.tr hb8
    have hP8 := hP7.ext hb8
    have hr28 := hr27.ext hb8
    clear f0 f1
    generalize w8 = V at *
    obtain ⟨f0, f1⟩ := hF8.facts
    obtain ⟨i0, i1, -⟩ := hI8.facts
    have hA0 := (Ext.refl V).al (.cells #[.int .i64 0, .bool false, .int .i64 0, .slice none 0 0] 40)
    have hY0' : Br (V.drew.alloc (.cells #[.int .i64 0, .bool false, .int .i64 0, .slice none 0 0] 40)) V.heap.size (.int .i64 0) (.bool false) (.int .i64 0) (.slice none 0 0) := Br.new V.drew (.int .i64 0) (.bool false) (.int .i64 0) (.slice none 0 0)
    have hY0 := Br.new V (.int .i64 0) (.bool false) (.int .i64 0) (.slice none 0 0)
    go_wp2_with fail
    go_region_held3 (fun w' => w'.cell? ⟨w.heap.size, 0, none⟩ = some (.int .i64 k) ∧ w'.cell? ⟨w.heap.size, 1, none⟩ = some (.int .i64 p) ∧ w'.cell? ⟨w.heap.size + 1 + 1 + 1, 0, none⟩ = some (.bool jn) ∧ w'.cell? ⟨w.heap.size + 1 + 1 + 1, 1, none⟩ = some (.slice jA js.length jc))
      (first | (go_split_ands; (repeat' apply And.intro) <;> first | (with_reducible assumption) | (refine Ext.cell (w := V) ?_ ?_ <;> (with_reducible assumption))) | go_keep)
      (first
        | (go_at_call 25; (with_reducible refine (hfm _).mono ?_); rintro e wa ⟨rfl, hba⟩; (have hEa : Ext V wa := (by first | with_reducible exact (Ext.refl V).drew.tr hba | with_reducible exact hA0.drew.tr hba | with_reducible exact ((Ext.refl V).drew.al _).tr hba)); (try have hYa : Br wa V.heap.size (.int .i64 0) (.bool false) (.int .i64 0) (.slice none 0 0) := (by first | with_reducible exact hY0.drew'.ext hba | with_reducible exact hY0'.ext hba)))
        | (go_at_call 33; (with_reducible refine (m2 _ ?hr).mono ?_); (case hr => first | with_reducible exact hj.ext (hE8.tr hEa) | with_reducible exact hj.ext ((hE8.tr hEa).al _)); rintro e wb ⟨rfl, hbb⟩; (have hbb' : Ext wa wb := (by first | with_reducible exact hbb | with_reducible exact ((Ext.refl wa).al _).tr hbb)); have hEb : Ext V wb := hEa.tr hbb'; (try have hla := hYa.lt); (try (with_reducible replace hYa := hYa.ext hbb)); (try have hYb : Br wb wa.heap.size (.int .i64 0) (.bool false) (.int .i64 0) (.slice none 0 0) := (by with_reducible exact (Br.new wa (.int .i64 0) (.bool false) (.int .i64 0) (.slice none 0 0)).ext hbb)); (try obtain ⟨y0, y1, y2, y3, yf⟩ := hYa.facts); (try obtain ⟨y0, y1, y2, y3, yf⟩ := hYb.facts); have hE7a := hEb.al (.cells #[.int .i64 0, .bool false, .int .i64 0, .slice none 0 0] 40); have hE7b := hEb.put (g := V.heap.size) (Nat.le_refl _) (.int .i64 0) (.bool false) (.int .i64 0) (.slice none 0 0); have hE7c := hEb.put (g := wa.heap.size) hEa.size (.int .i64 0) (.bool false) (.int .i64 0) (.slice none 0 0))
        | fail)
    · have hEU0 := hE7a
      generalize (wb.alloc (.cells #[.int .i64 0, .bool false, .int .i64 0, .slice none 0 0] 40)) = U at hEU0 ⊢
      have hEU := hE8.tr hEU0
      have hPU := hP8.ext hEU0
      have hr2U := hr28.ext hEU0
      obtain ⟨p0, p1, p2, p3, -⟩ := hPU.facts
      go_wp2_with fail
      refine (hnn _ _ _).mono ?_
      rintro z w20 ⟨rfl, hb20⟩
      have hE20 := hEU.tr hb20
      clear p0 p1 p2 p3
      go_wp2_with fail
      refine (awake21_c _ (hT.ext hE20)).mono ?_
      rintro z w99 ⟨rfl, hb99⟩
      go_wp2
      go_ret
      exact ⟨rfl, hE20.tr hb99⟩
    · have hEU0 := hE7c
      generalize ((((wb.setCell ⟨wa.heap.size, 0, none⟩ (.int .i64 0)).setCell ⟨wa.heap.size, 1, none⟩ (.bool false)).setCell ⟨wa.heap.size, 2, none⟩ (.int .i64 0)).setCell ⟨wa.heap.size, 3, none⟩ (.slice none 0 0)) = U at hEU0 ⊢
      have hEU := hE8.tr hEU0
      have hPU := hP8.ext hEU0
      have hr2U := hr28.ext hEU0
      obtain ⟨p0, p1, p2, p3, -⟩ := hPU.facts
      go_wp2_with fail
      refine (hnn _ _ _).mono ?_
      rintro z w20 ⟨rfl, hb20⟩
      have hE20 := hEU.tr hb20
      clear p0 p1 p2 p3
      go_wp2_with fail
      refine (awake21_c _ (hT.ext hE20)).mono ?_
      rintro z w99 ⟨rfl, hb99⟩
      go_wp2
      go_ret
      exact ⟨rfl, hE20.tr hb99⟩
    · have hEU0 := hE7b
      generalize ((((wb.setCell ⟨V.heap.size, 0, none⟩ (.int .i64 0)).setCell ⟨V.heap.size, 1, none⟩ (.bool false)).setCell ⟨V.heap.size, 2, none⟩ (.int .i64 0)).setCell ⟨V.heap.size, 3, none⟩ (.slice none 0 0)) = U at hEU0 ⊢
      have hEU := hE8.tr hEU0
      have hPU := hP8.ext hEU0
      have hr2U := hr28.ext hEU0
      obtain ⟨p0, p1, p2, p3, -⟩ := hPU.facts
      go_wp2_with fail
      refine (hnn _ _ _).mono ?_
      rintro z w20 ⟨rfl, hb20⟩
      have hE20 := hEU.tr hb20
      clear p0 p1 p2 p3
      go_wp2_with fail
      refine (awake21_c _ (hT.ext hE20)).mono ?_
      rintro z w99 ⟨rfl, hb99⟩
      go_wp2
      go_ret
      exact ⟨rfl, hE20.tr hb99⟩
set_option maxHeartbeats 8000000 in
set_option maxRecDepth 100000 in
theorem orderSteps_23 (k p : Int) (a b : FA) (jn : Bool) (jA : Option Addr) (jc : Nat) (js : List Nat) (w : World) (hT : Tab w) (ha : Rd w a.A a.c a.xs) (hb : Rd w b.A b.c b.xs) (hj : Rd w jA jc js) (hs : [a, b].all (fun a => decide (a.xs.length ≤ 40)) = true) (hjl : js.length ≤ 40) (hc : chkS k p [a, b] = 0) (hk : a.k = 3 ∨ b.k = 3) (hR : Rgt k p) (hm : val js ≤ infN k p) :
    Calls Tryz.prog 6 #[.agg #[.int .i64 k, .int .i64 p], a.v, b.v, intV jn jA js.length jc] w fun e w' => e = .returned (.bool true) ∧ Ext w w' := by
  obtain ⟨hF, hX, hY, hI, hE, hsz⟩ := boxesV3 w k p a b (.bool jn) (.slice jA js.length jc) _ rfl
  have HF := Lib.hid hF
  have HX := Lib.hid hX
  have HY := Lib.hid hY
  have HI := Lib.hid hI
  have HE := Lib.hid hE
  have HS := Lib.hid hsz
  clear hF hX hY hI hE hsz
  have hsh := fun A c w h => short_c A c [a, b] w h
  have hck := fun A c w h => check21_c k p A c [a, b] w h (fun i hi => by
      have h1 := List.all_eq_true.1 hs _ (List.getElem_mem hi)
      have := of_decide_eq_true h1
      omega)
  have hla : a.xs.length ≤ 40 := of_decide_eq_true (List.all_eq_true.1 hs a (by simp))
  have hlb : b.xs.length ≤ 40 := of_decide_eq_true (List.all_eq_true.1 hs b (by simp))
  rw [hs] at hsh
  have hjd : decide ((40 : Int) < (js.length : Int)) = false := decide_eq_false (by omega)
  have hcn := fun w => check21_c k p none 0 [] w ⟨by simp, by simp, fun i hi => absurd hi (by simp)⟩ (fun i hi => absurd hi (by simp))
  simp only [List.length_nil] at hcn
  rw [chk_nil, if_pos hR] at hcn
  rw [hc] at hck
  obtain ⟨-, hpt⟩ := chk_good hc
  obtain ⟨f, hfc, hfi⟩ := hpt a (by simp)
  obtain ⟨g, hgc, hgi⟩ := hpt b (by simp)
  have hf := of_good hfc hfi ha.w64 (by omega)
  have hg := of_good hgc hgi hb.w64 (by omega)
  have hfl := FlsS_two_ok hR (by omega) hfc hfi (by omega) hgc hgi
  have ek1 : f.kind = a.k := canon_kind hfc
  have ek2 : g.kind = b.k := canon_kind hgc
  have t1 := fun w hT h h' => Steps_nan k p a b f g hfl (by omega) w hT h h'
  unfold IntNo at t1
  have hkk : (a.k == 3) = true ∨ ((a.k == 3) = false ∧ (b.k == 3) = true) := by
    by_cases h : a.k = 3
    · exact .inl (by simpa using h)
    · exact .inr ⟨by simpa using h, by simpa using hk.resolve_left h⟩
  have hni := fun w => noint_c none 0 w
  have hfm := fun w => fmt_c k p w
  have hta := fun w => their_c a.k a.e a.neg a.A a.xs.length a.c w
  have htb := fun w => their_c b.k b.e b.neg b.A b.xs.length b.c w
  have t2 := fun w hT h => At_yes k p hR jn jA jc js (by omega) hm w hT h
  have m2 := fun w h => rat21_yes k p hR jn jA jc js (by omega) hm w h
  have hQf := at_of (z := sg jn (val js)) hR (by rw [sg_abs]; exact hm)
  have iz := fun A A' c c' w h h' => lis_own _ hQf.ok hQf.len A A' c c' w h h'
  unfold FErr FlR at t2
  unfold DecR FlR at m2
  clear hs hla hlb hjl hc hm hQf hfl hf hg hpt hfc hgc hfi hgi ek1 ek2 hk hR
  generalize atF k p (sg jn (val js)) = Q at *
  obtain ⟨ak, an, ae, aA, ac, as1⟩ := a
  obtain ⟨bk, bn, be, bA, bc, bs1⟩ := b
  simp only at HF HX HY HI HE HS ha hb t1 hta htb hkk
  go_enter Tryz.func6, Tryz.ntmps6
  go_wp2_with fail
  have hF := HF.out
  have hX := HX.out
  have hY := HY.out
  have hI := HI.out
  have hE := HE.out
  have hsz := HS.out
  clear HF HX HY HI HE HS
  generalize ((((w.alloc (.cells #[.int .i64 k, .int .i64 p] 23)).alloc (.cells #[.int .i64 ak, .bool an, .int .i64 ae, .slice aA as1.length ac] 28)).alloc (.cells #[.int .i64 bk, .bool bn, .int .i64 be, .slice bA bs1.length bc] 28)).alloc (.cells #[.bool jn, .slice jA js.length jc] 56)) = W at *
  have hL := FRd.two W ⟨ak, an, ae, aA, ac, as1⟩ ⟨bk, bn, be, bA, bc, bs1⟩ (ha.ext hE) (hb.ext hE)
  have hA := (Ext.refl W).al (.cells #[.int .i64 ak, .bool an, .int .i64 ae, .slice aA as1.length ac, .int .i64 bk, .bool bn, .int .i64 be, .slice bA bs1.length bc] 28)
  rw [hsz] at hL
  clear hsz
  refine (hsh _ _ _ hL).mono ?_
  rintro z w1 ⟨rfl, rfl⟩
  have hF1 := hF.ext hA
  have hX1 := hX.ext hA
  have hY1 := hY.ext hA
  have hI1 := hI.ext hA
  have hE1 := hE.tr hA
  clear hF hX hY hI hE hA hL
  generalize W.alloc (.cells #[.int .i64 ak, .bool an, .int .i64 ae, .slice aA as1.length ac, .int .i64 bk, .bool bn, .int .i64 be, .slice bA bs1.length bc] 28) = V at *
  obtain ⟨f0, f1⟩ := hF1.facts
  obtain ⟨x0, x1, x2, x3, -⟩ := hX1.facts
  obtain ⟨y0, y1, y2, y3, -⟩ := hY1.facts
  obtain ⟨i0, i1, -⟩ := hI1.facts
  go_wp2_with fail
  refine (t1 _ (hT.ext hE1) (ha.ext hE1) (hb.ext hE1)).mono ?_
  rintro z w2 ⟨rfl, hb2⟩
  have hN2 := Bi.new w2 (.bool false) (.slice none 0 0)
  have hG1 := (Ext.refl w2).al (.cells #[.bool false, .slice none 0 0] 56)
  have hF2 := hF1.ext hb2
  have hX2 := hX1.ext hb2
  have hY2 := hY1.ext hb2
  have hI2 := hI1.ext hb2
  have hE2 := hE1.tr hb2
  clear f0 f1 x0 x1 x2 x3 y0 y1 y2 y3 i0 i1
  clear hF1 hX1 hY1 hI1 hE1
  have hlf := hF2.lt
  have hlx := hX2.lt
  have hly := hY2.lt
  have hli := hI2.lt
  obtain ⟨f0, f1⟩ := hF2.facts
  obtain ⟨x0, x1, x2, x3, -⟩ := hX2.facts
  obtain ⟨y0, y1, y2, y3, -⟩ := hY2.facts
  obtain ⟨i0, i1, -⟩ := hI2.facts
  go_wp2_with fail
  have hF3 := hF2.ext hG1
  have hX3 := hX2.ext hG1
  have hY3 := hY2.ext hG1
  have hI3 := hI2.ext hG1
  have hE3 := hE2.tr hG1
  refine (t2 _ (hT.ext hE3) (hj.ext hE3)).mono ?_
  rintro z w4 ⟨u, rfl, ⟨v, rfl, ho4⟩, hb4⟩
  obtain ⟨A2, c2, rfl, hr2⟩ := ho4.rd
  have hP4 := Bx.new w4 (.int .i64 Q.kind) (.bool Q.neg) (.int .i64 Q.exp) (.slice A2 (cn Q.mag).length c2)
  have hG2 := (Ext.refl w4).al (.cells #[.int .i64 Q.kind, .bool Q.neg, .int .i64 Q.exp, .slice A2 (cn Q.mag).length c2] 28)
  have hF4 := hF3.ext hb4
  have hX4 := hX3.ext hb4
  have hY4 := hY3.ext hb4
  have hI4 := hI3.ext hb4
  have hE4 := hE3.tr hb4
  have hN4 := hN2.ext hb4
  clear f0 f1 x0 x1 x2 x3 y0 y1 y2 y3 i0 i1
  clear hF2 hX2 hY2 hI2 hE2 hF3 hX3 hY3 hI3 hE3 hlf hlx hly hli
  have hlf := hF4.lt
  have hlx := hX4.lt
  have hly := hY4.lt
  have hli := hI4.lt
  have hln := hN4.lt
  obtain ⟨f0, f1⟩ := hF4.facts
  obtain ⟨x0, x1, x2, x3, -⟩ := hX4.facts
  obtain ⟨y0, y1, y2, y3, -⟩ := hY4.facts
  obtain ⟨i0, i1, -⟩ := hI4.facts
  have hF5 := hF4.ext hG2
  have hX5 := hX4.ext hG2
  have hY5 := hY4.ext hG2
  have hI5 := hI4.ext hG2
  have hE5 := hE4.tr hG2
  have hN5 := hN4.ext hG2
  have hr25 := hr2.ext hG2
  have hL := FRd.two _ ⟨ak, an, ae, aA, ac, as1⟩ ⟨bk, bn, be, bA, bc, bs1⟩ (ha.ext hE5) (hb.ext hE5)
  have hA := (Ext.refl (w4.alloc (.cells #[.int .i64 Q.kind, .bool Q.neg, .int .i64 Q.exp, .slice A2 (cn Q.mag).length c2] 28))).al (.cells #[.int .i64 ak, .bool an, .int .i64 ae, .slice aA as1.length ac, .int .i64 bk, .bool bn, .int .i64 be, .slice bA bs1.length bc] 28)
  go_wp2_with fail
  rw [World.size_alloc] at hL
  refine (hck _ _ _ hL).mono ?_
  rintro z w6 ⟨rfl, hb6⟩
  replace hb6 := hA.tr hb6
  have hF6 := hF5.ext hb6
  have hX6 := hX5.ext hb6
  have hY6 := hY5.ext hb6
  have hI6 := hI5.ext hb6
  have hE6 := hE5.tr hb6
  have hN6 := hN5.ext hb6
  have hP6 := hP4.ext hb6
  have hr26 := hr25.ext hb6
  clear f0 f1 x0 x1 x2 x3 y0 y1 y2 y3 i0 i1
  clear hL hA hlf hlx hly hli hln hF5 hX5 hY5 hI5 hE5 hF4 hX4 hY4 hI4 hE4 hN4 hN5 hN2 hP4 hG1 hG2 hb4 hb6 hr2 hr25 ho4 hb2
  obtain ⟨f0, f1⟩ := hF6.facts
  obtain ⟨x0, x1, x2, x3, -⟩ := hX6.facts
  obtain ⟨y0, y1, y2, y3, -⟩ := hY6.facts
  obtain ⟨i0, i1, -⟩ := hI6.facts
  obtain ⟨q0, q1, -⟩ := hN6.facts
  rcases hkk with hk1 | ⟨hk1, hk2⟩
  · go_wp2_with fail
    refine (hni _).mono ?_
    rintro z w7 ⟨rfl, hb7⟩
    have hF7 := hF6.ext hb7
    have hX7 := hX6.ext hb7
    have hY7 := hY6.ext hb7
    have hI7 := hI6.ext hb7
    have hE7 := hE6.tr hb7
    have hP7 := hP6.ext hb7
    have hr27 := hr26.ext hb7
    clear f0 f1 x0 x1 x2 x3 y0 y1 y2 y3 i0 i1
    clear q0 q1 hN6 hF6 hX6 hY6 hI6 hE6 hP6 hr26 hb7
    obtain ⟨f0, f1⟩ := hF7.facts
    go_wp2_with fail
    refine (hcn _).mono ?_
    rintro z w8 ⟨rfl, hb8⟩
    have hF8 := hF7.ext hb8
    have hX8 := hX7.ext hb8
    have hY8 := hY7.ext hb8
    have hI8 := hI7.ext hb8
    have hE8 := hE7.tr hb8
    have hP8 := hP7.ext hb8
    have hr28 := hr27.ext hb8
    clear f0 f1
    generalize w8 = V at *
    obtain ⟨f0, f1⟩ := hF8.facts
    obtain ⟨i0, i1, -⟩ := hI8.facts
    have hA0 := (Ext.refl V).al (.cells #[.int .i64 0, .bool false, .int .i64 0, .slice none 0 0] 40)
    have hY0' : Br (V.drew.alloc (.cells #[.int .i64 0, .bool false, .int .i64 0, .slice none 0 0] 40)) V.heap.size (.int .i64 0) (.bool false) (.int .i64 0) (.slice none 0 0) := Br.new V.drew (.int .i64 0) (.bool false) (.int .i64 0) (.slice none 0 0)
    have hY0 := Br.new V (.int .i64 0) (.bool false) (.int .i64 0) (.slice none 0 0)
    go_wp2_with fail
    go_region_held3 (fun w' => w'.cell? ⟨w.heap.size, 0, none⟩ = some (.int .i64 k) ∧ w'.cell? ⟨w.heap.size, 1, none⟩ = some (.int .i64 p) ∧ w'.cell? ⟨w.heap.size + 1 + 1 + 1, 0, none⟩ = some (.bool jn) ∧ w'.cell? ⟨w.heap.size + 1 + 1 + 1, 1, none⟩ = some (.slice jA js.length jc))
      (first | (go_split_ands; (repeat' apply And.intro) <;> first | (with_reducible assumption) | (refine Ext.cell (w := V) ?_ ?_ <;> (with_reducible assumption))) | go_keep)
      (first
        | (go_at_call 25; (with_reducible refine (hfm _).mono ?_); rintro e wa ⟨rfl, hba⟩; (have hEa : Ext V wa := (by first | with_reducible exact (Ext.refl V).drew.tr hba | with_reducible exact hA0.drew.tr hba | with_reducible exact ((Ext.refl V).drew.al _).tr hba)); (try have hYa : Br wa V.heap.size (.int .i64 0) (.bool false) (.int .i64 0) (.slice none 0 0) := (by first | with_reducible exact hY0.drew'.ext hba | with_reducible exact hY0'.ext hba)))
        | (go_at_call 33; (with_reducible refine (m2 _ ?hr).mono ?_); (case hr => first | with_reducible exact hj.ext (hE8.tr hEa) | with_reducible exact hj.ext ((hE8.tr hEa).al _)); rintro e wb ⟨u, rfl, ⟨v, rfl, ho6⟩, hbb⟩; obtain ⟨A6, c6, rfl, hr6⟩ := ho6.rd; (have hbb' : Ext wa wb := (by first | with_reducible exact hbb | with_reducible exact ((Ext.refl wa).al _).tr hbb)); have hEb : Ext V wb := hEa.tr hbb'; (try have hla := hYa.lt); (try (with_reducible replace hYa := hYa.ext hbb)); (try have hYb : Br wb wa.heap.size (.int .i64 0) (.bool false) (.int .i64 0) (.slice none 0 0) := (by with_reducible exact (Br.new wa (.int .i64 0) (.bool false) (.int .i64 0) (.slice none 0 0)).ext hbb)); (try obtain ⟨y0, y1, y2, y3, yf⟩ := hYa.facts); (try obtain ⟨y0, y1, y2, y3, yf⟩ := hYb.facts); have hE7a := hEb.al (.cells #[.int .i64 Q.kind, .bool Q.neg, .int .i64 Q.exp, .slice A6 (cn Q.mag).length c6] 40); have hE7b := hEb.put (g := V.heap.size) (Nat.le_refl _) (.int .i64 Q.kind) (.bool Q.neg) (.int .i64 Q.exp) (.slice A6 (cn Q.mag).length c6); have hE7c := hEb.put (g := wa.heap.size) hEa.size (.int .i64 Q.kind) (.bool Q.neg) (.int .i64 Q.exp) (.slice A6 (cn Q.mag).length c6))
        | fail)
    · have hEU0 := hE7a
      have hU := Br.new wb (.int .i64 Q.kind) (.bool Q.neg) (.int .i64 Q.exp) (.slice A6 (cn Q.mag).length c6)
      have hrU := hr6.ext ((Ext.refl wb).al (.cells #[.int .i64 Q.kind, .bool Q.neg, .int .i64 Q.exp, .slice A6 (cn Q.mag).length c6] 40))
      generalize (wb.alloc (.cells #[.int .i64 Q.kind, .bool Q.neg, .int .i64 Q.exp, .slice A6 (cn Q.mag).length c6] 40)) = U at hEU0 hU hrU ⊢
      have hEU := hE8.tr hEU0
      have hPU := hP8.ext hEU0
      have hr2U := hr28.ext hEU0
      obtain ⟨p0, p1, p2, p3, -⟩ := hPU.facts
      obtain ⟨u0, u1, u2, u3, -⟩ := hU.facts
      go_wp2_with fail
      refine (iz A2 A6 c2 c6 _ hr2U hrU).mono ?_
      rintro z w20 ⟨rfl, hb20⟩
      have hE20 := hEU.tr hb20
      clear p0 p1 p2 p3 u0 u1 u2 u3
      go_wp2_with fail
      refine (awake21_c _ (hT.ext hE20)).mono ?_
      rintro z w99 ⟨rfl, hb99⟩
      go_wp2
      go_ret
      exact ⟨rfl, hE20.tr hb99⟩
    · have hEU0 := hE7c
      have ho6 := ho6.low (b := wa.heap.size + 1) (by simp)
      have hU := hYb.put (.int .i64 Q.kind) (.bool Q.neg) (.int .i64 Q.exp) (.slice A6 (cn Q.mag).length c6)
      have hrU := (ho6.putBelow (g := wa.heap.size) (Nat.lt_succ_self _) (.int .i64 Q.kind) (.bool Q.neg) (.int .i64 Q.exp) (.slice A6 (cn Q.mag).length c6)).rdAt.2
      generalize ((((wb.setCell ⟨wa.heap.size, 0, none⟩ (.int .i64 Q.kind)).setCell ⟨wa.heap.size, 1, none⟩ (.bool Q.neg)).setCell ⟨wa.heap.size, 2, none⟩ (.int .i64 Q.exp)).setCell ⟨wa.heap.size, 3, none⟩ (.slice A6 (cn Q.mag).length c6)) = U at hEU0 hU hrU ⊢
      have hEU := hE8.tr hEU0
      have hPU := hP8.ext hEU0
      have hr2U := hr28.ext hEU0
      obtain ⟨p0, p1, p2, p3, -⟩ := hPU.facts
      obtain ⟨u0, u1, u2, u3, -⟩ := hU.facts
      go_wp2_with fail
      refine (iz A2 A6 c2 c6 _ hr2U hrU).mono ?_
      rintro z w20 ⟨rfl, hb20⟩
      have hE20 := hEU.tr hb20
      clear p0 p1 p2 p3 u0 u1 u2 u3
      go_wp2_with fail
      refine (awake21_c _ (hT.ext hE20)).mono ?_
      rintro z w99 ⟨rfl, hb99⟩
      go_wp2
      go_ret
      exact ⟨rfl, hE20.tr hb99⟩
    · have hEU0 := hE7b
      have hU := hYa.put (.int .i64 Q.kind) (.bool Q.neg) (.int .i64 Q.exp) (.slice A6 (cn Q.mag).length c6)
      have hrU := (ho6.putBelow (g := V.heap.size) hla (.int .i64 Q.kind) (.bool Q.neg) (.int .i64 Q.exp) (.slice A6 (cn Q.mag).length c6)).rdAt.2
      generalize ((((wb.setCell ⟨V.heap.size, 0, none⟩ (.int .i64 Q.kind)).setCell ⟨V.heap.size, 1, none⟩ (.bool Q.neg)).setCell ⟨V.heap.size, 2, none⟩ (.int .i64 Q.exp)).setCell ⟨V.heap.size, 3, none⟩ (.slice A6 (cn Q.mag).length c6)) = U at hEU0 hU hrU ⊢
      have hEU := hE8.tr hEU0
      have hPU := hP8.ext hEU0
      have hr2U := hr28.ext hEU0
      obtain ⟨p0, p1, p2, p3, -⟩ := hPU.facts
      obtain ⟨u0, u1, u2, u3, -⟩ := hU.facts
      go_wp2_with fail
      refine (iz A2 A6 c2 c6 _ hr2U hrU).mono ?_
      rintro z w20 ⟨rfl, hb20⟩
      have hE20 := hEU.tr hb20
      clear p0 p1 p2 p3 u0 u1 u2 u3
      go_wp2_with fail
      refine (awake21_c _ (hT.ext hE20)).mono ?_
      rintro z w99 ⟨rfl, hb99⟩
      go_wp2
      go_ret
      exact ⟨rfl, hE20.tr hb99⟩
  · go_wp2_with fail
    refine (hni _).mono ?_
    rintro z w7 ⟨rfl, hb7⟩
    have hF7 := hF6.ext hb7
    have hX7 := hX6.ext hb7
    have hY7 := hY6.ext hb7
    have hI7 := hI6.ext hb7
    have hE7 := hE6.tr hb7
    have hP7 := hP6.ext hb7
    have hr27 := hr26.ext hb7
    clear f0 f1 x0 x1 x2 x3 y0 y1 y2 y3 i0 i1
    clear q0 q1 hN6 hF6 hX6 hY6 hI6 hE6 hP6 hr26 hb7
    obtain ⟨f0, f1⟩ := hF7.facts
    go_wp2_with fail
    refine (hcn _).mono ?_
    rintro z w8 ⟨rfl, hb8⟩
    have hF8 := hF7.ext hb8
    have hX8 := hX7.ext hb8
    have hY8 := hY7.ext hb8
    have hI8 := hI7.ext hb8
    have hE8 := hE7.tr hb8
    have hP8 := hP7.ext hb8
    have hr28 := hr27.ext hb8
    clear f0 f1
    generalize w8 = V at *
    obtain ⟨f0, f1⟩ := hF8.facts
    obtain ⟨i0, i1, -⟩ := hI8.facts
    have hA0 := (Ext.refl V).al (.cells #[.int .i64 0, .bool false, .int .i64 0, .slice none 0 0] 40)
    have hY0' : Br (V.drew.alloc (.cells #[.int .i64 0, .bool false, .int .i64 0, .slice none 0 0] 40)) V.heap.size (.int .i64 0) (.bool false) (.int .i64 0) (.slice none 0 0) := Br.new V.drew (.int .i64 0) (.bool false) (.int .i64 0) (.slice none 0 0)
    have hY0 := Br.new V (.int .i64 0) (.bool false) (.int .i64 0) (.slice none 0 0)
    go_wp2_with fail
    go_region_held3 (fun w' => w'.cell? ⟨w.heap.size, 0, none⟩ = some (.int .i64 k) ∧ w'.cell? ⟨w.heap.size, 1, none⟩ = some (.int .i64 p) ∧ w'.cell? ⟨w.heap.size + 1 + 1 + 1, 0, none⟩ = some (.bool jn) ∧ w'.cell? ⟨w.heap.size + 1 + 1 + 1, 1, none⟩ = some (.slice jA js.length jc))
      (first | (go_split_ands; (repeat' apply And.intro) <;> first | (with_reducible assumption) | (refine Ext.cell (w := V) ?_ ?_ <;> (with_reducible assumption))) | go_keep)
      (first
        | (go_at_call 25; (with_reducible refine (hfm _).mono ?_); rintro e wa ⟨rfl, hba⟩; (have hEa : Ext V wa := (by first | with_reducible exact (Ext.refl V).drew.tr hba | with_reducible exact hA0.drew.tr hba | with_reducible exact ((Ext.refl V).drew.al _).tr hba)); (try have hYa : Br wa V.heap.size (.int .i64 0) (.bool false) (.int .i64 0) (.slice none 0 0) := (by first | with_reducible exact hY0.drew'.ext hba | with_reducible exact hY0'.ext hba)))
        | (go_at_call 33; (with_reducible refine (m2 _ ?hr).mono ?_); (case hr => first | with_reducible exact hj.ext (hE8.tr hEa) | with_reducible exact hj.ext ((hE8.tr hEa).al _)); rintro e wb ⟨u, rfl, ⟨v, rfl, ho6⟩, hbb⟩; obtain ⟨A6, c6, rfl, hr6⟩ := ho6.rd; (have hbb' : Ext wa wb := (by first | with_reducible exact hbb | with_reducible exact ((Ext.refl wa).al _).tr hbb)); have hEb : Ext V wb := hEa.tr hbb'; (try have hla := hYa.lt); (try (with_reducible replace hYa := hYa.ext hbb)); (try have hYb : Br wb wa.heap.size (.int .i64 0) (.bool false) (.int .i64 0) (.slice none 0 0) := (by with_reducible exact (Br.new wa (.int .i64 0) (.bool false) (.int .i64 0) (.slice none 0 0)).ext hbb)); (try obtain ⟨y0, y1, y2, y3, yf⟩ := hYa.facts); (try obtain ⟨y0, y1, y2, y3, yf⟩ := hYb.facts); have hE7a := hEb.al (.cells #[.int .i64 Q.kind, .bool Q.neg, .int .i64 Q.exp, .slice A6 (cn Q.mag).length c6] 40); have hE7b := hEb.put (g := V.heap.size) (Nat.le_refl _) (.int .i64 Q.kind) (.bool Q.neg) (.int .i64 Q.exp) (.slice A6 (cn Q.mag).length c6); have hE7c := hEb.put (g := wa.heap.size) hEa.size (.int .i64 Q.kind) (.bool Q.neg) (.int .i64 Q.exp) (.slice A6 (cn Q.mag).length c6))
        | fail)
    · have hEU0 := hE7a
      have hU := Br.new wb (.int .i64 Q.kind) (.bool Q.neg) (.int .i64 Q.exp) (.slice A6 (cn Q.mag).length c6)
      have hrU := hr6.ext ((Ext.refl wb).al (.cells #[.int .i64 Q.kind, .bool Q.neg, .int .i64 Q.exp, .slice A6 (cn Q.mag).length c6] 40))
      generalize (wb.alloc (.cells #[.int .i64 Q.kind, .bool Q.neg, .int .i64 Q.exp, .slice A6 (cn Q.mag).length c6] 40)) = U at hEU0 hU hrU ⊢
      have hEU := hE8.tr hEU0
      have hPU := hP8.ext hEU0
      have hr2U := hr28.ext hEU0
      obtain ⟨p0, p1, p2, p3, -⟩ := hPU.facts
      obtain ⟨u0, u1, u2, u3, -⟩ := hU.facts
      go_wp2_with fail
      refine (iz A2 A6 c2 c6 _ hr2U hrU).mono ?_
      rintro z w20 ⟨rfl, hb20⟩
      have hE20 := hEU.tr hb20
      clear p0 p1 p2 p3 u0 u1 u2 u3
      go_wp2_with fail
      refine (awake21_c _ (hT.ext hE20)).mono ?_
      rintro z w99 ⟨rfl, hb99⟩
      go_wp2
      go_ret
      exact ⟨rfl, hE20.tr hb99⟩
    · have hEU0 := hE7c
      have ho6 := ho6.low (b := wa.heap.size + 1) (by simp)
      have hU := hYb.put (.int .i64 Q.kind) (.bool Q.neg) (.int .i64 Q.exp) (.slice A6 (cn Q.mag).length c6)
      have hrU := (ho6.putBelow (g := wa.heap.size) (Nat.lt_succ_self _) (.int .i64 Q.kind) (.bool Q.neg) (.int .i64 Q.exp) (.slice A6 (cn Q.mag).length c6)).rdAt.2
      generalize ((((wb.setCell ⟨wa.heap.size, 0, none⟩ (.int .i64 Q.kind)).setCell ⟨wa.heap.size, 1, none⟩ (.bool Q.neg)).setCell ⟨wa.heap.size, 2, none⟩ (.int .i64 Q.exp)).setCell ⟨wa.heap.size, 3, none⟩ (.slice A6 (cn Q.mag).length c6)) = U at hEU0 hU hrU ⊢
      have hEU := hE8.tr hEU0
      have hPU := hP8.ext hEU0
      have hr2U := hr28.ext hEU0
      obtain ⟨p0, p1, p2, p3, -⟩ := hPU.facts
      obtain ⟨u0, u1, u2, u3, -⟩ := hU.facts
      go_wp2_with fail
      refine (iz A2 A6 c2 c6 _ hr2U hrU).mono ?_
      rintro z w20 ⟨rfl, hb20⟩
      have hE20 := hEU.tr hb20
      clear p0 p1 p2 p3 u0 u1 u2 u3
      go_wp2_with fail
      refine (awake21_c _ (hT.ext hE20)).mono ?_
      rintro z w99 ⟨rfl, hb99⟩
      go_wp2
      go_ret
      exact ⟨rfl, hE20.tr hb99⟩
    · have hEU0 := hE7b
      have hU := hYa.put (.int .i64 Q.kind) (.bool Q.neg) (.int .i64 Q.exp) (.slice A6 (cn Q.mag).length c6)
      have hrU := (ho6.putBelow (g := V.heap.size) hla (.int .i64 Q.kind) (.bool Q.neg) (.int .i64 Q.exp) (.slice A6 (cn Q.mag).length c6)).rdAt.2
      generalize ((((wb.setCell ⟨V.heap.size, 0, none⟩ (.int .i64 Q.kind)).setCell ⟨V.heap.size, 1, none⟩ (.bool Q.neg)).setCell ⟨V.heap.size, 2, none⟩ (.int .i64 Q.exp)).setCell ⟨V.heap.size, 3, none⟩ (.slice A6 (cn Q.mag).length c6)) = U at hEU0 hU hrU ⊢
      have hEU := hE8.tr hEU0
      have hPU := hP8.ext hEU0
      have hr2U := hr28.ext hEU0
      obtain ⟨p0, p1, p2, p3, -⟩ := hPU.facts
      obtain ⟨u0, u1, u2, u3, -⟩ := hU.facts
      go_wp2_with fail
      refine (iz A2 A6 c2 c6 _ hr2U hrU).mono ?_
      rintro z w20 ⟨rfl, hb20⟩
      have hE20 := hEU.tr hb20
      clear p0 p1 p2 p3 u0 u1 u2 u3
      go_wp2_with fail
      refine (awake21_c _ (hT.ext hE20)).mono ?_
      rintro z w99 ⟨rfl, hb99⟩
      go_wp2
      go_ret
      exact ⟨rfl, hE20.tr hb99⟩
set_option maxHeartbeats 8000000 in
set_option maxRecDepth 100000 in
theorem orderSteps_32 (k p : Int) (a b : FA) (jn : Bool) (jA : Option Addr) (jc : Nat) (js : List Nat) (w : World) (hT : Tab w) (ha : Rd w a.A a.c a.xs) (hb : Rd w b.A b.c b.xs) (hj : Rd w jA jc js) (hs : [a, b].all (fun a => decide (a.xs.length ≤ 40)) = true) (hjl : js.length ≤ 40) (hc : chkS k p [a, b] = 0) (hk : ¬ (a.k = 3 ∨ b.k = 3)) (hR : Rgt k p) (hm : infN k p < val js) :
    Calls Tryz.prog 6 #[.agg #[.int .i64 k, .int .i64 p], a.v, b.v, intV jn jA js.length jc] w fun e w' => e = .returned (.bool true) ∧ Ext w w' := by
  obtain ⟨hF, hX, hY, hI, hE, hsz⟩ := boxesV3 w k p a b (.bool jn) (.slice jA js.length jc) _ rfl
  have HF := Lib.hid hF
  have HX := Lib.hid hX
  have HY := Lib.hid hY
  have HI := Lib.hid hI
  have HE := Lib.hid hE
  have HS := Lib.hid hsz
  clear hF hX hY hI hE hsz
  have hsh := fun A c w h => short_c A c [a, b] w h
  have hck := fun A c w h => check21_c k p A c [a, b] w h (fun i hi => by
      have h1 := List.all_eq_true.1 hs _ (List.getElem_mem hi)
      have := of_decide_eq_true h1
      omega)
  have hla : a.xs.length ≤ 40 := of_decide_eq_true (List.all_eq_true.1 hs a (by simp))
  have hlb : b.xs.length ≤ 40 := of_decide_eq_true (List.all_eq_true.1 hs b (by simp))
  rw [hs] at hsh
  have hjd : decide ((40 : Int) < (js.length : Int)) = false := decide_eq_false (by omega)
  have hcn := fun w => check21_c k p none 0 [] w ⟨by simp, by simp, fun i hi => absurd hi (by simp)⟩ (fun i hi => absurd hi (by simp))
  simp only [List.length_nil] at hcn
  rw [chk_nil, if_pos hR] at hcn
  rw [hc] at hck
  obtain ⟨-, hpt⟩ := chk_good hc
  obtain ⟨f, hfc, hfi⟩ := hpt a (by simp)
  obtain ⟨g, hgc, hgi⟩ := hpt b (by simp)
  have hf := of_good hfc hfi ha.w64 (by omega)
  have hg := of_good hgc hgi hb.w64 (by omega)
  have hfl := FlsS_two_ok hR (by omega) hfc hfi (by omega) hgc hgi
  have ek1 : f.kind = a.k := canon_kind hfc
  have ek2 : g.kind = b.k := canon_kind hgc
  have t1 := fun w hT h h' => Steps_good k p hR a b f g hfl hf hg (by omega) (by omega) w hT h h'
  have n1 := fun w h => rindex21_c k p hR a f hfc hf (by omega) w h
  have n2 := fun w h => rindex21_c k p hR b g hgc hg (by omega) w h
  have l1 := idx_len hR hf
  have l2 := idx_len hR hg
  have l3 := idx_sub_len hR hf hg
  have n3 := fun A A' c c' w h h' => rsub11_c (decide (idx k p g < 0)) (decide (idx k p f < 0)) A A' c c' (cn (idx k p g).natAbs) (cn (idx k p f).natAbs) w h h' (by omega) (by omega)
  simp only [val_cn, sg_self] at n3
  have n4 := fun A A' c c' w h h' => ris11_z (idx k p g - idx k p f) (by omega) A A' c c' w h h'
  have hk1 : (a.k == 3) = false := by simp; omega
  have hk2 : (b.k == 3) = false := by simp; omega
  unfold IntSE at t1
  unfold IntR at n1 n2 n3
  have hni := fun w => noint_c none 0 w
  have hfm := fun w => fmt_c k p w
  have hta := fun w => their_c a.k a.e a.neg a.A a.xs.length a.c w
  have htb := fun w => their_c b.k b.e b.neg b.A b.xs.length b.c w
  have t2 := fun w hT h => At_no k p hR jn jA jc js (by omega) hm w hT h
  have m2 := fun w h => rat21_no k p hR jn jA jc js (by omega) hm w h
  unfold FErr FlR at t2
  have hnn := fun A c w => none_c 0 0 false A 0 c w
  simp only [show decide ((0 : Int) = 0 ∧ false = false ∧ (0 : Int) = 0 ∧ (0 : Nat) = 0) = true by decide] at hnn
  clear hs hla hlb hjl hc hm hfl hf hg hpt hfc hgc hfi hgi ek1 ek2 hk l1 l2 l3 hR
  generalize idx k p g - idx k p f = zz at *
  generalize idx k p g = zg at *
  generalize idx k p f = zf at *
  generalize decide (zz < 0) = bz at *
  generalize decide (zg < 0) = bg at *
  generalize decide (zf < 0) = bf at *
  generalize cn zz.natAbs = Lz at *
  generalize cn zg.natAbs = Lg at *
  generalize cn zf.natAbs = Lf at *
  obtain ⟨ak, an, ae, aA, ac, as1⟩ := a
  obtain ⟨bk, bn, be, bA, bc, bs1⟩ := b
  simp only at HF HX HY HI HE HS ha hb t1 hta htb n1 n2 hk1 hk2
  go_enter Tryz.func6, Tryz.ntmps6
  go_wp2_with fail
  have hF := HF.out
  have hX := HX.out
  have hY := HY.out
  have hI := HI.out
  have hE := HE.out
  have hsz := HS.out
  clear HF HX HY HI HE HS
  generalize ((((w.alloc (.cells #[.int .i64 k, .int .i64 p] 23)).alloc (.cells #[.int .i64 ak, .bool an, .int .i64 ae, .slice aA as1.length ac] 28)).alloc (.cells #[.int .i64 bk, .bool bn, .int .i64 be, .slice bA bs1.length bc] 28)).alloc (.cells #[.bool jn, .slice jA js.length jc] 56)) = W at *
  have hL := FRd.two W ⟨ak, an, ae, aA, ac, as1⟩ ⟨bk, bn, be, bA, bc, bs1⟩ (ha.ext hE) (hb.ext hE)
  have hA := (Ext.refl W).al (.cells #[.int .i64 ak, .bool an, .int .i64 ae, .slice aA as1.length ac, .int .i64 bk, .bool bn, .int .i64 be, .slice bA bs1.length bc] 28)
  rw [hsz] at hL
  clear hsz
  refine (hsh _ _ _ hL).mono ?_
  rintro z w1 ⟨rfl, rfl⟩
  have hF1 := hF.ext hA
  have hX1 := hX.ext hA
  have hY1 := hY.ext hA
  have hI1 := hI.ext hA
  have hE1 := hE.tr hA
  clear hF hX hY hI hE hA hL
  generalize W.alloc (.cells #[.int .i64 ak, .bool an, .int .i64 ae, .slice aA as1.length ac, .int .i64 bk, .bool bn, .int .i64 be, .slice bA bs1.length bc] 28) = V at *
  obtain ⟨f0, f1⟩ := hF1.facts
  obtain ⟨x0, x1, x2, x3, -⟩ := hX1.facts
  obtain ⟨y0, y1, y2, y3, -⟩ := hY1.facts
  obtain ⟨i0, i1, -⟩ := hI1.facts
  go_wp2_with fail
  refine (t1 _ (hT.ext hE1) (ha.ext hE1) (hb.ext hE1)).mono ?_
  rintro z w2 ⟨A1, c1, rfl, ho2, hb2⟩
  have hr1 := ho2.rdAt.2
  have hN2 := Bi.new w2 (.bool bz) (.slice A1 Lz.length c1)
  have hG1 := (Ext.refl w2).al (.cells #[.bool bz, .slice A1 Lz.length c1] 56)
  have hF2 := hF1.ext hb2
  have hX2 := hX1.ext hb2
  have hY2 := hY1.ext hb2
  have hI2 := hI1.ext hb2
  have hE2 := hE1.tr hb2
  clear f0 f1 x0 x1 x2 x3 y0 y1 y2 y3 i0 i1
  clear hF1 hX1 hY1 hI1 hE1
  have hlf := hF2.lt
  have hlx := hX2.lt
  have hly := hY2.lt
  have hli := hI2.lt
  obtain ⟨f0, f1⟩ := hF2.facts
  obtain ⟨x0, x1, x2, x3, -⟩ := hX2.facts
  obtain ⟨y0, y1, y2, y3, -⟩ := hY2.facts
  obtain ⟨i0, i1, -⟩ := hI2.facts
  go_wp2_with fail
  have hF3 := hF2.ext hG1
  have hX3 := hX2.ext hG1
  have hY3 := hY2.ext hG1
  have hI3 := hI2.ext hG1
  have hE3 := hE2.tr hG1
  have hr13 := hr1.ext hG1
  refine (t2 _ (hT.ext hE3) (hj.ext hE3)).mono ?_
  rintro z w4 ⟨u, rfl, ⟨v, rfl, ho4⟩, hb4⟩
  rw [show cn (0 : Nat) = [] from digs_zero B] at ho4
  obtain ⟨A2, c2, rfl, hr2⟩ := ho4.rd
  simp only [List.length_nil]
  have hP4 := Bx.new w4 (.int .i64 0) (.bool false) (.int .i64 0) (.slice A2 0 c2)
  have hG2 := (Ext.refl w4).al (.cells #[.int .i64 0, .bool false, .int .i64 0, .slice A2 0 c2] 28)
  have hF4 := hF3.ext hb4
  have hX4 := hX3.ext hb4
  have hY4 := hY3.ext hb4
  have hI4 := hI3.ext hb4
  have hE4 := hE3.tr hb4
  have hN4 := hN2.ext hb4
  have hr14 := hr13.ext hb4
  clear f0 f1 x0 x1 x2 x3 y0 y1 y2 y3 i0 i1
  clear hF2 hX2 hY2 hI2 hE2 hF3 hX3 hY3 hI3 hE3 hlf hlx hly hli
  have hlf := hF4.lt
  have hlx := hX4.lt
  have hly := hY4.lt
  have hli := hI4.lt
  have hln := hN4.lt
  obtain ⟨f0, f1⟩ := hF4.facts
  obtain ⟨x0, x1, x2, x3, -⟩ := hX4.facts
  obtain ⟨y0, y1, y2, y3, -⟩ := hY4.facts
  obtain ⟨i0, i1, -⟩ := hI4.facts
  have hF5 := hF4.ext hG2
  have hX5 := hX4.ext hG2
  have hY5 := hY4.ext hG2
  have hI5 := hI4.ext hG2
  have hE5 := hE4.tr hG2
  have hN5 := hN4.ext hG2
  have hr25 := hr2.ext hG2
  have hr15 := hr14.ext hG2
  have hL := FRd.two _ ⟨ak, an, ae, aA, ac, as1⟩ ⟨bk, bn, be, bA, bc, bs1⟩ (ha.ext hE5) (hb.ext hE5)
  have hA := (Ext.refl (w4.alloc (.cells #[.int .i64 0, .bool false, .int .i64 0, .slice A2 0 c2] 28))).al (.cells #[.int .i64 ak, .bool an, .int .i64 ae, .slice aA as1.length ac, .int .i64 bk, .bool bn, .int .i64 be, .slice bA bs1.length bc] 28)
  go_wp2_with fail
  rw [World.size_alloc] at hL
  refine (hck _ _ _ hL).mono ?_
  rintro z w6 ⟨rfl, hb6⟩
  replace hb6 := hA.tr hb6
  have hF6 := hF5.ext hb6
  have hX6 := hX5.ext hb6
  have hY6 := hY5.ext hb6
  have hI6 := hI5.ext hb6
  have hE6 := hE5.tr hb6
  have hN6 := hN5.ext hb6
  have hP6 := hP4.ext hb6
  have hr26 := hr25.ext hb6
  have hr16 := hr15.ext hb6
  clear f0 f1 x0 x1 x2 x3 y0 y1 y2 y3 i0 i1
  clear hL hA hlf hlx hly hli hln hF5 hX5 hY5 hI5 hE5 hF4 hX4 hY4 hI4 hE4 hN4 hN5 hN2 hP4 hG1 hG2 hb4 hb6 hr2 hr25 ho4 hb2 hr1 hr13 hr14 hr15 ho2
  obtain ⟨f0, f1⟩ := hF6.facts
  obtain ⟨x0, x1, x2, x3, -⟩ := hX6.facts
  obtain ⟨y0, y1, y2, y3, -⟩ := hY6.facts
  obtain ⟨i0, i1, -⟩ := hI6.facts
  obtain ⟨q0, q1, -⟩ := hN6.facts
  go_wp2_with fail
  go_region_held3 (fun w' => w'.cell? ⟨w.heap.size, 0, none⟩ = some (.int .i64 k) ∧ w'.cell? ⟨w.heap.size, 1, none⟩ = some (.int .i64 p) ∧ w'.cell? ⟨w.heap.size + 1, 0, none⟩ = some (.int .i64 ak) ∧ w'.cell? ⟨w.heap.size + 1, 1, none⟩ = some (.bool an) ∧ w'.cell? ⟨w.heap.size + 1, 2, none⟩ = some (.int .i64 ae) ∧ w'.cell? ⟨w.heap.size + 1, 3, none⟩ = some (.slice aA as1.length ac) ∧ w'.cell? ⟨w.heap.size + 1 + 1, 0, none⟩ = some (.int .i64 bk) ∧ w'.cell? ⟨w.heap.size + 1 + 1, 1, none⟩ = some (.bool bn) ∧ w'.cell? ⟨w.heap.size + 1 + 1, 2, none⟩ = some (.int .i64 be) ∧ w'.cell? ⟨w.heap.size + 1 + 1, 3, none⟩ = some (.slice bA bs1.length bc) ∧ w'.cell? ⟨w2.heap.size, 0, none⟩ = some (.bool bz) ∧ w'.cell? ⟨w2.heap.size, 1, none⟩ = some (.slice A1 Lz.length c1))
    (first | go_keep | (go_split_ands; refine ⟨?_, ?_, ?_, ?_, ?_, ?_, ?_, ?_, ?_, ?_, ?_, ?_⟩ <;> first | (with_reducible assumption) | (refine Ext.cell (w := w6) ?_ ?_ <;> (with_reducible assumption))))
    (first
      | (go_at_call 25; (with_reducible refine (hfm _).mono ?_); rintro z w10 ⟨rfl, hbq⟩; have hE10 : Ext w6 w10 := (Ext.refl w6).drew.tr hbq; )
      | (go_at_call 14; (with_reducible refine (htb _).mono ?_); rintro z w11 ⟨rfl, hbq⟩; have hE11 : Ext w6 w11 := hE10.tr hbq; )
      | (go_at_call 32; (with_reducible refine (n2 _ (hb.ext (hE6.tr hE11))).mono ?_); rintro z w12 ⟨A3, c3, rfl, ho, hbq⟩; have hE12 : Ext w6 w12 := hE11.tr hbq; have hr3 := ho.rdAt.2)
      | (go_at_call 25; (with_reducible refine (hfm _).mono ?_); rintro z w13 ⟨rfl, hbq⟩; have hE13 : Ext w6 w13 := hE12.tr hbq; have hr33 := hr3.ext hbq)
      | (go_at_call 14; (with_reducible refine (hta _).mono ?_); rintro z w14 ⟨rfl, hbq⟩; have hE14 : Ext w6 w14 := hE13.tr hbq; have hr34 := hr33.ext hbq)
      | (go_at_call 32; (with_reducible refine (n1 _ (ha.ext (hE6.tr hE14))).mono ?_); rintro z w15 ⟨A4, c4, rfl, ho, hbq⟩; have hE15 : Ext w6 w15 := hE14.tr hbq; have hr4 := ho.rdAt.2; have hr35 := hr34.ext hbq)
      | (go_at_call 31; (with_reducible refine (n3 A3 A4 c3 c4 _ hr35 hr4).mono ?_); rintro z w16 ⟨A5, c5, rfl, ho, hbq⟩; have hE16 : Ext w6 w16 := hE15.tr hbq; have hr5 := ho.rdAt.2)
      | (go_at_call 30; (with_reducible refine (n4 A1 A5 c1 c5 _ (hr16.ext hE16) hr5).mono ?_); rintro z w17 ⟨rfl, hbq⟩; have hE17 : Ext w6 w17 := hE16.tr hbq; )
      | fail)
  have hb7 := hE17
  have hF7 := hF6.ext hb7
  have hX7 := hX6.ext hb7
  have hY7 := hY6.ext hb7
  have hI7 := hI6.ext hb7
  have hE7 := hE6.tr hb7
  have hP7 := hP6.ext hb7
  have hr27 := hr26.ext hb7
  clear f0 f1 x0 x1 x2 x3 y0 y1 y2 y3 i0 i1
  clear q0 q1 hN6 hF6 hX6 hY6 hI6 hE6 hP6 hr26 hb7
  obtain ⟨f0, f1⟩ := hF7.facts
  go_wp2_with fail
  refine (hcn _).mono ?_
  rintro z w8 ⟨rfl, hb8⟩
  have hF8 := hF7.ext hb8
  have hX8 := hX7.ext hb8
  have hY8 := hY7.ext hb8
  have hI8 := hI7.ext hb8
  have hE8 := hE7.tr hb8
  have hP8 := hP7.ext hb8
  have hr28 := hr27.ext hb8
  clear f0 f1
  generalize w8 = V at *
  obtain ⟨f0, f1⟩ := hF8.facts
  obtain ⟨i0, i1, -⟩ := hI8.facts
  have hA0 := (Ext.refl V).al (.cells #[.int .i64 0, .bool false, .int .i64 0, .slice none 0 0] 40)
  have hY0' : Br (V.drew.alloc (.cells #[.int .i64 0, .bool false, .int .i64 0, .slice none 0 0] 40)) V.heap.size (.int .i64 0) (.bool false) (.int .i64 0) (.slice none 0 0) := Br.new V.drew (.int .i64 0) (.bool false) (.int .i64 0) (.slice none 0 0)
  have hY0 := Br.new V (.int .i64 0) (.bool false) (.int .i64 0) (.slice none 0 0)
  go_wp2_with fail
  go_region_held3 (fun w' => w'.cell? ⟨w.heap.size, 0, none⟩ = some (.int .i64 k) ∧ w'.cell? ⟨w.heap.size, 1, none⟩ = some (.int .i64 p) ∧ w'.cell? ⟨w.heap.size + 1 + 1 + 1, 0, none⟩ = some (.bool jn) ∧ w'.cell? ⟨w.heap.size + 1 + 1 + 1, 1, none⟩ = some (.slice jA js.length jc))
    (first | (go_split_ands; (repeat' apply And.intro) <;> first | (with_reducible assumption) | (refine Ext.cell (w := V) ?_ ?_ <;> (with_reducible assumption))) | go_keep)
    (first
      | (go_at_call 25; (with_reducible refine (hfm _).mono ?_); rintro e wa ⟨rfl, hba⟩; (have hEa : Ext V wa := (by first | with_reducible exact (Ext.refl V).drew.tr hba | with_reducible exact hA0.drew.tr hba | with_reducible exact ((Ext.refl V).drew.al _).tr hba)); (try have hYa : Br wa V.heap.size (.int .i64 0) (.bool false) (.int .i64 0) (.slice none 0 0) := (by first | with_reducible exact hY0.drew'.ext hba | with_reducible exact hY0'.ext hba)))
      | (go_at_call 33; (with_reducible refine (m2 _ ?hr).mono ?_); (case hr => first | with_reducible exact hj.ext (hE8.tr hEa) | with_reducible exact hj.ext ((hE8.tr hEa).al _)); rintro e wb ⟨rfl, hbb⟩; (have hbb' : Ext wa wb := (by first | with_reducible exact hbb | with_reducible exact ((Ext.refl wa).al _).tr hbb)); have hEb : Ext V wb := hEa.tr hbb'; (try have hla := hYa.lt); (try (with_reducible replace hYa := hYa.ext hbb)); (try have hYb : Br wb wa.heap.size (.int .i64 0) (.bool false) (.int .i64 0) (.slice none 0 0) := (by with_reducible exact (Br.new wa (.int .i64 0) (.bool false) (.int .i64 0) (.slice none 0 0)).ext hbb)); (try obtain ⟨y0, y1, y2, y3, yf⟩ := hYa.facts); (try obtain ⟨y0, y1, y2, y3, yf⟩ := hYb.facts); have hE7a := hEb.al (.cells #[.int .i64 0, .bool false, .int .i64 0, .slice none 0 0] 40); have hE7b := hEb.put (g := V.heap.size) (Nat.le_refl _) (.int .i64 0) (.bool false) (.int .i64 0) (.slice none 0 0); have hE7c := hEb.put (g := wa.heap.size) hEa.size (.int .i64 0) (.bool false) (.int .i64 0) (.slice none 0 0))
      | fail)
  · have hEU0 := hE7a
    generalize (wb.alloc (.cells #[.int .i64 0, .bool false, .int .i64 0, .slice none 0 0] 40)) = U at hEU0 ⊢
    have hEU := hE8.tr hEU0
    have hPU := hP8.ext hEU0
    have hr2U := hr28.ext hEU0
    obtain ⟨p0, p1, p2, p3, -⟩ := hPU.facts
    go_wp2_with fail
    refine (hnn _ _ _).mono ?_
    rintro z w20 ⟨rfl, hb20⟩
    have hE20 := hEU.tr hb20
    clear p0 p1 p2 p3
    go_wp2_with fail
    refine (awake21_c _ (hT.ext hE20)).mono ?_
    rintro z w99 ⟨rfl, hb99⟩
    go_wp2
    go_ret
    exact ⟨rfl, hE20.tr hb99⟩
  · have hEU0 := hE7c
    generalize ((((wb.setCell ⟨wa.heap.size, 0, none⟩ (.int .i64 0)).setCell ⟨wa.heap.size, 1, none⟩ (.bool false)).setCell ⟨wa.heap.size, 2, none⟩ (.int .i64 0)).setCell ⟨wa.heap.size, 3, none⟩ (.slice none 0 0)) = U at hEU0 ⊢
    have hEU := hE8.tr hEU0
    have hPU := hP8.ext hEU0
    have hr2U := hr28.ext hEU0
    obtain ⟨p0, p1, p2, p3, -⟩ := hPU.facts
    go_wp2_with fail
    refine (hnn _ _ _).mono ?_
    rintro z w20 ⟨rfl, hb20⟩
    have hE20 := hEU.tr hb20
    clear p0 p1 p2 p3
    go_wp2_with fail
    refine (awake21_c _ (hT.ext hE20)).mono ?_
    rintro z w99 ⟨rfl, hb99⟩
    go_wp2
    go_ret
    exact ⟨rfl, hE20.tr hb99⟩
  · have hEU0 := hE7b
    generalize ((((wb.setCell ⟨V.heap.size, 0, none⟩ (.int .i64 0)).setCell ⟨V.heap.size, 1, none⟩ (.bool false)).setCell ⟨V.heap.size, 2, none⟩ (.int .i64 0)).setCell ⟨V.heap.size, 3, none⟩ (.slice none 0 0)) = U at hEU0 ⊢
    have hEU := hE8.tr hEU0
    have hPU := hP8.ext hEU0
    have hr2U := hr28.ext hEU0
    obtain ⟨p0, p1, p2, p3, -⟩ := hPU.facts
    go_wp2_with fail
    refine (hnn _ _ _).mono ?_
    rintro z w20 ⟨rfl, hb20⟩
    have hE20 := hEU.tr hb20
    clear p0 p1 p2 p3
    go_wp2_with fail
    refine (awake21_c _ (hT.ext hE20)).mono ?_
    rintro z w99 ⟨rfl, hb99⟩
    go_wp2
    go_ret
    exact ⟨rfl, hE20.tr hb99⟩
set_option maxHeartbeats 8000000 in
set_option maxRecDepth 100000 in
theorem orderSteps_33 (k p : Int) (a b : FA) (jn : Bool) (jA : Option Addr) (jc : Nat) (js : List Nat) (w : World) (hT : Tab w) (ha : Rd w a.A a.c a.xs) (hb : Rd w b.A b.c b.xs) (hj : Rd w jA jc js) (hs : [a, b].all (fun a => decide (a.xs.length ≤ 40)) = true) (hjl : js.length ≤ 40) (hc : chkS k p [a, b] = 0) (hk : ¬ (a.k = 3 ∨ b.k = 3)) (hR : Rgt k p) (hm : val js ≤ infN k p) :
    Calls Tryz.prog 6 #[.agg #[.int .i64 k, .int .i64 p], a.v, b.v, intV jn jA js.length jc] w fun e w' => e = .returned (.bool true) ∧ Ext w w' := by
  obtain ⟨hF, hX, hY, hI, hE, hsz⟩ := boxesV3 w k p a b (.bool jn) (.slice jA js.length jc) _ rfl
  have HF := Lib.hid hF
  have HX := Lib.hid hX
  have HY := Lib.hid hY
  have HI := Lib.hid hI
  have HE := Lib.hid hE
  have HS := Lib.hid hsz
  clear hF hX hY hI hE hsz
  have hsh := fun A c w h => short_c A c [a, b] w h
  have hck := fun A c w h => check21_c k p A c [a, b] w h (fun i hi => by
      have h1 := List.all_eq_true.1 hs _ (List.getElem_mem hi)
      have := of_decide_eq_true h1
      omega)
  have hla : a.xs.length ≤ 40 := of_decide_eq_true (List.all_eq_true.1 hs a (by simp))
  have hlb : b.xs.length ≤ 40 := of_decide_eq_true (List.all_eq_true.1 hs b (by simp))
  rw [hs] at hsh
  have hjd : decide ((40 : Int) < (js.length : Int)) = false := decide_eq_false (by omega)
  have hcn := fun w => check21_c k p none 0 [] w ⟨by simp, by simp, fun i hi => absurd hi (by simp)⟩ (fun i hi => absurd hi (by simp))
  simp only [List.length_nil] at hcn
  rw [chk_nil, if_pos hR] at hcn
  rw [hc] at hck
  obtain ⟨-, hpt⟩ := chk_good hc
  obtain ⟨f, hfc, hfi⟩ := hpt a (by simp)
  obtain ⟨g, hgc, hgi⟩ := hpt b (by simp)
  have hf := of_good hfc hfi ha.w64 (by omega)
  have hg := of_good hgc hgi hb.w64 (by omega)
  have hfl := FlsS_two_ok hR (by omega) hfc hfi (by omega) hgc hgi
  have ek1 : f.kind = a.k := canon_kind hfc
  have ek2 : g.kind = b.k := canon_kind hgc
  have t1 := fun w hT h h' => Steps_good k p hR a b f g hfl hf hg (by omega) (by omega) w hT h h'
  have n1 := fun w h => rindex21_c k p hR a f hfc hf (by omega) w h
  have n2 := fun w h => rindex21_c k p hR b g hgc hg (by omega) w h
  have l1 := idx_len hR hf
  have l2 := idx_len hR hg
  have l3 := idx_sub_len hR hf hg
  have n3 := fun A A' c c' w h h' => rsub11_c (decide (idx k p g < 0)) (decide (idx k p f < 0)) A A' c c' (cn (idx k p g).natAbs) (cn (idx k p f).natAbs) w h h' (by omega) (by omega)
  simp only [val_cn, sg_self] at n3
  have n4 := fun A A' c c' w h h' => ris11_z (idx k p g - idx k p f) (by omega) A A' c c' w h h'
  have hk1 : (a.k == 3) = false := by simp; omega
  have hk2 : (b.k == 3) = false := by simp; omega
  unfold IntSE at t1
  unfold IntR at n1 n2 n3
  have hni := fun w => noint_c none 0 w
  have hfm := fun w => fmt_c k p w
  have hta := fun w => their_c a.k a.e a.neg a.A a.xs.length a.c w
  have htb := fun w => their_c b.k b.e b.neg b.A b.xs.length b.c w
  have t2 := fun w hT h => At_yes k p hR jn jA jc js (by omega) hm w hT h
  have m2 := fun w h => rat21_yes k p hR jn jA jc js (by omega) hm w h
  have hQf := at_of (z := sg jn (val js)) hR (by rw [sg_abs]; exact hm)
  have iz := fun A A' c c' w h h' => lis_own _ hQf.ok hQf.len A A' c c' w h h'
  unfold FErr FlR at t2
  unfold DecR FlR at m2
  clear hs hla hlb hjl hc hm hQf hfl hf hg hpt hfc hgc hfi hgi ek1 ek2 hk l1 l2 l3 hR
  generalize idx k p g - idx k p f = zz at *
  generalize idx k p g = zg at *
  generalize idx k p f = zf at *
  generalize decide (zz < 0) = bz at *
  generalize decide (zg < 0) = bg at *
  generalize decide (zf < 0) = bf at *
  generalize cn zz.natAbs = Lz at *
  generalize cn zg.natAbs = Lg at *
  generalize cn zf.natAbs = Lf at *
  generalize atF k p (sg jn (val js)) = Q at *
  obtain ⟨ak, an, ae, aA, ac, as1⟩ := a
  obtain ⟨bk, bn, be, bA, bc, bs1⟩ := b
  simp only at HF HX HY HI HE HS ha hb t1 hta htb n1 n2 hk1 hk2
  go_enter Tryz.func6, Tryz.ntmps6
  go_wp2_with fail
  have hF := HF.out
  have hX := HX.out
  have hY := HY.out
  have hI := HI.out
  have hE := HE.out
  have hsz := HS.out
  clear HF HX HY HI HE HS
  generalize ((((w.alloc (.cells #[.int .i64 k, .int .i64 p] 23)).alloc (.cells #[.int .i64 ak, .bool an, .int .i64 ae, .slice aA as1.length ac] 28)).alloc (.cells #[.int .i64 bk, .bool bn, .int .i64 be, .slice bA bs1.length bc] 28)).alloc (.cells #[.bool jn, .slice jA js.length jc] 56)) = W at *
  have hL := FRd.two W ⟨ak, an, ae, aA, ac, as1⟩ ⟨bk, bn, be, bA, bc, bs1⟩ (ha.ext hE) (hb.ext hE)
  have hA := (Ext.refl W).al (.cells #[.int .i64 ak, .bool an, .int .i64 ae, .slice aA as1.length ac, .int .i64 bk, .bool bn, .int .i64 be, .slice bA bs1.length bc] 28)
  rw [hsz] at hL
  clear hsz
  refine (hsh _ _ _ hL).mono ?_
  rintro z w1 ⟨rfl, rfl⟩
  have hF1 := hF.ext hA
  have hX1 := hX.ext hA
  have hY1 := hY.ext hA
  have hI1 := hI.ext hA
  have hE1 := hE.tr hA
  clear hF hX hY hI hE hA hL
  generalize W.alloc (.cells #[.int .i64 ak, .bool an, .int .i64 ae, .slice aA as1.length ac, .int .i64 bk, .bool bn, .int .i64 be, .slice bA bs1.length bc] 28) = V at *
  obtain ⟨f0, f1⟩ := hF1.facts
  obtain ⟨x0, x1, x2, x3, -⟩ := hX1.facts
  obtain ⟨y0, y1, y2, y3, -⟩ := hY1.facts
  obtain ⟨i0, i1, -⟩ := hI1.facts
  go_wp2_with fail
  refine (t1 _ (hT.ext hE1) (ha.ext hE1) (hb.ext hE1)).mono ?_
  rintro z w2 ⟨A1, c1, rfl, ho2, hb2⟩
  have hr1 := ho2.rdAt.2
  have hN2 := Bi.new w2 (.bool bz) (.slice A1 Lz.length c1)
  have hG1 := (Ext.refl w2).al (.cells #[.bool bz, .slice A1 Lz.length c1] 56)
  have hF2 := hF1.ext hb2
  have hX2 := hX1.ext hb2
  have hY2 := hY1.ext hb2
  have hI2 := hI1.ext hb2
  have hE2 := hE1.tr hb2
  clear f0 f1 x0 x1 x2 x3 y0 y1 y2 y3 i0 i1
  clear hF1 hX1 hY1 hI1 hE1
  have hlf := hF2.lt
  have hlx := hX2.lt
  have hly := hY2.lt
  have hli := hI2.lt
  obtain ⟨f0, f1⟩ := hF2.facts
  obtain ⟨x0, x1, x2, x3, -⟩ := hX2.facts
  obtain ⟨y0, y1, y2, y3, -⟩ := hY2.facts
  obtain ⟨i0, i1, -⟩ := hI2.facts
  go_wp2_with fail
  have hF3 := hF2.ext hG1
  have hX3 := hX2.ext hG1
  have hY3 := hY2.ext hG1
  have hI3 := hI2.ext hG1
  have hE3 := hE2.tr hG1
  have hr13 := hr1.ext hG1
  refine (t2 _ (hT.ext hE3) (hj.ext hE3)).mono ?_
  rintro z w4 ⟨u, rfl, ⟨v, rfl, ho4⟩, hb4⟩
  obtain ⟨A2, c2, rfl, hr2⟩ := ho4.rd
  have hP4 := Bx.new w4 (.int .i64 Q.kind) (.bool Q.neg) (.int .i64 Q.exp) (.slice A2 (cn Q.mag).length c2)
  have hG2 := (Ext.refl w4).al (.cells #[.int .i64 Q.kind, .bool Q.neg, .int .i64 Q.exp, .slice A2 (cn Q.mag).length c2] 28)
  have hF4 := hF3.ext hb4
  have hX4 := hX3.ext hb4
  have hY4 := hY3.ext hb4
  have hI4 := hI3.ext hb4
  have hE4 := hE3.tr hb4
  have hN4 := hN2.ext hb4
  have hr14 := hr13.ext hb4
  clear f0 f1 x0 x1 x2 x3 y0 y1 y2 y3 i0 i1
  clear hF2 hX2 hY2 hI2 hE2 hF3 hX3 hY3 hI3 hE3 hlf hlx hly hli
  have hlf := hF4.lt
  have hlx := hX4.lt
  have hly := hY4.lt
  have hli := hI4.lt
  have hln := hN4.lt
  obtain ⟨f0, f1⟩ := hF4.facts
  obtain ⟨x0, x1, x2, x3, -⟩ := hX4.facts
  obtain ⟨y0, y1, y2, y3, -⟩ := hY4.facts
  obtain ⟨i0, i1, -⟩ := hI4.facts
  have hF5 := hF4.ext hG2
  have hX5 := hX4.ext hG2
  have hY5 := hY4.ext hG2
  have hI5 := hI4.ext hG2
  have hE5 := hE4.tr hG2
  have hN5 := hN4.ext hG2
  have hr25 := hr2.ext hG2
  have hr15 := hr14.ext hG2
  have hL := FRd.two _ ⟨ak, an, ae, aA, ac, as1⟩ ⟨bk, bn, be, bA, bc, bs1⟩ (ha.ext hE5) (hb.ext hE5)
  have hA := (Ext.refl (w4.alloc (.cells #[.int .i64 Q.kind, .bool Q.neg, .int .i64 Q.exp, .slice A2 (cn Q.mag).length c2] 28))).al (.cells #[.int .i64 ak, .bool an, .int .i64 ae, .slice aA as1.length ac, .int .i64 bk, .bool bn, .int .i64 be, .slice bA bs1.length bc] 28)
  go_wp2_with fail
  rw [World.size_alloc] at hL
  refine (hck _ _ _ hL).mono ?_
  rintro z w6 ⟨rfl, hb6⟩
  replace hb6 := hA.tr hb6
  have hF6 := hF5.ext hb6
  have hX6 := hX5.ext hb6
  have hY6 := hY5.ext hb6
  have hI6 := hI5.ext hb6
  have hE6 := hE5.tr hb6
  have hN6 := hN5.ext hb6
  have hP6 := hP4.ext hb6
  have hr26 := hr25.ext hb6
  have hr16 := hr15.ext hb6
  clear f0 f1 x0 x1 x2 x3 y0 y1 y2 y3 i0 i1
  clear hL hA hlf hlx hly hli hln hF5 hX5 hY5 hI5 hE5 hF4 hX4 hY4 hI4 hE4 hN4 hN5 hN2 hP4 hG1 hG2 hb4 hb6 hr2 hr25 ho4 hb2 hr1 hr13 hr14 hr15 ho2
  obtain ⟨f0, f1⟩ := hF6.facts
  obtain ⟨x0, x1, x2, x3, -⟩ := hX6.facts
  obtain ⟨y0, y1, y2, y3, -⟩ := hY6.facts
  obtain ⟨i0, i1, -⟩ := hI6.facts
  obtain ⟨q0, q1, -⟩ := hN6.facts
  go_wp2_with fail
  go_region_held3 (fun w' => w'.cell? ⟨w.heap.size, 0, none⟩ = some (.int .i64 k) ∧ w'.cell? ⟨w.heap.size, 1, none⟩ = some (.int .i64 p) ∧ w'.cell? ⟨w.heap.size + 1, 0, none⟩ = some (.int .i64 ak) ∧ w'.cell? ⟨w.heap.size + 1, 1, none⟩ = some (.bool an) ∧ w'.cell? ⟨w.heap.size + 1, 2, none⟩ = some (.int .i64 ae) ∧ w'.cell? ⟨w.heap.size + 1, 3, none⟩ = some (.slice aA as1.length ac) ∧ w'.cell? ⟨w.heap.size + 1 + 1, 0, none⟩ = some (.int .i64 bk) ∧ w'.cell? ⟨w.heap.size + 1 + 1, 1, none⟩ = some (.bool bn) ∧ w'.cell? ⟨w.heap.size + 1 + 1, 2, none⟩ = some (.int .i64 be) ∧ w'.cell? ⟨w.heap.size + 1 + 1, 3, none⟩ = some (.slice bA bs1.length bc) ∧ w'.cell? ⟨w2.heap.size, 0, none⟩ = some (.bool bz) ∧ w'.cell? ⟨w2.heap.size, 1, none⟩ = some (.slice A1 Lz.length c1))
    (first | go_keep | (go_split_ands; refine ⟨?_, ?_, ?_, ?_, ?_, ?_, ?_, ?_, ?_, ?_, ?_, ?_⟩ <;> first | (with_reducible assumption) | (refine Ext.cell (w := w6) ?_ ?_ <;> (with_reducible assumption))))
    (first
      | (go_at_call 25; (with_reducible refine (hfm _).mono ?_); rintro z w10 ⟨rfl, hbq⟩; have hE10 : Ext w6 w10 := (Ext.refl w6).drew.tr hbq; )
      | (go_at_call 14; (with_reducible refine (htb _).mono ?_); rintro z w11 ⟨rfl, hbq⟩; have hE11 : Ext w6 w11 := hE10.tr hbq; )
      | (go_at_call 32; (with_reducible refine (n2 _ (hb.ext (hE6.tr hE11))).mono ?_); rintro z w12 ⟨A3, c3, rfl, ho, hbq⟩; have hE12 : Ext w6 w12 := hE11.tr hbq; have hr3 := ho.rdAt.2)
      | (go_at_call 25; (with_reducible refine (hfm _).mono ?_); rintro z w13 ⟨rfl, hbq⟩; have hE13 : Ext w6 w13 := hE12.tr hbq; have hr33 := hr3.ext hbq)
      | (go_at_call 14; (with_reducible refine (hta _).mono ?_); rintro z w14 ⟨rfl, hbq⟩; have hE14 : Ext w6 w14 := hE13.tr hbq; have hr34 := hr33.ext hbq)
      | (go_at_call 32; (with_reducible refine (n1 _ (ha.ext (hE6.tr hE14))).mono ?_); rintro z w15 ⟨A4, c4, rfl, ho, hbq⟩; have hE15 : Ext w6 w15 := hE14.tr hbq; have hr4 := ho.rdAt.2; have hr35 := hr34.ext hbq)
      | (go_at_call 31; (with_reducible refine (n3 A3 A4 c3 c4 _ hr35 hr4).mono ?_); rintro z w16 ⟨A5, c5, rfl, ho, hbq⟩; have hE16 : Ext w6 w16 := hE15.tr hbq; have hr5 := ho.rdAt.2)
      | (go_at_call 30; (with_reducible refine (n4 A1 A5 c1 c5 _ (hr16.ext hE16) hr5).mono ?_); rintro z w17 ⟨rfl, hbq⟩; have hE17 : Ext w6 w17 := hE16.tr hbq; )
      | fail)
  have hb7 := hE17
  have hF7 := hF6.ext hb7
  have hX7 := hX6.ext hb7
  have hY7 := hY6.ext hb7
  have hI7 := hI6.ext hb7
  have hE7 := hE6.tr hb7
  have hP7 := hP6.ext hb7
  have hr27 := hr26.ext hb7
  clear f0 f1 x0 x1 x2 x3 y0 y1 y2 y3 i0 i1
  clear q0 q1 hN6 hF6 hX6 hY6 hI6 hE6 hP6 hr26 hb7
  obtain ⟨f0, f1⟩ := hF7.facts
  go_wp2_with fail
  refine (hcn _).mono ?_
  rintro z w8 ⟨rfl, hb8⟩
  have hF8 := hF7.ext hb8
  have hX8 := hX7.ext hb8
  have hY8 := hY7.ext hb8
  have hI8 := hI7.ext hb8
  have hE8 := hE7.tr hb8
  have hP8 := hP7.ext hb8
  have hr28 := hr27.ext hb8
  clear f0 f1
  generalize w8 = V at *
  obtain ⟨f0, f1⟩ := hF8.facts
  obtain ⟨i0, i1, -⟩ := hI8.facts
  have hA0 := (Ext.refl V).al (.cells #[.int .i64 0, .bool false, .int .i64 0, .slice none 0 0] 40)
  have hY0' : Br (V.drew.alloc (.cells #[.int .i64 0, .bool false, .int .i64 0, .slice none 0 0] 40)) V.heap.size (.int .i64 0) (.bool false) (.int .i64 0) (.slice none 0 0) := Br.new V.drew (.int .i64 0) (.bool false) (.int .i64 0) (.slice none 0 0)
  have hY0 := Br.new V (.int .i64 0) (.bool false) (.int .i64 0) (.slice none 0 0)
  go_wp2_with fail
  go_region_held3 (fun w' => w'.cell? ⟨w.heap.size, 0, none⟩ = some (.int .i64 k) ∧ w'.cell? ⟨w.heap.size, 1, none⟩ = some (.int .i64 p) ∧ w'.cell? ⟨w.heap.size + 1 + 1 + 1, 0, none⟩ = some (.bool jn) ∧ w'.cell? ⟨w.heap.size + 1 + 1 + 1, 1, none⟩ = some (.slice jA js.length jc))
    (first | (go_split_ands; (repeat' apply And.intro) <;> first | (with_reducible assumption) | (refine Ext.cell (w := V) ?_ ?_ <;> (with_reducible assumption))) | go_keep)
    (first
      | (go_at_call 25; (with_reducible refine (hfm _).mono ?_); rintro e wa ⟨rfl, hba⟩; (have hEa : Ext V wa := (by first | with_reducible exact (Ext.refl V).drew.tr hba | with_reducible exact hA0.drew.tr hba | with_reducible exact ((Ext.refl V).drew.al _).tr hba)); (try have hYa : Br wa V.heap.size (.int .i64 0) (.bool false) (.int .i64 0) (.slice none 0 0) := (by first | with_reducible exact hY0.drew'.ext hba | with_reducible exact hY0'.ext hba)))
      | (go_at_call 33; (with_reducible refine (m2 _ ?hr).mono ?_); (case hr => first | with_reducible exact hj.ext (hE8.tr hEa) | with_reducible exact hj.ext ((hE8.tr hEa).al _)); rintro e wb ⟨u, rfl, ⟨v, rfl, ho6⟩, hbb⟩; obtain ⟨A6, c6, rfl, hr6⟩ := ho6.rd; (have hbb' : Ext wa wb := (by first | with_reducible exact hbb | with_reducible exact ((Ext.refl wa).al _).tr hbb)); have hEb : Ext V wb := hEa.tr hbb'; (try have hla := hYa.lt); (try (with_reducible replace hYa := hYa.ext hbb)); (try have hYb : Br wb wa.heap.size (.int .i64 0) (.bool false) (.int .i64 0) (.slice none 0 0) := (by with_reducible exact (Br.new wa (.int .i64 0) (.bool false) (.int .i64 0) (.slice none 0 0)).ext hbb)); (try obtain ⟨y0, y1, y2, y3, yf⟩ := hYa.facts); (try obtain ⟨y0, y1, y2, y3, yf⟩ := hYb.facts); have hE7a := hEb.al (.cells #[.int .i64 Q.kind, .bool Q.neg, .int .i64 Q.exp, .slice A6 (cn Q.mag).length c6] 40); have hE7b := hEb.put (g := V.heap.size) (Nat.le_refl _) (.int .i64 Q.kind) (.bool Q.neg) (.int .i64 Q.exp) (.slice A6 (cn Q.mag).length c6); have hE7c := hEb.put (g := wa.heap.size) hEa.size (.int .i64 Q.kind) (.bool Q.neg) (.int .i64 Q.exp) (.slice A6 (cn Q.mag).length c6))
      | fail)
  · have hEU0 := hE7a
    have hU := Br.new wb (.int .i64 Q.kind) (.bool Q.neg) (.int .i64 Q.exp) (.slice A6 (cn Q.mag).length c6)
    have hrU := hr6.ext ((Ext.refl wb).al (.cells #[.int .i64 Q.kind, .bool Q.neg, .int .i64 Q.exp, .slice A6 (cn Q.mag).length c6] 40))
    generalize (wb.alloc (.cells #[.int .i64 Q.kind, .bool Q.neg, .int .i64 Q.exp, .slice A6 (cn Q.mag).length c6] 40)) = U at hEU0 hU hrU ⊢
    have hEU := hE8.tr hEU0
    have hPU := hP8.ext hEU0
    have hr2U := hr28.ext hEU0
    obtain ⟨p0, p1, p2, p3, -⟩ := hPU.facts
    obtain ⟨u0, u1, u2, u3, -⟩ := hU.facts
    go_wp2_with fail
    refine (iz A2 A6 c2 c6 _ hr2U hrU).mono ?_
    rintro z w20 ⟨rfl, hb20⟩
    have hE20 := hEU.tr hb20
    clear p0 p1 p2 p3 u0 u1 u2 u3
    go_wp2_with fail
    refine (awake21_c _ (hT.ext hE20)).mono ?_
    rintro z w99 ⟨rfl, hb99⟩
    go_wp2
    go_ret
    exact ⟨rfl, hE20.tr hb99⟩
  · have hEU0 := hE7c
    have ho6 := ho6.low (b := wa.heap.size + 1) (by simp)
    have hU := hYb.put (.int .i64 Q.kind) (.bool Q.neg) (.int .i64 Q.exp) (.slice A6 (cn Q.mag).length c6)
    have hrU := (ho6.putBelow (g := wa.heap.size) (Nat.lt_succ_self _) (.int .i64 Q.kind) (.bool Q.neg) (.int .i64 Q.exp) (.slice A6 (cn Q.mag).length c6)).rdAt.2
    generalize ((((wb.setCell ⟨wa.heap.size, 0, none⟩ (.int .i64 Q.kind)).setCell ⟨wa.heap.size, 1, none⟩ (.bool Q.neg)).setCell ⟨wa.heap.size, 2, none⟩ (.int .i64 Q.exp)).setCell ⟨wa.heap.size, 3, none⟩ (.slice A6 (cn Q.mag).length c6)) = U at hEU0 hU hrU ⊢
    have hEU := hE8.tr hEU0
    have hPU := hP8.ext hEU0
    have hr2U := hr28.ext hEU0
    obtain ⟨p0, p1, p2, p3, -⟩ := hPU.facts
    obtain ⟨u0, u1, u2, u3, -⟩ := hU.facts
    go_wp2_with fail
    refine (iz A2 A6 c2 c6 _ hr2U hrU).mono ?_
    rintro z w20 ⟨rfl, hb20⟩
    have hE20 := hEU.tr hb20
    clear p0 p1 p2 p3 u0 u1 u2 u3
    go_wp2_with fail
    refine (awake21_c _ (hT.ext hE20)).mono ?_
    rintro z w99 ⟨rfl, hb99⟩
    go_wp2
    go_ret
    exact ⟨rfl, hE20.tr hb99⟩
  · have hEU0 := hE7b
    have hU := hYa.put (.int .i64 Q.kind) (.bool Q.neg) (.int .i64 Q.exp) (.slice A6 (cn Q.mag).length c6)
    have hrU := (ho6.putBelow (g := V.heap.size) hla (.int .i64 Q.kind) (.bool Q.neg) (.int .i64 Q.exp) (.slice A6 (cn Q.mag).length c6)).rdAt.2
    generalize ((((wb.setCell ⟨V.heap.size, 0, none⟩ (.int .i64 Q.kind)).setCell ⟨V.heap.size, 1, none⟩ (.bool Q.neg)).setCell ⟨V.heap.size, 2, none⟩ (.int .i64 Q.exp)).setCell ⟨V.heap.size, 3, none⟩ (.slice A6 (cn Q.mag).length c6)) = U at hEU0 hU hrU ⊢
    have hEU := hE8.tr hEU0
    have hPU := hP8.ext hEU0
    have hr2U := hr28.ext hEU0
    obtain ⟨p0, p1, p2, p3, -⟩ := hPU.facts
    obtain ⟨u0, u1, u2, u3, -⟩ := hU.facts
    go_wp2_with fail
    refine (iz A2 A6 c2 c6 _ hr2U hrU).mono ?_
    rintro z w20 ⟨rfl, hb20⟩
    have hE20 := hEU.tr hb20
    clear p0 p1 p2 p3 u0 u1 u2 u3
    go_wp2_with fail
    refine (awake21_c _ (hT.ext hE20)).mono ?_
    rintro z w99 ⟨rfl, hb99⟩
    go_wp2
    go_ret
    exact ⟨rfl, hE20.tr hb99⟩
theorem orderSteps_c (k p : Int) (a b : FA) (jn : Bool) (jA : Option Addr) (jc : Nat) (js : List Nat) (w : World) (hT : Tab w) (ha : Rd w a.A a.c a.xs) (hb : Rd w b.A b.c b.xs) (hj : Rd w jA jc js) :
    Calls Tryz.prog 6 #[.agg #[.int .i64 k, .int .i64 p], a.v, b.v, intV jn jA js.length jc] w fun e w' => e = .returned (.bool true) ∧ Ext w w' := by
  by_cases hs : [a, b].all (fun a => decide (a.xs.length ≤ 40)) = true ∧ js.length ≤ 40
  · obtain ⟨hs, hjl⟩ := hs
    by_cases hc : chkS k p [a, b] = 0
    · have hR := (chk_good hc).1
      by_cases hk : a.k = 3 ∨ b.k = 3
      · by_cases hm : val js ≤ infN k p
        · exact orderSteps_23 k p a b jn jA jc js w hT ha hb hj hs hjl hc hk hR hm
        · exact orderSteps_22 k p a b jn jA jc js w hT ha hb hj hs hjl hc hk hR (by omega)
      · by_cases hm : val js ≤ infN k p
        · exact orderSteps_33 k p a b jn jA jc js w hT ha hb hj hs hjl hc hk hR hm
        · exact orderSteps_32 k p a b jn jA jc js w hT ha hb hj hs hjl hc hk hR (by omega)
    · by_cases hR : Rgt k p
      · by_cases hm : val js ≤ infN k p
        · exact orderSteps_13 k p a b jn jA jc js w hT ha hb hj hs hjl hc hR hm
        · exact orderSteps_12 k p a b jn jA jc js w hT ha hb hj hs hjl hc hR (by omega)
      · exact orderSteps_11 k p a b jn jA jc js w hT ha hb hj hs hjl hc hR
  · exact orderSteps_long k p a b jn jA jc js w hT ha hb hj hs
end Go.Proofs.YtcdgkhmiolhfdaaGreatDoor
