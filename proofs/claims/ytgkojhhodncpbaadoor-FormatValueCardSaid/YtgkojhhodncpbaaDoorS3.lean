/- package format: Canonical; the reference's and the laws' Is. -/
import Derived.Test.YtgkojhhodncpbaaDoorS2
import Derived.Test.YtgkojhhodncpbaaDoorF9
set_option linter.unusedVariables false
set_option linter.unusedSimpArgs false
namespace Go.Proofs.YtgkojhhodncpbaaDoor
open Go.RowKit

/-- The error of Canonical, and the float. -/
def capE (a : FA) : Int := if 4096 < a.xs.length then 2 else if a.can.isSome then 0 else 151
def capF (a : FA) : Fl := if 4096 < a.xs.length then ⟨0, false, 0, 0⟩ else a.can.getD ⟨0, false, 0, 0⟩
set_option maxHeartbeats 1000000 in
set_option maxRecDepth 100000 in
theorem ccanon_c (k e : Int) (neg : Bool) (A : Option Addr) (c : Nat) (xs : List Nat) (w : World) (hT : Tab w) (h : Rd w A c xs) (hl : xs.length ≤ 10000000) :
    Calls Tryd.prog 37 #[flV k neg e (.slice A xs.length c)] w (FErr w (capE ⟨k, neg, e, A, c, xs⟩) (capF ⟨k, neg, e, A, c, xs⟩)) := by
  have hX := Bx.new w (.int .i64 k) (.bool neg) (.int .i64 e) (.slice A xs.length c)
  have hA := (Ext.refl w).al (.cells #[.int .i64 k, .bool neg, .int .i64 e, .slice A xs.length c] 36)
  have hA2 := hA.al (.cells #[.int .i64 0, .bool false, .int .i64 0, .slice none 0 0] 36)
  have hX2 := hX.ext ((Ext.refl _).al (.cells #[.int .i64 0, .bool false, .int .i64 0, .slice none 0 0] 36))
  have hY2 := Bx.new (w.alloc (.cells #[.int .i64 k, .bool neg, .int .i64 e, .slice A xs.length c] 36)) (.int .i64 0) (.bool false) (.int .i64 0) (.slice none 0 0)
  rw [World.size_alloc] at hY2
  have hlg := fun w => large_c k e neg A xs.length c w
  have hcn := fun w hT h => canonical_c k neg e A c xs w hT h hl
  have hs1 : (w.alloc (.cells #[.int .i64 k, .bool neg, .int .i64 e, .slice A xs.length c] 36)).heap.size = w.heap.size + 1 := World.size_alloc _ _
  clear hX hA
  by_cases hbig : 4096 < xs.length
  · have h1 : capE ⟨k, neg, e, A, c, xs⟩ = 2 := if_pos hbig
    have h2 : capF ⟨k, neg, e, A, c, xs⟩ = ⟨0, false, 0, 0⟩ := if_pos hbig
    rw [h1, h2]
    rw [show decide (4096 < xs.length) = true by simpa using hbig] at hlg
    clear h1 h2 hbig hcn
    go_enter Tryd.func37, Tryd.ntmps37
    go_wp2_with fail
    refine (hlg _).mono ?_
    rintro z w1 ⟨rfl, hb1⟩
    have hY := hY2.ext hb1
    obtain ⟨y0, y1, y2, y3, yf⟩ := hY.facts
    have hly := hY.lt
    go_wp2
    obtain ⟨q0, q1, q2, q3, -⟩ := (hY.put (.int .i64 0) (.bool false) (.int .i64 0) (.slice none 0 0)).facts
    refine bodyPost_ret (v := .tuple #[flV 0 false 0 (.slice none 0 0), .int .i64 2]) (by simp [results, Tryd.results37, go_sem, q0, q1, q2, q3]) rfl ?_
    exact FErr.bad ((hA2.tr hb1).put (by omega) _ _ _ _)
  · rw [show decide (4096 < xs.length) = false by simpa using hbig] at hlg
    have h1 : capE ⟨k, neg, e, A, c, xs⟩ = if (canon k neg e (val xs)).isSome then 0 else 151 := if_neg hbig
    have h2 : capF ⟨k, neg, e, A, c, xs⟩ = (canon k neg e (val xs)).getD ⟨0, false, 0, 0⟩ := if_neg hbig
    rw [h1, h2]
    clear h1 h2 hbig
    generalize canon k neg e (val xs) = o at *
    cases o with
    | none =>
      simp only [Option.isSome, Option.getD, Bool.false_eq_true, if_false]
      go_enter Tryd.func37, Tryd.ntmps37
      go_wp2_with fail
      refine (hlg _).mono ?_
      rintro z w1 ⟨rfl, hb1⟩
      obtain ⟨x0, x1, x2, x3, -⟩ := (hX2.ext hb1).facts
      go_wp2_with fail
      have hE1 := hA2.tr hb1
      refine (hcn _ (hT.ext hE1) (h.ext hE1)).mono ?_
      rintro z w2 ⟨u, rfl, hb2, -, k1, n1, e1, A1, l1, c1, rfl⟩
      simp only [Option.isSome]
      have hY := (hY2.ext hb1).ext hb2
      obtain ⟨y0, y1, y2, y3, yf⟩ := hY.facts
      have hly := hY.lt
      clear x0 x1 x2 x3
      go_wp2
      have hE3 := ((hE1.tr hb2).put (g := w.heap.size + 1) (by omega) (.int .i64 0) (.bool false) (.int .i64 0) (.slice none 0 0)).al (.cells #[.int .i64 k1, .bool n1, .int .i64 e1, .slice A1 l1 c1] 36)
      have hY3 := (hY.put (.int .i64 0) (.bool false) (.int .i64 0) (.slice none 0 0)).ext ((Ext.refl _).al (.cells #[.int .i64 k1, .bool n1, .int .i64 e1, .slice A1 l1 c1] 36))
      obtain ⟨q0, q1, q2, q3, -⟩ := hY3.facts
      refine bodyPost_ret (v := .tuple #[flV 0 false 0 (.slice none 0 0), .int .i64 151]) (by simp [results, Tryd.results37, go_sem, q0, q1, q2, q3]) rfl ?_
      exact FErr.bad hE3
    | some f =>
      simp only [Option.isSome, Option.getD, if_true]
      go_enter Tryd.func37, Tryd.ntmps37
      go_wp2_with fail
      refine (hlg _).mono ?_
      rintro z w1 ⟨rfl, hb1⟩
      obtain ⟨x0, x1, x2, x3, -⟩ := (hX2.ext hb1).facts
      go_wp2_with fail
      have hE1 := hA2.tr hb1
      refine (hcn _ (hT.ext hE1) (h.ext hE1)).mono ?_
      rintro z w2 ⟨u, rfl, hb2, hfr, -⟩
      obtain ⟨v, rfl, hou⟩ := hfr f rfl
      obtain ⟨A1, c1, rfl, -⟩ := hou.rd
      simp only [Option.isSome]
      have hY := (hY2.ext hb1).ext hb2
      obtain ⟨y0, y1, y2, y3, yf⟩ := hY.facts
      have hly := hY.lt
      clear x0 x1 x2 x3
      go_wp2
      have hE3 := ((hE1.tr hb2).put (g := w.heap.size + 1) (by omega) (.int .i64 f.kind) (.bool f.neg) (.int .i64 f.exp) (.slice A1 (cn f.mag).length c1)).al (.cells #[.int .i64 f.kind, .bool f.neg, .int .i64 f.exp, .slice A1 (cn f.mag).length c1] 36)
      have hY3 := (hY.put (.int .i64 f.kind) (.bool f.neg) (.int .i64 f.exp) (.slice A1 (cn f.mag).length c1)).ext ((Ext.refl _).al (.cells #[.int .i64 f.kind, .bool f.neg, .int .i64 f.exp, .slice A1 (cn f.mag).length c1] 36))
      obtain ⟨q0, q1, q2, q3, -⟩ := hY3.facts
      refine bodyPost_ret (v := .tuple #[flV f.kind f.neg f.exp (.slice A1 (cn f.mag).length c1), .int .i64 0]) (by simp [results, Tryd.results37, go_sem, q0, q1, q2, q3]) rfl ?_
      have hsz := hE1.size
      have hbase : w.heap.size + 1 < w1.heap.size := (hY2.ext hb1).lt
      refine ⟨_, rfl, ⟨_, rfl, ?_⟩, hE3⟩
      exact ((hou.putBelow (g := w.heap.size + 1) hbase _ _ _ _).ext ((Ext.refl _).al _)).low hsz
set_option maxHeartbeats 1000000 in
set_option maxRecDepth 100000 in
theorem ris15_c (k k' e e' : Int) (neg neg' : Bool) (A A' : Option Addr) (c c' : Nat) (xs ys : List Nat) (w : World) (h : Rd w A c xs) (h' : Rd w A' c' ys) (hl : ys.length ≤ 4096) (f : Fl) (hf : canon k' neg' e' (val ys) = some f) :
    Calls Tryd.prog 55 #[flV k neg e (.slice A xs.length c), flV k' neg' e' (.slice A' ys.length c')] w fun z w' => z = .returned (.bool (decide (k = f.kind ∧ neg = f.neg ∧ e = f.exp ∧ xs = cn f.mag))) ∧ Ext w w' := by
  have hX := Br.new w (.int .i64 k) (.bool neg) (.int .i64 e) (.slice A xs.length c)
  have hA := (Ext.refl w).al (.cells #[.int .i64 k, .bool neg, .int .i64 e, .slice A xs.length c] 45)
  have hA2 := hA.al (.cells #[.int .i64 k', .bool neg', .int .i64 e', .slice A' ys.length c'] 45)
  have hX2 := hX.ext ((Ext.refl _).al (.cells #[.int .i64 k', .bool neg', .int .i64 e', .slice A' ys.length c'] 45))
  have hY2 := Br.new (w.alloc (.cells #[.int .i64 k, .bool neg, .int .i64 e, .slice A xs.length c] 45)) (.int .i64 k') (.bool neg') (.int .i64 e') (.slice A' ys.length c')
  rw [World.size_alloc] at hY2
  have hcn := fun w h => rcanonical_c k' e' neg' A' c' ys w h hl f hf
  have heq := fun A2 c2 w h h2 => requal_c k f.kind e f.exp neg f.neg A A2 c c2 xs (cn f.mag) w h h2
  have HX := Lib.hid hX2
  have HY := Lib.hid hY2
  have HA := Lib.hid hA2
  generalize decide (k = f.kind ∧ neg = f.neg ∧ e = f.exp ∧ xs = cn f.mag) = b at *
  clear hX hA hA2 hX2 hY2 hf
  go_enter Tryd.func55, Tryd.ntmps55
  go_wp2_with fail
  have hX := HX.out
  have hY := HY.out
  have hA := HA.out
  clear HX HY HA
  generalize ((w.alloc (.cells #[.int .i64 k, .bool neg, .int .i64 e, .slice A xs.length c] 45)).alloc (.cells #[.int .i64 k', .bool neg', .int .i64 e', .slice A' ys.length c'] 45)) = W at *
  obtain ⟨x0, x1, x2, x3, -⟩ := hX.facts
  obtain ⟨y0, y1, y2, y3, -⟩ := hY.facts
  go_region_held3 (fun w' => w'.cell? ⟨w.heap.size, 0, none⟩ = some (.int .i64 k) ∧ w'.cell? ⟨w.heap.size, 1, none⟩ = some (.bool neg) ∧ w'.cell? ⟨w.heap.size, 2, none⟩ = some (.int .i64 e) ∧ w'.cell? ⟨w.heap.size, 3, none⟩ = some (.slice A xs.length c) ∧
      w'.cell? ⟨w.heap.size + 1, 0, none⟩ = some (.int .i64 k') ∧ w'.cell? ⟨w.heap.size + 1, 1, none⟩ = some (.bool neg') ∧ w'.cell? ⟨w.heap.size + 1, 2, none⟩ = some (.int .i64 e') ∧ w'.cell? ⟨w.heap.size + 1, 3, none⟩ = some (.slice A' ys.length c'))
    (first | go_keep | (go_split_ands; refine ⟨?_, ?_, ?_, ?_, ?_, ?_, ?_, ?_⟩ <;> (refine Ext.cell (w := W) (by assumption) ?_; assumption)))
    (first
      | (go_at_call 84; (with_reducible refine (hcn _ ((h'.ext hA).drew)).mono ?_); rintro z w2 ⟨u, rfl, ⟨v, rfl, ho⟩, hb⟩; have hE2 : Ext W w2 := (Ext.refl W).drew.tr hb; obtain ⟨A2, c2, rfl, hr2⟩ := ho.rd)
      | (go_at_call 39; (with_reducible refine (heq A2 c2 _ ((h.ext hA).ext hE2) hr2).mono ?_); rintro z w3 ⟨rfl, hb3⟩; have hE3 : Ext W w3 := hE2.tr hb3))
  go_wp2
  go_ret
  exact ⟨rfl, hA.tr hE3⟩
set_option maxHeartbeats 1000000 in
set_option maxRecDepth 100000 in
theorem lis_c (k k' e e' : Int) (neg neg' : Bool) (A A' : Option Addr) (c c' : Nat) (xs ys : List Nat) (w : World) (h : Rd w A c xs) (h' : Rd w A' c' ys) (hl : ys.length ≤ 4096) (f : Fl) (hf : canon k' neg' e' (val ys) = some f) :
    Calls Tryd.prog 22 #[flV k neg e (.slice A xs.length c), flV k' neg' e' (.slice A' ys.length c')] w fun z w' => z = .returned (.bool (decide (k = f.kind ∧ neg = f.neg ∧ e = f.exp ∧ xs = cn f.mag))) ∧ Ext w w' := by
  have hX := Bx.new w (.int .i64 k) (.bool neg) (.int .i64 e) (.slice A xs.length c)
  have hA := (Ext.refl w).al (.cells #[.int .i64 k, .bool neg, .int .i64 e, .slice A xs.length c] 36)
  have hA2 := hA.al (.cells #[.int .i64 k', .bool neg', .int .i64 e', .slice A' ys.length c'] 45)
  have hX2 := hX.ext ((Ext.refl _).al (.cells #[.int .i64 k', .bool neg', .int .i64 e', .slice A' ys.length c'] 45))
  have hY2 := Br.new (w.alloc (.cells #[.int .i64 k, .bool neg, .int .i64 e, .slice A xs.length c] 36)) (.int .i64 k') (.bool neg') (.int .i64 e') (.slice A' ys.length c')
  rw [World.size_alloc] at hY2
  have hth := fun w => their_c k e neg A xs.length c w
  have heq := fun w h h2 => ris15_c k k' e e' neg neg' A A' c c' xs ys w h h2 hl f hf
  have HX := Lib.hid hX2
  have HY := Lib.hid hY2
  have HA := Lib.hid hA2
  generalize decide (k = f.kind ∧ neg = f.neg ∧ e = f.exp ∧ xs = cn f.mag) = b at *
  clear hX hA hA2 hX2 hY2 hf
  go_enter Tryd.func22, Tryd.ntmps22
  go_wp2_with fail
  have hX := HX.out
  have hY := HY.out
  have hA := HA.out
  clear HX HY HA
  generalize ((w.alloc (.cells #[.int .i64 k, .bool neg, .int .i64 e, .slice A xs.length c] 36)).alloc (.cells #[.int .i64 k', .bool neg', .int .i64 e', .slice A' ys.length c'] 45)) = W at *
  obtain ⟨x0, x1, x2, x3, -⟩ := hX.facts
  obtain ⟨y0, y1, y2, y3, -⟩ := hY.facts
  go_region_held3 (fun w' => w'.cell? ⟨w.heap.size, 0, none⟩ = some (.int .i64 k) ∧ w'.cell? ⟨w.heap.size, 1, none⟩ = some (.bool neg) ∧ w'.cell? ⟨w.heap.size, 2, none⟩ = some (.int .i64 e) ∧ w'.cell? ⟨w.heap.size, 3, none⟩ = some (.slice A xs.length c) ∧
      w'.cell? ⟨w.heap.size + 1, 0, none⟩ = some (.int .i64 k') ∧ w'.cell? ⟨w.heap.size + 1, 1, none⟩ = some (.bool neg') ∧ w'.cell? ⟨w.heap.size + 1, 2, none⟩ = some (.int .i64 e') ∧ w'.cell? ⟨w.heap.size + 1, 3, none⟩ = some (.slice A' ys.length c'))
    (first | go_keep | (go_split_ands; refine ⟨?_, ?_, ?_, ?_, ?_, ?_, ?_, ?_⟩ <;> (refine Ext.cell (w := W) (by assumption) ?_; assumption)))
    (first
      | (go_at_call 29; (with_reducible refine (hth _).mono ?_); rintro z w2 ⟨rfl, hb⟩; have hE2 : Ext W w2 := (Ext.refl W).drew.tr hb)
      | (go_at_call 55; (with_reducible refine (heq _ ((h.ext hA).ext hE2) ((h'.ext hA).ext hE2)).mono ?_); rintro z w3 ⟨rfl, hb3⟩; have hE3 : Ext W w3 := hE2.tr hb3))
  go_wp2
  go_ret
  exact ⟨rfl, hA.tr hE3⟩
end Go.Proofs.YtgkojhhodncpbaaDoor
