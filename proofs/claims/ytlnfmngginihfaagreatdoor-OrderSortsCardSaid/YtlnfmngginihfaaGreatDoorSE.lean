/- A row of floats that is sorted: its elements in memory, what a load, an exchange and a call beside them do. slices.swapRangeCmpFunc, slices.rotateCmpFunc on a row of floats. The comparison that order.Sort hands over; slices.insertionSortCmpFunc on a row of floats. -/
import Derived.Test.YtlnfmngginihfaaGreatDoorSB
import Derived.Test.YtlnfmngginihfaaGreatDoorOA
import Derived.Shelf.SlSortCmp.KitK
import Derived.BigRegion
import Derived.Test.YtlnfmngginihfaaGreatDoorTG
import Derived.Test.YtlnfmngginihfaaGreatDoorB0
set_option linter.unusedVariables false
set_option linter.unusedSimpArgs false
namespace Go.Proofs.YtlnfmngginihfaaGreatDoor
open Go.RowKit Go.Sort

/-- An element: a float, and where its words are. -/
structure El where
  f : Fl
  A : Option Addr
  c : Nat
instance el_some : Inhabited El := ⟨⟨⟨0, false, 0, 0⟩, none, 0⟩⟩
def encE (u : El) : List Value := [.int .i64 u.f.kind, .bool u.f.neg, .int .i64 u.f.exp, .slice u.A (cn u.f.mag).length u.c]
def El.v (u : El) : Value := .agg (encE u).toArray
theorem encE_len (u : El) : (encE u).length = 4 := rfl
theorem encE_one (u : El) : ∀ v ∈ encE u, v.oneCell' = true := by
  intro v hv
  simp only [encE, List.mem_cons, List.not_mem_nil, or_false] at hv
  rcases hv with rfl | rfl | rfl | rfl <;> rfl
abbrev Gw (g : Nat) (w w' : World) : Prop := w.grownBy w' (some g)
section
variable {g : Nat} {w w1 w2 : World}
theorem Gw.refl (g : Nat) (w : World) : Gw g w w := World.grownBy.refl w _
theorem Gw.tr (h : Gw g w w1) (k : Gw g w1 w2) : Gw g w w2 :=
  ⟨k.os.trans h.os, k.tape.trans h.tape, k.output.trans h.output, Nat.le_trans h.size k.size, fun i hi hn => (k.block i (Nat.lt_of_lt_of_le hi h.size) hn).trans (h.block i hi hn)⟩
theorem Gw.of_ext (h : Ext w w1) (g : Nat) : Gw g w w1 := ⟨h.os, h.tape, h.output, h.size, fun i hi _ => h.block i hi⟩
theorem Gw.drew (h : Gw g w w1) : Gw g w w1.drew := ⟨h.os, h.tape, h.output, h.size, h.block⟩
theorem Gw.set (h : Gw g w w1) (i : Nat) (u : Value) : Gw g w (w1.setCell ⟨g, i, none⟩ u) :=
  ⟨h.os, h.tape, h.output, by have := h.size; simpa using this, fun k hk hn => by
    rw [Below.heap_setCell _ _ _ _ (fun e => hn (by rw [e]))]
    exact h.block k hk hn⟩
theorem Gw.sets : ∀ (vs : List Value) {w1 : World} (h : Gw g w w1) (i : Nat), Gw g w (w1.setCells g i vs)
  | [], _, h, _ => h
  | v :: r, _, h, i => by
    rw [World.setCells]
    exact Gw.sets r (h.set i v) (i + 1)
theorem Gw.far (h : Gw g w w1) {a : Addr} {u : Value} (hc : w.cell? a = some u) (hn : a.block ≠ g) : w1.cell? a = some u := h.cell hc (fun e => hn (Option.some.inj e))
end
/-- A world of the sort's: the row holds d, all else that was there is as it was. -/
structure Sk (w0 : World) (g : Nat) (d : Array El) (w : World) : Prop where
  holds : HoldsK encE 4 w g 0 d
  gw : Gw g w0 w
section
variable {w0 w w' : World} {g : Nat} {d : Array El}
theorem holds_ext {enc : Value → Value} {F : Array Value} (h : Holds enc w g 0 F) (hE : Ext w w') : Holds enc w' g 0 F := by
  intro j hj
  obtain ⟨h1, h2⟩ := h j hj
  have hb := hE.block _ (World.block_lt_of_cell? w _ h1)
  exact ⟨(World.cell?_of_block hb).trans h1, (World.frozen?_of_block hb).trans h2⟩
theorem Sk.ext (h : Sk w0 g d w) (hE : Ext w w') : Sk w0 g d w' := ⟨holds_ext h.holds hE, h.gw.tr (Gw.of_ext hE g)⟩
theorem Sk.drew (h : Sk w0 g d w) : Sk w0 g d w.drew := h.ext (Ext.refl w).drew
theorem Sk.ld (h : Sk w0 g d w) (P : Program) (i : Nat) (hi : i < d.size) : Sem.run P (loadCellsFrom ⟨g, i * 4, none⟩ 0 4 #[]) w = .ok (encE d[i]!).toArray w := by
  have q := run_loadCellsFrom_list P _ _ _ 4 (encE_len _) (HoldsK.cells h.holds encE_len hi)
  rwa [Nat.zero_add] at q
theorem Sk.cells (h : Sk w0 g d w) (i : Nat) (hi : i < d.size) : w.cell? ⟨g, i * 4, none⟩ = some (.int .i64 d[i]!.f.kind) ∧ w.cell? ⟨g, i * 4 + 1, none⟩ = some (.bool d[i]!.f.neg) ∧ w.cell? ⟨g, i * 4 + 2, none⟩ = some (.int .i64 d[i]!.f.exp) ∧
    w.cell? ⟨g, i * 4 + 3, none⟩ = some (.slice d[i]!.A (cn d[i]!.f.mag).length d[i]!.c) := by
  have q := fun c hc => (HoldsK.cell h.holds hi (c := c) hc).1
  have q0 := q 0 (by omega)
  have q1 := q 1 (by omega)
  have q2 := q 2 (by omega)
  have q3 := q 3 (by omega)
  rw [Nat.zero_add] at q0 q1 q2 q3
  rw [Nat.add_zero] at q0
  exact ⟨q0, q1, q2, q3⟩
theorem Sk.frozen (h : Sk w0 g d w) (i : Nat) (hi : i < d.size) : w.frozen? ⟨g, i * 4, none⟩ = false ∧ w.frozen? ⟨g, i * 4 + 1, none⟩ = false ∧ w.frozen? ⟨g, i * 4 + 2, none⟩ = false ∧ w.frozen? ⟨g, i * 4 + 3, none⟩ = false := by
  have q := fun c hc => (HoldsK.cell h.holds hi (c := c) hc).2
  have q0 := q 0 (by omega)
  have q1 := q 1 (by omega)
  have q2 := q 2 (by omega)
  have q3 := q 3 (by omega)
  rw [Nat.zero_add] at q0 q1 q2 q3
  rw [Nat.add_zero] at q0
  exact ⟨q0, q1, q2, q3⟩
theorem Sk.st1 (h : Sk w0 g d w) (P : Program) (i : Nat) (hi : i < d.size) (y : El) :
    Sem.run P (storeCells ⟨g, i * 4, none⟩ (encE y) 0) w = .ok () (w.setCells g (i * 4) (encE y)) := by
  have q := stores_of_holds P h.holds (i * 4) (encE y) (by rw [encE_len, size_flatK]; exact rowK_bnd d 4 i hi) (encE_one _)
  rwa [Nat.zero_add] at q
theorem Sk.st2 (h : Sk w0 g d w) (P : Program) (i j : Nat) (hi : i < d.size) (hj : j < d.size) (y x : El) :
    Sem.run P (storeCells ⟨g, j * 4, none⟩ (encE x) 0) (w.setCells g (i * 4) (encE y)) = .ok () ((w.setCells g (i * 4) (encE y)).setCells g (j * 4) (encE x)) := by
  have q := stores_of_holds P (holds_setCells_c h.holds (i * 4) (encE y) (by rw [encE_len, size_flatK]; exact rowK_bnd d 4 i hi)) (j * 4) (encE x) (by rw [encE_len, size_setMany, size_flatK]; exact rowK_bnd d 4 j hj) (encE_one _)
  rwa [Nat.zero_add, Nat.zero_add] at q
theorem Sk.swp (h : Sk w0 g d w) (i j : Nat) (hi : i < d.size) (hj : j < d.size) : Sk w0 g (swp d i j) ((w.setCells g (i * 4) (encE d[j]!)).setCells g (j * 4) (encE d[i]!)) := by
  refine ⟨?_, Gw.sets _ (Gw.sets _ h.gw _) _⟩
  have e := putRowK_swp encE 4 encE_len w g 0 d i j hi hj
  rw [putRowK_self encE 4 w g 0 d h.holds, Nat.zero_add, Nat.zero_add] at e
  rw [e]
  exact holdsK_putRowK encE 4 w g 0 d _ h.holds (by rw [swp_size])
theorem Sk.swp8 (h : Sk w0 g d w) (i j : Nat) (hi : i < d.size) (hj : j < d.size) : Sk w0 g (Go.Sort.swp d i j) ((((((((w.setCell ⟨g, i * 4, none⟩ (.int .i64 d[j]!.f.kind)).setCell ⟨g, i * 4 + 1, none⟩ (.bool d[j]!.f.neg)).setCell ⟨g, i * 4 + 2, none⟩ (.int .i64 d[j]!.f.exp)).setCell ⟨g, i * 4 + 3, none⟩ (.slice d[j]!.A (cn d[j]!.f.mag).length d[j]!.c)).setCell
    ⟨g, j * 4, none⟩ (.int .i64 d[i]!.f.kind)).setCell ⟨g, j * 4 + 1, none⟩ (.bool d[i]!.f.neg)).setCell ⟨g, j * 4 + 2, none⟩ (.int .i64 d[i]!.f.exp)).setCell ⟨g, j * 4 + 3, none⟩ (.slice d[i]!.A (cn d[i]!.f.mag).length d[i]!.c)).drew := (h.swp i j hi hj).drew
end
end Go.Proofs.YtlnfmngginihfaaGreatDoor
namespace Go.Proofs.YtlnfmngginihfaaGreatDoor
open Go.RowKit Go.Sort

set_option maxHeartbeats 4000000 in
set_option maxRecDepth 100000 in
theorem swapRange_c (w0 : World) (g cap N : Nat) (fv : Value) (d : Array El) (x y n lo hi : Nat) (hN : d.size = N) (hN2 : N ≤ 1000000) (hd : x + n ≤ y ∨ y + n ≤ x) (hlx : lo ≤ x) (hly : lo ≤ y) (hxh : x + n ≤ hi) (hyh : y + n ≤ hi) (hh : hi ≤ N) (w : World) (h : Sk w0 g d w) :
    Calls Tryz.prog 102 #[.slice (some ⟨g, 0, none⟩) N cap, .int .i64 (x : Int), .int .i64 (y : Int), .int .i64 (n : Int), fv] w fun e w' => e = .returned (.tuple #[]) ∧ ∃ d', Swr x y n d d' ∧ PermIn lo hi d d' ∧ Sk w0 g d' w' := by
  go_enter Tryz.func102, Tryz.ntmps102
  go_wp2_with fail
  go_loopw [10] (fun v10 wr => ∃ (t : Nat) (d' : Array El), t ≤ n ∧ v10 = .int .i64 (t : Int) ∧ Swr x y t d d' ∧ PermIn lo hi d d' ∧ Sk w0 g d' wr) (fun v _ => n - (intOf v).toNat)
  case atStart => exact ⟨0, d, Nat.zero_le _, rfl, Swr.zero _ _ _, perm_refl _ _ _, h⟩
  case round =>
    obtain ⟨t, d', ht, rfl, hs, hp, hk⟩ := hrel
    have hz := hp.1
    by_cases hlt : t < n
    · have hxs : x + t < d'.size := by omega
      have hys : y + t < d'.size := by omega
      have hst := hs.step (by omega) hxs hys
      have hpt := perm_trans hp (perm_swp (d := d') (a := lo) (b := hi) (i := x + t) (j := y + t) (by omega) (by omega) (by omega) (by omega) (by omega))
      have hsw := hk.swp8 (x + t) (y + t) hxs hys
      obtain ⟨c0, c1, c2, c3⟩ := hk.cells (x + t) hxs
      obtain ⟨f0, f1, f2, f3⟩ := hk.frozen (x + t) hxs
      obtain ⟨c4, c5, c6, c7⟩ := hk.cells (y + t) hys
      obtain ⟨f4, f5, f6, f7⟩ := hk.frozen (y + t) hys
      have hXY : x + t ≠ y + t := by omega
      have e1 : (x : Int) + (t : Int) = ((x + t : Nat) : Int) := by omega
      have e2 : (y : Int) + (t : Int) = ((y + t : Nat) : Int) := by omega
      have i1 : ((x + t : Nat) : Int) < (N : Int) := by omega
      have i2 : ((y + t : Nat) : Int) < (N : Int) := by omega
      have b1 : x + t ≤ 1000000 := by omega
      have b2 : y + t ≤ 1000000 := by omega
      have HST := Lib.hid hst
      have HPT := Lib.hid hpt
      clear hst hpt hs hp hk hxs hys hz hN
      generalize x + t = X at *
      generalize y + t = Y at *
      generalize hC1 : d'[X]! = C1 at *
      generalize hC2 : d'[Y]! = C2 at *
      have n0 : (X = Y) = False := eq_false hXY
      have n1 : (Y = X) = False := eq_false (Ne.symm hXY)
      clear hC1 hC2
      have HSW := Lib.hid hsw
      clear hsw
      go_wp2_with fail
      go_big_region
      go_wp2_with fail
      go_roundw
      case rel => exact ⟨t + 1, _, hlt, by go_num, HST.out, HPT.out, HSW.out⟩
      case measure => simp [intOf]; omega
    · obtain rfl : t = n := by omega
      have HS := Lib.hid hs
      clear hs
      go_wp2_with fail
      go_end0
      exact ⟨rfl, d', HS.out, hp, hk⟩
set_option maxHeartbeats 4000000 in
set_option maxRecDepth 100000 in
theorem rotate_c (w0 : World) (g cap N : Nat) (fv : Value) (d : Array El) (a m b : Nat) (hN : d.size = N) (hN2 : N ≤ 1000000) (ham : a < m) (hmb : m < b) (hb : b ≤ N) (w : World) (h : Sk w0 g d w) :
    Calls Tryz.prog 83 #[.slice (some ⟨g, 0, none⟩) N cap, .int .i64 (a : Int), .int .i64 (m : Int), .int .i64 (b : Int), fv] w fun e w' => e = .returned (.tuple #[]) ∧ ∃ d', Rot a m b d d' ∧ PermIn a b d d' ∧ Sk w0 g d' w' := by
  go_enter Tryz.func83, Tryz.ntmps83
  have ea : (m : Int) - (a : Int) = ((m - a : Nat) : Int) := by omega
  have eb : (b : Int) - (m : Int) = ((b - m : Nat) : Int) := by omega
  go_wp2_with fail
  go_loopw [10, 11] (fun v10 v11 wr => ∃ (i j : Nat) (d' : Array El), 0 < i ∧ 0 < j ∧ i ≤ m - a ∧ j ≤ b - m ∧ v10 = .int .i64 (i : Int) ∧ v11 = .int .i64 (j : Int) ∧ Sk w0 g d' wr ∧ PermIn a b d d' ∧ ∀ d2, Rot (m - i) m (m + j) d' d2 → Rot a m b d d2) (fun v u _ => (intOf v).toNat + (intOf u).toNat)
  case atStart => exact ⟨m - a, b - m, d, by omega, by omega, Nat.le_refl _, Nat.le_refl _, rfl, rfl, h, perm_refl _ _ _, fun d2 hr => by rwa [show m - (m - a) = a by omega, show m + (b - m) = b by omega] at hr⟩
  case round =>
    clear ea eb
    obtain ⟨i, j, d', hi, hj, hia, hjb, rfl, rfl, hk, hp, hr⟩ := hrel
    have hz := hp.1
    have e1 : (m : Int) - (i : Int) = ((m - i : Nat) : Int) := by omega
    have i1 : (i : Int) ≤ 1000000 := by omega
    have j1 : (j : Int) ≤ 1000000 := by omega
    have m1 : (m : Int) ≤ 1000000 := by omega
    rcases Nat.lt_trichotomy i j with hij | hij | hij
    · have hne : ((i : Int) != (j : Int)) = true := by rw [bne_iff_ne]; omega
      have hgt : ¬ (j : Int) < (i : Int) := by omega
      have e2 : (m : Int) + (j : Int) = ((m + j : Nat) : Int) := by omega
      have e3 : ((m + j : Nat) : Int) - (i : Int) = ((m + j - i : Nat) : Int) := by omega
      have e4 : (j : Int) - (i : Int) = ((j - i : Nat) : Int) := by omega
      have mj : ((m + j : Nat) : Int) ≤ 2000000 := by omega
      have hc := fun w h => swapRange_c w0 g cap N fv d' (m - i) (m + j - i) i a b (hz.trans hN) hN2 (by omega) (by omega) (by omega) (by omega) (by omega) (by omega) w h
      have HR := Lib.hid hr
      have HP := Lib.hid hp
      have hdone := fun d1 (HS : Swr (m - i) (m + j - i) i d' d1) d2 h2 => hr d2 (Rot.right hi hij (by omega) HS h2)
      have HD := Lib.hid hdone
      clear hr hp hz hN hdone HR
      have q1 : m + j - i ≤ 2000000 := by omega
      have q2 : j - i ≤ 1000000 := by omega
      have q3 : m - i ≤ 1000000 := by omega
      have q4 : 0 < j - i := by omega
      have q5 : j - i < j := by omega
      have q6 : j - i ≤ b - m := by omega
      generalize hmj : m + j = mj' at *
      have q7 : mj' ≤ 2000000 := by omega
      clear hmj mj
      generalize mj' - i = Y at *
      generalize j - i = J at *
      generalize hX : m - i = X at *
      have HX := Lib.hid hX
      clear hX
      go_wp2_with fail
      refine (hc _ hk).mono ?_
      rintro z w2 ⟨rfl, d1, hs, hp1, hk1⟩
      have HS := Lib.hid hs
      clear hs
      go_wp2_with fail
      go_roundw
      case rel => exact ⟨i, J, d1, hi, q4, hia, q6, rfl, by go_num, hk1, perm_trans HP.out hp1, by rw [HX.out]; exact HD.out d1 HS.out⟩
      case measure => simp [intOf]; omega
    · subst hij
      have hne : ((i : Int) != (i : Int)) = false := by rw [bne_eq_false_iff_eq]
      have hc := fun w h => swapRange_c w0 g cap N fv d' (m - i) m i a b (hz.trans hN) hN2 (by omega) (by omega) (by omega) (by omega) (by omega) (by omega) w h
      have HR := Lib.hid hr
      have HP := Lib.hid hp
      clear hr hp hz hN
      go_wp2_with fail
      refine (hc _ hk).mono ?_
      rintro z w2 ⟨rfl, d1, hs, hp1, hk1⟩
      have HS := Lib.hid hs
      clear hs
      go_wp2_with fail
      go_end0
      exact ⟨rfl, d1, HR.out d1 (Rot.same (by omega) HS.out), perm_trans HP.out hp1, hk1⟩
    · have hne : ((i : Int) != (j : Int)) = true := by rw [bne_iff_ne]; omega
      have hgt : (j : Int) < (i : Int) := by omega
      have e4 : (i : Int) - (j : Int) = ((i - j : Nat) : Int) := by omega
      have hc := fun w h => swapRange_c w0 g cap N fv d' (m - i) m j a b (hz.trans hN) hN2 (by omega) (by omega) (by omega) (by omega) (by omega) (by omega) w h
      have HR := Lib.hid hr
      have HP := Lib.hid hp
      clear hr hp hz hN
      go_wp2_with fail
      refine (hc _ hk).mono ?_
      rintro z w2 ⟨rfl, d1, hs, hp1, hk1⟩
      have HS := Lib.hid hs
      clear hs
      go_wp2_with fail
      go_roundw
      case rel => exact ⟨i - j, j, d1, by omega, hj, by omega, hjb, by go_num, rfl, hk1, perm_trans HP.out hp1, fun d2 h2 => HR.out d2 (Rot.left hj hij (by omega) HS.out h2)⟩
      case measure => simp [intOf]; omega
end Go.Proofs.YtlnfmngginihfaaGreatDoor
namespace Go.Proofs.YtlnfmngginihfaaGreatDoor
open Go.RowKit Go.Sort

abbrev El.w (u : El) : Value := flV u.f.kind u.f.neg u.f.exp (.slice u.A (cn u.f.mag).length u.c)
theorem bxs2 (w : World) (a b c d a' b' c' d' : Value) : ∀ W, W = ((w.alloc (.cells #[a, b, c, d] 40)).alloc (.cells #[a', b', c', d'] 40)) →
    Bx W w.heap.size a b c d ∧ Bx W (w.heap.size + 1) a' b' c' d' ∧ Ext w W := by
  rintro W rfl
  have x2 := Bx.new w a b c d
  have x3 := Bx.new (w.alloc (.cells #[a, b, c, d] 40)) a' b' c' d'
  rw [World.size_alloc] at x3
  exact ⟨x2.ext ((Ext.refl _).al _), x3, ((Ext.refl _).al _).al _⟩
set_option maxHeartbeats 2000000 in
set_option maxRecDepth 100000 in
theorem by_c (k p : Int) (hR : Rgt k p) (u v : El) (hu : FOf k p u.f) (hv : FOf k p v.f) (q : Nat) (w : World) (hT : Tab w) (hq : Bf w q (.int .i64 k) (.int .i64 p)) (h : Rd w u.A u.c (cn u.f.mag)) (h' : Rd w v.A v.c (cn v.f.mag)) :
    Calls Tryz.prog 16 #[u.w, v.w, .pointer (some ⟨q, 0, none⟩)] w fun e w' => e = .returned (.int .i64 (sgn (key k p u.f - key k p v.f))) ∧ Ext w w' := by
  have htc := fun w hT h h' => total_c k p hR u.f v.f hu hv u.A v.A u.c v.c w hT h h'
  rw [tot_key hR hu hv] at htc
  obtain ⟨hX, hY, hE⟩ := bxs2 w (.int .i64 u.f.kind) (.bool u.f.neg) (.int .i64 u.f.exp) (.slice u.A (cn u.f.mag).length u.c) (.int .i64 v.f.kind) (.bool v.f.neg) (.int .i64 v.f.exp) (.slice v.A (cn v.f.mag).length v.c) _ rfl
  obtain ⟨q0, q1⟩ := hq.facts
  have hql := hq.lt
  unfold El.w
  generalize sgn (key k p u.f - key k p v.f) = S at *
  clear hu hv hR
  obtain ⟨⟨fk, fn, fe, fm⟩, A, c⟩ := u
  obtain ⟨⟨gk, gn, ge, gm⟩, A', c'⟩ := v
  simp only at *
  generalize cn fm = X at *
  generalize cn gm = Y at *
  have HX := Lib.hid hX
  have HY := Lib.hid hY
  have HE := Lib.hid hE
  clear hX hY hE
  go_enter Tryz.func16, Tryz.ntmps16
  go_wp2_with fail
  have hE := HE.out
  generalize ((w.alloc (.cells #[.int .i64 fk, .bool fn, .int .i64 fe, .slice A X.length c] 40)).alloc (.cells #[.int .i64 gk, .bool gn, .int .i64 ge, .slice A' Y.length c'] 40)) = W at *
  refine (htc _ (hT.ext hE) (h.ext hE) (h'.ext hE)).mono ?_
  rintro z w1 ⟨rfl, hE1⟩
  go_wp2_with fail
  go_ret
  exact ⟨rfl, hE.tr hE1⟩
theorem Gw.ext {g : Nat} {v w w1 : World} (h : Gw g w w1) (he : Ext v w) (hg : v.heap.size ≤ g) : Ext v w1 :=
  ⟨h.os.trans he.os, h.tape.trans he.tape, h.output.trans he.output, Nat.le_trans he.size h.size, fun k hk => by
    rw [h.block k (Nat.lt_of_lt_of_le hk he.size) (fun e => by have := Option.some.inj e; omega)]
    exact he.block k hk⟩
theorem add_block (a : Addr) (i : Nat) : (a.add i).block = a.block := by unfold Addr.add; split <;> rfl
theorem Rd.far {g : Nat} {w w1 : World} {A : Option Addr} {c : Nat} {xs : List Nat} (h : Rd w A c xs) (hg : Gw g w w1) (hn : ∀ ad, A = some ad → ad.block ≠ g) : Rd w1 A c xs :=
  ⟨h.cap, h.len, h.w64, fun i hi => by
    obtain ⟨ad, e, hc⟩ := h.cell i hi
    exact ⟨ad, e, hg.far hc (by rw [add_block]; exact hn ad e)⟩⟩
/-- What the comparison leans on. -/
structure Cmp (k p : Int) (wb w0 : World) (g q : Nat) : Prop where
  hR : Rgt k p
  hT : Tab wb
  box : Bf wb q (.int .i64 k) (.int .i64 p)
  ext : Ext wb w0
  new : wb.heap.size ≤ g
structure Good (k p : Int) (w0 : World) (g : Nat) (u : El) : Prop where
  ok : FOf k p u.f
  rd : Rd w0 u.A u.c (cn u.f.mag)
  ne : ∀ ad, u.A = some ad → ad.block ≠ g
abbrev keyE (k p : Int) (u : El) : Int := key k p u.f
abbrev clo (q : Nat) : Value := .func (.func 16) #[] #[.pointer (some ⟨q, 0, none⟩)]
theorem Cmp.call {k p : Int} {wb w0 w : World} {g q : Nat} (C : Cmp k p wb w0 g q) {u v : El} (hu : Good k p w0 g u) (hv : Good k p w0 g v) (hg : Gw g w0 w) :
    Calls Tryz.prog 16 #[u.w, v.w, .pointer (some ⟨q, 0, none⟩)] w fun e w' => e = .returned (.int .i64 (sgn (keyE k p u - keyE k p v))) ∧ Ext w w' := by
  have hE := hg.ext C.ext C.new
  exact by_c k p C.hR u v hu.ok hv.ok q w (C.hT.ext hE) (C.box.ext hE) (hu.rd.far hg hu.ne) (hv.rd.far hg hv.ne)
theorem sgn_neg {z : Int} : sgn z < 0 ↔ z < 0 := by
  unfold sgn
  split
  · simp; omega
  · split <;> simp <;> omega
theorem all_perm {G : El → Prop} {lo hi N : Nat} {d d' : Array El} (hp : PermIn lo hi d d') (hh : hi ≤ d.size) (hG : ∀ i, i < N → G d[i]!) (hN : d.size = N) : ∀ i, i < N → G d'[i]! := by
  intro i hi'
  by_cases h : lo ≤ i ∧ i < hi
  · exact permIn_all d d' lo hi G hh hp (fun j h1 h2 => hG j (by omega)) i h.1 h.2
  · rw [hp.2.1 i (by omega)]
    exact hG i hi'
set_option maxHeartbeats 4000000 in
set_option maxRecDepth 100000 in
theorem insertion_c (k p : Int) (wb w0 : World) (g q cap N : Nat) (C : Cmp k p wb w0 g q) (d : Array El) (a b : Nat) (hN : d.size = N) (hN2 : N ≤ 1000000) (hab : a ≤ b) (hb : b ≤ N) (hG : ∀ i, i < N → Good k p w0 g d[i]!) (w : World) (h : Sk w0 g d w) :
    Calls Tryz.prog 53 #[.slice (some ⟨g, 0, none⟩) N cap, .int .i64 (a : Int), .int .i64 (b : Int), clo q] w fun e w' => e = .returned (.tuple #[]) ∧ ∃ d', PermIn a b d d' ∧ Srt (keyE k p) a b d' ∧ Sk w0 g d' w' := by
  have a1 : (a : Int) ≤ 1000000 := by omega
  unfold clo
  go_enter Tryz.func53, Tryz.ntmps53
  go_wp2_with fail
  go_loopw [8] (fun v8 wr => ∃ (i : Nat) (dk : Array El), a < i ∧ i ≤ b + 1 ∧ v8 = .int .i64 (i : Int) ∧ Sk w0 g dk wr ∧ PermIn a b d dk ∧ insOuter (ltK (keyE k p)) a b i dk = insOuter (ltK (keyE k p)) a b (a + 1) d) (fun v _ => b + 1 - (intOf v).toNat)
  case atStart => exact ⟨a + 1, d, by omega, by omega, by go_num, h, perm_refl _ _ _, rfl⟩
  case round =>
    obtain ⟨i, dk, hai, hib, rfl, hk, hp, hO⟩ := hrel
    by_cases hlt : i < b
    · have hz := hp.1
      have hlt2 : (i : Int) < (b : Int) := by omega
      have HO := Lib.hid hO
      clear hO
      go_wp2_with fail
      go_loopw [9] (fun v9 w2 => ∃ (j : Nat) (dj : Array El), a ≤ j ∧ j ≤ i ∧ v9 = .int .i64 (j : Int) ∧ Sk w0 g dj w2 ∧ PermIn a b d dj ∧ insInner (ltK (keyE k p)) a j dj = insInner (ltK (keyE k p)) a i dk) (fun v _ => (intOf v).toNat)
      case atStart => exact ⟨i, dk, by omega, Nat.le_refl _, rfl, hk, hp, rfl⟩
      case round =>
        clear hk hp hib
        obtain ⟨j, dj, haj, hji, rfl, hkj, hpj, hI⟩ := hrel
        have hzj := hpj.1
        have hjN : j < dj.size := by omega
        have hout : (j ≤ a ∨ ltK (keyE k p) dj[j]! dj[j - 1]! = false) → insOuter (ltK (keyE k p)) a b (i + 1) dj = insOuter (ltK (keyE k p)) a b (a + 1) d := fun hs => by
          rw [← HO.out, insOuter_go _ _ _ _ _ hlt, ← hI, insInner_stop _ _ _ _ hs]
        have hGj := all_perm hpj (by omega) hG hN
        by_cases hja : a < j
        · obtain ⟨y, hy⟩ : ∃ y, j = y + 1 := ⟨j - 1, by omega⟩
          have hyN : y < dj.size := by omega
          rw [show j - 1 = y by omega] at hout
          have hC := fun (V : Later wr) => C.call (hGj j (by omega)) (hGj y (by omega)) (hkj.gw.tr (Gw.of_ext V.h g))
          obtain ⟨c0, c1, c2, c3⟩ := hkj.cells j hjN
          obtain ⟨c4, c5, c6, c7⟩ := hkj.cells y hyN
          have q0 := Later.cell c0
          have q1 := Later.cell c1
          have q2 := Later.cell c2
          have q3 := Later.cell c3
          have q4 := Later.cell c4
          have q5 := Later.cell c5
          have q6 := Later.cell c6
          have q7 := Later.cell c7
          have e1 : (j : Int) - 1 = (y : Int) := by omega
          have i1 : (j : Int) < (N : Int) := by omega
          have i2 : (y : Int) < (N : Int) := by omega
          have i3 : (a : Int) < (j : Int) := by omega
          have b1 : j ≤ 1000000 := by omega
          have HOUT := Lib.hid hout
          have HI := Lib.hid hI
          have hiff := sgn_neg (z := keyE k p dj[j]! - keyE k p dj[y]!)
          obtain ⟨S, hS⟩ : ∃ S, sgn (keyE k p dj[j]! - keyE k p dj[y]!) = S := ⟨_, rfl⟩
          rw [hS] at hC hiff
          have HK := Lib.hid hkj
          have HPJ := Lib.hid hpj
          have HJN := Lib.hid hjN
          have HYN := Lib.hid hyN
          have HBS := Lib.hid (show b ≤ dj.size by omega)
          clear hout hI hS hGj c0 c1 c2 c3 c4 c5 c6 c7 hkj hpj
          by_cases hlv : S < 0
          · have hgo := insInner_go (ltK (keyE k p)) a j dj hja (by rw [show j - 1 = y by omega]; exact decide_eq_true (by omega))
            rw [show j - 1 = y by omega] at hgo
            have HGO := Lib.hid hgo
            have HY := Lib.hid hy
            clear hgo hiff hy hN hzj hz hjN hyN
            generalize hu : dj[j]! = u at hC q0 q1 q2 q3
            generalize hv : dj[y]! = v at hC q4 q5 q6 q7
            have HU := Lib.hid hu
            have HV := Lib.hid hv
            clear hu hv
            go_wp2_with fail
            refine wp_region_later (by kernel_rfl) (by kernel_rfl) ?_
            repeat (go_big_quiet_step (first
              | (go_at_call 16; (with_reducible refine Calls.later (hC _)))))
            refine wpQuiet_nil ?_
            intro wq hw'
            obtain ⟨⟨w3, hE3⟩, hw3⟩ := hw'
            replace hw3 : wq = w3 := hw3
            rw [hw3]
            clear hw3 wq q0 q1 q2 q3 q4 q5 q6 q7 hC
            have hk3 := (HK.out).ext hE3
            obtain ⟨c0, c1, c2, c3⟩ := hk3.cells j HJN.out
            obtain ⟨f0, f1, f2, f3⟩ := hk3.frozen j HJN.out
            obtain ⟨c4, c5, c6, c7⟩ := hk3.cells y HYN.out
            obtain ⟨f4, f5, f6, f7⟩ := hk3.frozen y HYN.out
            have hsw := hk3.swp8 j y HJN.out HYN.out
            rw [HU.out] at c0 c1 c2 c3
            rw [HV.out] at c4 c5 c6 c7
            rw [HU.out, HV.out] at hsw
            have HSW := Lib.hid hsw
            have n0 : (j = y) = False := eq_false (by have := HY.out; omega)
            have n1 : (y = j) = False := eq_false (by have := HY.out; omega)
            clear hsw hk3
            go_wp2_with fail
            go_big_region
            go_wp2_with fail
            go_roundw
            case rel => exact ⟨y, _, by have := HY.out; omega, by have := HY.out; omega, by go_num, HSW.out, perm_trans HPJ.out (perm_swp (by have := HY.out; omega) (by omega) (by have := HY.out; omega) (by have := HY.out; omega) HBS.out), by rw [← HI.out, HGO.out]⟩
            case measure => have := HY.out; simp [intOf]; omega
          · have hq := fun h => HOUT.out (.inr h)
            have hq2 := hq (decide_eq_false (by omega))
            have HQ := Lib.hid hq2
            clear hq hq2 hiff hy hN hzj hz hjN hyN HOUT HI
            generalize dj[j]! = u at hC q0 q1 q2 q3
            generalize dj[y]! = v at hC q4 q5 q6 q7
            go_wp2_with fail
            refine wp_region_later (by kernel_rfl) (by kernel_rfl) ?_
            repeat (go_big_quiet_step (first
              | (go_at_call 16; (with_reducible refine Calls.later (hC _)))))
            refine wpQuiet_nil ?_
            intro wq hw'
            obtain ⟨⟨w3, hE3⟩, hw3⟩ := hw'
            replace hw3 : wq = w3 := hw3
            rw [hw3]
            clear hw3 wq q0 q1 q2 q3 q4 q5 q6 q7 hC
            go_wp2_with fail
            go_roundw
            case rel => exact ⟨i + 1, dj, by omega, by omega, by go_num, (HK.out).ext hE3, HPJ.out, HQ.out⟩
            case measure => simp [intOf]; omega
        · obtain rfl : j = a := by omega
          have hq := hout (.inl (Nat.le_refl _))
          have HQ := Lib.hid hq
          have HPJ := Lib.hid hpj
          have HK := Lib.hid hkj
          clear hq hout hI hpj hkj hGj hN hz hzj hjN
          go_wp2_with fail
          refine wp_region_later (by kernel_rfl) (by kernel_rfl) ?_
          repeat (go_big_quiet_step (fail))
          refine wpQuiet_nil ?_
          intro wq hw'
          obtain ⟨⟨w3, hE3⟩, hw3⟩ := hw'
          replace hw3 : wq = w3 := hw3
          rw [hw3]
          clear hw3 wq
          go_wp2_with fail
          go_roundw
          case rel => exact ⟨i + 1, dj, by omega, by omega, by go_num, (HK.out).ext hE3, HPJ.out, HQ.out⟩
          case measure => simp [intOf]; omega
    · have hins := insertionSort_holds (lt := ltK (keyE k p)) (swo_ltK _) d a b hab (by omega)
      unfold insertionSort at hins
      rw [← hO, insOuter_stop _ _ _ _ _ hlt] at hins
      have HI := Lib.hid hins
      clear hins hO
      go_wp2_with fail
      go_end0
      exact ⟨rfl, dk, HI.out.1, Srt.of HI.out.2, hk⟩
end Go.Proofs.YtlnfmngginihfaaGreatDoor
