/- package words: Sub (with carrying and the closure that takes words away). package nat: Add, Sub. -/
import Derived.Test.YtehlmacgjlgjaaaGreatDoorO3
import Derived.Test.YtehlmacgjlgjaaaGreatDoorW5
import Derived.Laws.CopyOwn
set_option linter.unusedVariables false
set_option linter.unusedSimpArgs false
namespace Go.Proofs.YtehlmacgjlgjaaaGreatDoor
open Go.RowKit

/-- A box of two words. -/
structure Bp (w : World) (g : Nat) (a b : Value) : Prop where
  h : w.heap[g]? = some (.cells #[a, b] 189 (0, 0))
theorem Bp.ext {w w' : World} {g : Nat} {a b : Value} (x : Bp w g a b) (h : Ext w w') : Bp w' g a b := ⟨(h.block g (Array.getElem?_eq_some_iff.1 x.h).1).trans x.h⟩
theorem Bp.facts {w : World} {g : Nat} {a b : Value} (x : Bp w g a b) : w.cell? ⟨g, 0, none⟩ = some a ∧ w.cell? ⟨g, 1, none⟩ = some b ∧ (∀ i, w.frozen? ⟨g, i, none⟩ = false) := by
  have h := x.h
  refine ⟨?_, ?_, fun i => by simp [World.frozen?, h]⟩ <;> rw [cell_of_row w g _ _ _ _ h] <;> rfl
theorem Bp.new (w : World) (a b : Value) : Bp (w.alloc (.cells #[a, b] 189)) w.heap.size a b := ⟨heap_alloc_new w _⟩
theorem Bp.put {w : World} {g : Nat} {a b : Value} (x : Bp w g a b) (a' b' : Value) : Bp ((w.setCell ⟨g, 0, none⟩ a').setCell ⟨g, 1, none⟩ b') g a' b' := by
  have h := x.h
  constructor
  simp [World.setCell, Array.getElem?_modify, h]
theorem Bp.lt {w : World} {g : Nat} {a b : Value} (x : Bp w g a b) : g < w.heap.size := (Array.getElem?_eq_some_iff.1 x.h).1
set_option maxHeartbeats 1000000 in
set_option maxRecDepth 100000 in
theorem wsub1_c (bx bY : Nat) (adx ady : Addr) (cx cy n : Nat) (i x y bw : Nat) (hb : bw ≤ 1) (hi : i < n) (w : World) (h1 : w.cell? ⟨bx, 0, none⟩ = some (.slice (some adx) n cx)) (h2 : w.cell? ⟨bY, 0, none⟩ = some (.slice (some ady) n cy))
    (hx : w.cell? (adx.add i) = some (.int .u64 (x : Int))) (hy : w.cell? (ady.add i) = some (.int .u64 (y : Int))) :
    Calls Tryz.prog 167 #[.int .i64 i, .int .u64 bw, .pointer (some ⟨bx, 0, none⟩), .pointer (some ⟨bY, 0, none⟩)] w fun z w' => z = .returned (.agg #[.int .u64 (((x + B - y - bw) % B : Nat) : Int), .int .u64 ((brw x y bw : Nat) : Int)]) ∧ Ext w w' := by
  have hP := Bp.new w (.int .u64 0) (.int .u64 0)
  have hA := (Ext.refl w).al (.cells #[.int .u64 0, .int .u64 0] 189)
  have ha := run_s64 x y bw hb
  generalize (x + B - y - bw) % B = d at *
  generalize brw x y bw = e at *
  have q1 := hA.cell h1
  have q2 := hA.cell h2
  have q3 := hA.cell hx
  have q4 := hA.cell hy
  have HP := Lib.hid hP
  have HA := Lib.hid hA
  have g0 : (0 : Int) ≤ (i : Int) := by omega
  have g1 : (i : Int) < (n : Int) := by omega
  clear hP hA h1 h2 hx hy
  go_enter Tryz.func167, Tryz.ntmps167
  go_wp2_with fail
  generalize w.alloc (.cells #[.int .u64 0, .int .u64 0] 189) = W at *
  go_quiet (simp only [ha])
  rename_i nq
  have hP := (HP.out.ext ((Ext.refl W).drewN nq))
  have hA := HA.out.drewN nq
  obtain ⟨p0, p1, pf⟩ := hP.facts
  have hR := hP.put (.int .u64 (d : Int)) (.int .u64 (e : Int))
  have hE := (hA.set (g := w.heap.size) (Nat.le_refl _) 0 (.int .u64 (d : Int))).set (g := w.heap.size) (Nat.le_refl _) 1 (.int .u64 (e : Int))
  have HR := Lib.hid hR
  have HE := Lib.hid hE
  clear hR hE
  go_wp2
  obtain ⟨r0, r1, -⟩ := HR.out.facts
  refine bodyPost_ret (v := .agg #[.int .u64 (d : Int), .int .u64 (e : Int)]) (by simp [results, Tryz.results167, go_sem, r0, r1]) rfl ?_
  exact ⟨rfl, HE.out⟩
section
variable {ops : Array Oper} {rest : List Oper} {o : Oper} {a : Act} {Q : Exit → Act → World → Prop} {w : World}
/-- 'make([]uint64, 0, n)': a new row of no words. -/
theorem wp_make0 (hg : o.guard = none) (l c : Operand) (t : TypeId) (hop : o.op = Op.makeSlice t l c) (ht : Tryz.prog.underlying t = some (.slice 60)) (n : Nat) (N : Int) (hl : a.eval l = .int .i64 0) (hc : a.eval c = .int .i64 N) (hN : N = (n : Int))
    (hn : n ≤ 1099511627776) (hK : ∀ v w', Own w' w.heap.size v [] → Ext w w' → wpList Tryz.prog ops Q rest (a.put o.dst v) w') :
    wpList Tryz.prog ops Q (o :: rest) a w := by
  obtain ⟨i, h2, h3, h4, h5⟩ := info_parts info64
  obtain ⟨w', hr, ho, hgr⟩ := run_make_own (P := Tryz.prog) (w := w) w.heap.size t 60 i _ 1 ht h2 h3 h4 .i64 .i64 n (by rw [h5]; omega) (by simp only [maxLen]; omega) (Nat.le_refl _)
  subst hN
  refine wpList_plain hg fun K hK' => ?_
  unfold Oper.wp
  simp [execOp, hop, hl, hc, hr, Result.andThen]
  exact hK' _ _ (hK _ _ ⟨by simpa [enc] using ho, W64.nil⟩ ((Below.refl _ w).grown hgr (Nat.le_refl _) (by simp)))
end
theorem grown_cell {w w' : World} {row : Option Nat} (h : w.grownBy w' row) {b i : Nat} {v : Value} (hb : b < w.heap.size) (hn : ∀ k, row = some k → k < b) (hc : w.cell? ⟨b, i, none⟩ = some v) : w'.cell? ⟨b, i, none⟩ = some v := by
  rw [← hc]
  exact World.cell?_of_block (w := w) (h.block b hb (fun e => by have := hn b e.symm; omega))
theorem minus_step' {X Y o : List Nat} {i bw : Nat} (hX : W64 X) (hY : W64 Y) (hc : bw ≤ 1) (hl : o.length = i) (hv : val o + val (Y.take i) = val (X.take i) + B ^ i * bw) :
    val (o ++ [(X.getD i 0 + B - Y.getD i 0 - bw) % B]) + val (Y.take (i + 1)) = val (X.take (i + 1)) + B ^ (i + 1) * brw (X.getD i 0) (Y.getD i 0) bw := by
  rw [show val (o ++ [(X.getD i 0 + B - Y.getD i 0 - bw) % B]) = _ from valb_snoc B o _, hl, val_take_past X i, val_take_past Y i]
  have e := borrow_step (hX.get i) (hY.get i) hc
  generalize brw (X.getD i 0) (Y.getD i 0) bw = q at *
  generalize (X.getD i 0 + B - Y.getD i 0 - bw) % B = r at *
  have e2 : B ^ i * (r + Y.getD i 0 + bw) = B ^ i * (X.getD i 0 + B * q) := by rw [e]
  rw [Nat.pow_succ, Nat.mul_assoc]
  simp only [Nat.mul_add] at e2
  show valb B o + _ + _ = _
  have hv' : valb B o + val (Y.take i) = val (X.take i) + B ^ i * bw := hv
  omega
set_option maxHeartbeats 4000000 in
set_option maxRecDepth 100000 in
theorem wcarry_c (bx bY : Nat) (A A' : Option Addr) (cx cy : Nat) (X Y : List Nat) (w : World) (h : Rd w A cx X) (h' : Rd w A' cy Y) (hl : X.length = Y.length) (hs : X.length ≤ 1000000)
    (h1 : w.cell? ⟨bx, 0, none⟩ = some (.slice A X.length cx)) (h2 : w.cell? ⟨bY, 0, none⟩ = some (.slice A' X.length cy)) :
    Calls Tryz.prog 166 #[.slice A X.length cx, .int .u64 0, .func (.func 167) #[] #[.pointer (some ⟨bx, 0, none⟩), .pointer (some ⟨bY, 0, none⟩)]] w fun z w' =>
      ∃ v o bw, z = .returned (.tuple #[v, .int .u64 ((bw : Nat) : Int)]) ∧ o.length = X.length ∧ bw ≤ 1 ∧ val o + val Y = val X + B ^ X.length * bw ∧ Own w' w.heap.size v o ∧ Ext w w' := by
  have HL := Lib.hid hl
  clear hl
  go_enter Tryz.func166, Tryz.ntmps166
  go_wp2_with (at_make; refine wp_make0 rfl _ _ _ rfl Tryz.underlying26 X.length _ rfl rfl rfl (by omega) ?_; intro v0 w1 ho1 hb1)
  have HO := Lib.hid ho1
  have HB := Lib.hid hb1
  clear ho1 hb1
  go_loopw [1, 8, 16] (fun v1 v8 v16 wr => ∃ (i bw : Nat) (o : List Nat), i ≤ X.length ∧ v16 = .int .i64 i ∧ v1 = .int .u64 bw ∧ bw ≤ 1 ∧ o.length = i ∧ val o + val (Y.take i) = val (X.take i) + B ^ i * bw ∧ Own wr w.heap.size v8 o ∧ Ext w wr) (fun _ _ v _ => X.length - (intOf v).toNat)
  case atStart => exact ⟨0, 0, [], Nat.zero_le _, rfl, rfl, by omega, rfl, by simp [val, valb], HO.out, HB.out⟩
  case round =>
    clear HO HB
    obtain ⟨i, bw, o, hi, rfl, rfl, hbw, hol, hv, hO, hE⟩ := hrel
    by_cases hlt : i < X.length
    · obtain ⟨adx, rfl, hx⟩ := h.cell i hlt
      obtain ⟨ady, rfl, hy⟩ := h'.cell i (by rw [← HL.out]; exact hlt)
      have hst := minus_step' h.w64 h'.w64 hbw hol hv
      have hc := fun w h1 h2 hx hy => wsub1_c bx bY adx ady cx cy X.length i (X.getD i 0) (Y.getD i 0) bw hbw hlt w h1 h2 hx hy
      have hdB := mod_B_lt (X.getD i 0 + B - Y.getD i 0 - bw)
      have hbq := brw_le (X.getD i 0) (Y.getD i 0) bw
      generalize (X.getD i 0 + B - Y.getD i 0 - bw) % B = d at *
      generalize brw (X.getD i 0) (Y.getD i 0) bw = q at *
      have HS := Lib.hid (And.intro hst (And.intro hol hbq))
      have HO := Lib.hid hO
      have HE := Lib.hid hE
      have hol2 : o.length ≤ 1000000 := by omega
      have HBL := Lib.hid (show ∀ k, u8.ownBlock = some k → k < wr.heap.size from fun k hk => (hO.own.lt k hk).2)
      have hc' := hc wr (hE.cell h1) (hE.cell h2) (hE.cell hx) (hE.cell hy)
      clear hst hol hv hO hE hc hx hy hbq
      go_wp2_with fail
      refine hc'.mono ?_
      rintro z w2 ⟨rfl, hb2⟩
      have hP := Bp.new w2 (.int .u64 (d : Int)) (.int .u64 (q : Int))
      have hA := (Ext.refl w2).al (.cells #[.int .u64 (d : Int), .int .u64 (q : Int)] 189)
      go_wp2_with fail
      have hE3 := (HE.out.tr hb2).tr hA
      have hO3 := (HO.out.ext hb2).ext hA
      generalize w2.alloc (.cells #[.int .u64 (d : Int), .int .u64 (q : Int)] 189) = W at *
      obtain ⟨p0, p1, -⟩ := hP.facts
      have hlp := hP.lt
      go_region_held3 (fun w' => w'.cell? ⟨w2.heap.size, 0, none⟩ = some (.int .u64 (d : Int)) ∧ w'.cell? ⟨w2.heap.size, 1, none⟩ = some (.int .u64 (q : Int)))
        (first | go_keep | (go_split_ands; refine ⟨?_, ?_⟩ <;> first | assumption | (refine Ext.cell (w := W) ?_ ?_ <;> assumption)))
        ((refine st_append rfl _ _ _ rfl Tryz.underlying26 w.heap.size _ o rfl ((hO3.ext ((Ext.refl _).al _)).drew) (some ⟨W.heap.size, 0, none⟩) 1 1 [d] rfl rfl (Rd.new1 W d hdB).drew ?hb ?hl ?_; (case hb => have := hE3.size; simp; omega); (case hl => simp; omega); intro v' w4 ho4 hb4 hat hg4; have hE4 : Ext w w4 := Below.trans ((hE3.al _).drew) hb4; have z0 : w4.cell? ⟨w2.heap.size, 0, none⟩ = some (.int .u64 (d : Int)) := grown_cell hg4 (by simp; omega) (fun k hk => by have h1 := HBL.out k hk; have h2 := hb2.size; omega) ((((Ext.refl W).al (.cells #[.int .u64 (d : Int)] 60)).drew).cell p0); have z1 : w4.cell? ⟨w2.heap.size, 1, none⟩ = some (.int .u64 (q : Int)) := grown_cell hg4 (by simp; omega) (fun k hk => by have h1 := HBL.out k hk; have h2 := hb2.size; omega) ((((Ext.refl W).al (.cells #[.int .u64 (d : Int)] 60)).drew).cell p1)))
      have HO4 := Lib.hid ho4
      have HE4 := Lib.hid hE4
      clear ho4 hE4 hb4 hat hg4 z0 z1 p0 p1
      go_wp2
      go_roundw
      case rel => exact ⟨i + 1, q, _, hlt, by go_num, rfl, HS.out.2.2, by rw [List.length_append, HS.out.2.1]; rfl, HS.out.1, HO4.out, HE4.out⟩
      case measure => simp [intOf]; omega
    · obtain rfl : i = X.length := by omega
      rw [List.take_length, List.take_of_length_le (by rw [HL.out]; exact Nat.le_refl _)] at hv
      have HS := Lib.hid (And.intro hol (And.intro hbw hv))
      have HO := Lib.hid hO
      have HE := Lib.hid hE
      clear hol hbw hv hO hE
      go_wp2
      go_ret2
      exact ⟨_, o, bw, rfl, HS.out.1, HS.out.2.1, HS.out.2.2, HO.out, HE.out⟩
/-- A box of a slice. -/
structure Bl (w : World) (g : Nat) (a : Value) : Prop where
  h : w.heap[g]? = some (.cells #[a] 26 (0, 0))
theorem Bl.ext {w w' : World} {g : Nat} {a : Value} (x : Bl w g a) (h : Ext w w') : Bl w' g a := ⟨(h.block g (Array.getElem?_eq_some_iff.1 x.h).1).trans x.h⟩
theorem Bl.cell {w : World} {g : Nat} {a : Value} (x : Bl w g a) : w.cell? ⟨g, 0, none⟩ = some a := by rw [cell_of_row w g _ _ _ _ x.h]; rfl
theorem Bl.new (w : World) (a : Value) : Bl (w.alloc (.cells #[a] 26)) w.heap.size a := ⟨heap_alloc_new w _⟩
theorem Bl.lt {w : World} {g : Nat} {a : Value} (x : Bl w g a) : g < w.heap.size := (Array.getElem?_eq_some_iff.1 x.h).1
set_option maxHeartbeats 2000000 in
set_option maxRecDepth 100000 in
theorem wsub_c (A A' : Option Addr) (cx cy : Nat) (X Y : List Nat) (w : World) (h : Rd w A cx X) (h' : Rd w A' cy Y) (hl : X.length = Y.length) (hs : X.length ≤ 4096) :
    Calls Tryz.prog 155 #[.slice A X.length cx, .slice A' X.length cy, .int .u64 0] w fun z w' =>
      ∃ v o bw, z = .returned (.tuple #[v, .int .u64 ((bw : Nat) : Int), .int .i64 0]) ∧ o.length = X.length ∧ bw ≤ 1 ∧ val o + val Y = val X + B ^ X.length * bw ∧ Own w' w.heap.size v o ∧ Ext w w' := by
  have h1 := Bl.new w (.slice A X.length cx)
  have h2 := Bl.new (w.alloc (.cells #[.slice A X.length cx] 26)) (.slice A' X.length cy)
  rw [World.size_alloc] at h2
  have hE := ((Ext.refl w).al (.cells #[.slice A X.length cx] 26)).al (.cells #[.slice A' X.length cy] 26)
  replace h1 := h1.ext ((Ext.refl _).al (.cells #[.slice A' X.length cy] 26))
  have hca := fun w h h' h1 h2 => wcarry_c w.heap.size (w.heap.size + 1) A A' cx cy X Y w h h' hl (by omega) h1 h2
  have hmf : ∀ (fn : Fn) (first cap : Array Value) (w : World), (Instr.makeFunc fn first cap).run Tryz.prog w = .ok (.func fn first cap) w := fun _ _ _ _ => rfl
  have hcb := fun (g g' : Nat) w h h' h1 h2 => wcarry_c g g' A A' cx cy X Y w h h' hl (by omega) h1 h2
  have hck := fun T w => wchecked_c A A' X.length cx cy T w hs
  have HL := Lib.hid hl
  have H1 := Lib.hid h1
  have H2 := Lib.hid h2
  have HE := Lib.hid hE
  clear hl h1 h2 hE hca
  go_enter Tryz.func155, Tryz.ntmps155
  go_wp2_with fail
  have h1 := H1.out
  have h2 := H2.out
  have hE := HE.out
  have hck2 := hck 26 ((w.alloc (.cells #[.slice A X.length cx] 26)).alloc (.cells #[.slice A' X.length cy] 26))
  rw [World.size_alloc, World.size_alloc] at hck2
  generalize (w.alloc (.cells #[.slice A X.length cx] 26)).alloc (.cells #[.slice A' X.length cy] 26) = W at *
  refine hck2.mono ?_
  rintro z w4 ⟨rfl, rfl⟩
  have hA := (Ext.refl W).al (.cells #[.slice A X.length cx, .slice A' X.length cy] 26)
  have h3 := (h1.ext hA).cell
  have h4 := (h2.ext hA).cell
  have hE4 := hE.tr hA
  generalize W.alloc (.cells #[.slice A X.length cx, .slice A' X.length cy] 26) = V at *
  go_wp2_with fail
  refine (hcb _ _ _ (h.ext hE4) (h'.ext hE4) h3 h4).mono ?_
  rintro z w5 ⟨v, o, bw, rfl, q1, q2, q3, ho, hb⟩
  have HQ := Lib.hid (And.intro q1 (And.intro q2 q3))
  clear q1 q2 q3
  go_wp2
  refine bodyPost_ret (v := .tuple #[v, .int .u64 (bw : Int), .int .i64 0]) (by simp [results, Tryz.results155, go_sem]) rfl ?_
  exact ⟨v, o, bw, rfl, HQ.out.1, HQ.out.2.1, HQ.out.2.2, ho.low hE4.size, hE4.tr hb⟩
end Go.Proofs.YtehlmacgjlgjaaaGreatDoor
namespace Go.Proofs.YtehlmacgjlgjaaaGreatDoor
open Go.RowKit

/-- A number's canonical words, somewhere. -/
def NatS (w : World) (n : Nat) (e : Ending) (w' : World) : Prop := ∃ A c, e = .returned (.slice A (cn n).length c) ∧ Rd w' A c (cn n) ∧ Ext w w'
def NatSE (w : World) (n : Nat) (e : Ending) (w' : World) : Prop := ∃ A c, e = .returned (.tuple #[.slice A (cn n).length c, .int .i64 0]) ∧ Rd w' A c (cn n) ∧ Ext w w'
theorem plus_step' {X Y o : List Nat} {i cy : Nat} (hl : o.length = i) (hv : val o + B ^ i * cy = val (X.take i) + val (Y.take i)) :
    val (o ++ [(X.getD i 0 + Y.getD i 0 + cy) % B]) + B ^ (i + 1) * ((X.getD i 0 + Y.getD i 0 + cy) / B) = val (X.take (i + 1)) + val (Y.take (i + 1)) := by
  rw [show val (o ++ [(X.getD i 0 + Y.getD i 0 + cy) % B]) = _ from valb_snoc B o _, hl, val_take_past X i, val_take_past Y i]
  have e := carry_step (X.getD i 0) (Y.getD i 0) cy
  generalize (X.getD i 0 + Y.getD i 0 + cy) / B = q at *
  generalize (X.getD i 0 + Y.getD i 0 + cy) % B = r at *
  have e2 : B ^ i * (r + B * q) = B ^ i * (X.getD i 0 + Y.getD i 0 + cy) := by rw [e]
  rw [Nat.pow_succ, Nat.mul_assoc]
  simp only [Nat.mul_add] at e2
  have hv' : valb B o + B ^ i * cy = val (X.take i) + val (Y.take i) := hv
  show valb B o + _ + _ = _
  omega
set_option maxHeartbeats 4000000 in
set_option maxRecDepth 100000 in
theorem naddcore_c (sw : Bool) (A A' : Option Addr) (c c' : Nat) (X Y : List Nat) (w : World) (h : Rd w A c X) (h' : Rd w A' c' Y) (hle : Y.length ≤ X.length) (hsw : sw = true → Y.length < X.length) (hs : X.length ≤ 1000000) :
    Calls Tryz.prog 152 (if sw = true then #[.slice A' Y.length c', .slice A X.length c] else #[.slice A X.length c, .slice A' Y.length c']) w (NatS w (val X + val Y)) := by
  obtain ⟨V, hV⟩ : ∃ V, val X + val Y = V := ⟨_, rfl⟩
  rw [hV]
  have HVV := Lib.hid hV
  clear hV
  have hd0 : sw = true → decide ((Y.length : Int) < (X.length : Int)) = true := fun e => by rw [decide_eq_true_iff]; have := hsw e; omega
  have hd1 : sw = false → decide ((X.length : Int) < (Y.length : Int)) = false := fun e => by rw [decide_eq_false_iff_not]; omega
  cases sw
  all_goals
    simp only [if_true, if_false, Bool.false_eq_true, true_implies, reduceCtorEq, false_implies] at hd0 hd1 ⊢
    go_enter Tryz.func152, Tryz.ntmps152
    go_wp2_with (at_make; refine wp_make0 rfl _ _ _ rfl Tryz.underlying27 (X.length + 1) _ rfl rfl (by simp) (by omega) ?_; intro v0 w1 ho1 hb1)
    have HO := Lib.hid ho1
    have HB := Lib.hid hb1
    clear ho1 hb1 hd0 hd1 hsw
    go_loopw [5, 6, 24] (fun v5 v6 v24 wr => ∃ (i cy : Nat) (o : List Nat), i ≤ X.length ∧ v24 = .int .i64 i ∧ v6 = .int .u64 cy ∧ cy ≤ 1 ∧ o.length = i ∧ val o + B ^ i * cy = val (X.take i) + val (Y.take i) ∧ Own wr w.heap.size v5 o ∧ Ext w wr) (fun _ _ v _ => X.length - (intOf v).toNat)
    case atStart => exact ⟨0, 0, [], Nat.zero_le _, rfl, rfl, by omega, rfl, by simp [val, valb], HO.out, HB.out⟩
    case round =>
      clear HO HB
      obtain ⟨i, cy, o, hi, rfl, rfl, hcy, hol, hv, hO, hE⟩ := hrel
      by_cases hlt : i < X.length
      · obtain ⟨adx, rfl, hx⟩ := h.cell i hlt
        have hx1 := hE.cell hx
        have hst := plus_step' (X := X) (Y := Y) hol hv
        have hdB := mod_B_lt (X.getD i 0 + Y.getD i 0 + cy)
        have hcl := carry_le (h.w64.get i) (h'.w64.get i) hcy
        have ha := run_a64 (X.getD i 0) (Y.getD i 0) cy hcy
        have HST := Lib.hid (And.intro hst (And.intro hol hcl))
        have HO := Lib.hid hO
        have HE := Lib.hid hE
        have hol2 : o.length ≤ 1000000 := by omega
        clear hst hol hv hcl hx
        obtain ⟨y, hyy⟩ : ∃ y, Y.getD i 0 = y := ⟨_, rfl⟩
        have hyc : ∀ hl2 : i < Y.length, ∃ ady, A' = some ady ∧ wr.cell? (ady.add i) = some (.int .u64 (y : Int)) := fun hl2 => by
          obtain ⟨ady, e, hy⟩ := h'.cell i hl2
          rw [hyy] at hy
          exact ⟨ady, e, hE.cell hy⟩
        have hy0 : ¬ i < Y.length → y = 0 := fun hl2 => by rw [← hyy, List.getD_eq_getElem?_getD, List.getElem?_eq_none (by omega)]; rfl
        rw [hyy] at ha hdB HST
        generalize X.getD i 0 = x at *
        clear hyy hO
        by_cases hlt2 : i < Y.length
        · obtain ⟨ady, rfl, hy⟩ := hyc hlt2
          clear hyc hy0 hE
          generalize hd : (x + y + cy) % B = d at *
          generalize hq : (x + y + cy) / B = q at *
          clear hd hq
          go_wp2_with (first
            | simp only [ha]
            | (at_builtin; refine wp_append rfl _ _ _ rfl Tryz.underlying27 w.heap.size _ o rfl (HO.out.ext ((Ext.refl _).al _)) (some ⟨wr.heap.size, 0, none⟩) 1 1 [d] rfl rfl (Rd.new1 wr d hdB) ?hb ?hl ?_; (case hb => have := HE.out.size; simp; omega); (case hl => simp; omega); intro v' w4 ho4 hb4 hat hg4; have hE4 : Ext w w4 := (HE.out.al _).trans hb4; clear hat hg4))
          go_roundw
          case rel => exact ⟨i + 1, q, _, hlt, by go_num, rfl, HST.out.2.2, by rw [List.length_append, HST.out.2.1]; rfl, HST.out.1, ho4, hE4⟩
          case measure => simp [intOf]; omega
        · obtain rfl := hy0 hlt2
          have ha0 : ∀ w, (callFunc 123 #[.int .u64 (x : Int), .int .u64 0, .int .u64 (cy : Int)]).run Tryz.prog w = _ := ha
          clear ha hyc hy0 hE
          generalize hd : (x + 0 + cy) % B = d at *
          generalize hq : (x + 0 + cy) / B = q at *
          clear hd hq
          go_wp2_with (first
            | simp only [ha0]
            | (at_builtin; refine wp_append rfl _ _ _ rfl Tryz.underlying27 w.heap.size _ o rfl (HO.out.ext ((Ext.refl _).al _)) (some ⟨wr.heap.size, 0, none⟩) 1 1 [d] rfl rfl (Rd.new1 wr d hdB) ?hb ?hl ?_; (case hb => have := HE.out.size; simp; omega); (case hl => simp; omega); intro v' w4 ho4 hb4 hat hg4; have hE4 : Ext w w4 := (HE.out.al _).trans hb4; clear hat hg4))
          go_roundw
          case rel => exact ⟨i + 1, q, _, hlt, by go_num, rfl, HST.out.2.2, by rw [List.length_append, HST.out.2.1]; rfl, HST.out.1, ho4, hE4⟩
          case measure => simp [intOf]; omega
      · obtain rfl : i = X.length := by omega
        rw [List.take_length, List.take_of_length_le hle] at hv
        have hcB : cy < B := by have := two_le_B; omega
        have hval : val (o ++ [cy]) = V := by
          rw [show val (o ++ [cy]) = _ from valb_snoc B o cy, hol, ← HVV.out, ← hv]
        have HVL := Lib.hid hval
        have hol2 : o.length ≤ 1000000 := by omega
        have HO := Lib.hid hO
        have HE := Lib.hid hE
        clear hval hol hv hO hE
        go_wp2_with (at_builtin; refine wp_append rfl _ _ _ rfl Tryz.underlying27 w.heap.size _ o rfl (HO.out.ext ((Ext.refl _).al _)) (some ⟨wr.heap.size, 0, none⟩) 1 1 [cy] rfl rfl (Rd.new1 wr cy hcB) ?hb ?hl ?_; (case hb => have := HE.out.size; simp; omega); (case hl => simp; omega); intro v' w4 ho4 hb4 hat hg4; have hE4 : Ext w w4 := (HE.out.al _).trans hb4; clear hat hg4 hb4; obtain ⟨A4, c4, rfl, hr4⟩ := ho4.rd; generalize hxs : o ++ [cy] = zs at *)
        have ht := ntrim_cn A4 c4 zs w4 hr4
        have hcv := hr4.cnv
        rw [HVL.out] at ht hcv
        refine ht.mono ?_
        rintro z w5 ⟨rfl, n5, rfl⟩
        go_wp2
        go_ret
        exact ⟨_, _, rfl, hcv.drewN n5, hE4.drewN n5⟩
theorem nadd_c (A A' : Option Addr) (c c' : Nat) (xs ys : List Nat) (w : World) (h : Rd w A c xs) (h' : Rd w A' c' ys) (hs : xs.length ≤ 1000000) (hs' : ys.length ≤ 1000000) :
    Calls Tryz.prog 152 #[.slice A xs.length c, .slice A' ys.length c'] w (NatS w (val xs + val ys)) := by
  rcases Nat.lt_or_ge xs.length ys.length with hlt | hge
  · have := naddcore_c true A' A c' c ys xs w h' h (by omega) (fun _ => hlt) hs'
    rwa [if_pos rfl, Nat.add_comm] at this
  · have := naddcore_c false A A' c c' xs ys w h h' hge (by simp) hs
    rwa [if_neg (by simp)] at this
set_option maxHeartbeats 1000000 in
set_option maxRecDepth 100000 in
theorem nfit_c (A : Option Addr) (c : Nat) (n : Nat) (w : World) (h : Rd w A c (cn n)) (hl : (cn n).length ≤ 4096) : Calls Tryz.prog 151 #[.slice A (cn n).length c] w (NatSE w n) := by
  have ht := ntrim_cn A c (cn n) w h
  rw [val_cn] at ht
  have hd : decide ((4096 : Int) < ((cn n).length : Int)) = false := by rw [decide_eq_false_iff_not]; omega
  unfold NatSE
  generalize cn n = X at *
  go_enter Tryz.func151, Tryz.ntmps151
  go_wp2_with fail
  refine ht.mono ?_
  rintro z w5 ⟨rfl, n5, rfl⟩
  go_wp2
  go_ret2
  exact ⟨_, _, rfl, h.drewN n5, (Ext.refl w).drewN n5⟩
set_option maxHeartbeats 1000000 in
set_option maxRecDepth 100000 in
theorem nAdd_c (A A' : Option Addr) (c c' : Nat) (xs ys : List Nat) (w : World) (h : Rd w A c xs) (h' : Rd w A' c' ys) (hs : xs.length ≤ 4096) (hs' : ys.length ≤ 4096) (hf : (cn (val xs + val ys)).length ≤ 4096) :
    Calls Tryz.prog 127 #[.slice A xs.length c, .slice A' ys.length c'] w (NatSE w (val xs + val ys)) := by
  have hS := SlN.two w 27 A A' xs.length c ys.length c' hs hs'
  have hlg := nlarge_c (some ⟨w.heap.size, 0, none⟩) 2 2 _ (by omega) hS
  have hA := (Ext.refl w).al (.cells #[.slice A xs.length c, .slice A' ys.length c'] 27)
  have had := fun w h h' => nadd_c A A' c c' xs ys w h h' (by omega) (by omega)
  have hfi := fun A c w h => nfit_c A c (val xs + val ys) w h hf
  unfold NatSE at hfi ⊢
  generalize val xs + val ys = V at *
  clear hS
  go_enter Tryz.func127, Tryz.ntmps127
  go_wp2_with fail
  generalize w.alloc (.cells #[.slice A xs.length c, .slice A' ys.length c'] 27) = W at *
  refine hlg.mono ?_
  rintro z w2 ⟨rfl, rfl⟩
  go_wp2_with fail
  refine (had _ (h.ext hA) (h'.ext hA)).mono ?_
  rintro z w3 ⟨A3, c3, rfl, hr3, hb3⟩
  go_wp2_with fail
  refine (hfi _ _ _ hr3).mono ?_
  rintro z w4 ⟨A4, c4, rfl, hr4, hb4⟩
  go_wp2
  go_ret2
  exact ⟨_, _, rfl, hr4, (hA.tr hb3).tr hb4⟩
section
variable {ops : Array Oper} {rest : List Oper} {o : Oper} {a : Act} {Q : Exit → Act → World → Prop} {w : World}
/-- 'copy(z, y)' into a new row of zeros. -/
theorem wp_copyz (hg : o.guard = none) (d s : Operand) (t t' : TypeId) (hop : o.op = .call { callee := .builtin .copy, args := #[d, s], argTypes := #[t, t'] }) (ht : Tryz.prog.underlying t = some (.slice 60)) (g n : Nat) (hd : a.eval d = .slice (some ⟨g, 0, none⟩) n n)
    (hb : Bk w g (List.replicate n 0)) (A : Option Addr) (m c : Nat) (ys : List Nat) (hm : ys.length = m) (hs : a.eval s = .slice A m c) (hr : Rd w A c ys) (hle : ys.length ≤ n) (base : Nat) (hbase : base ≤ g)
    (hK : ∀ w', Bk w' g (ys ++ List.replicate (n - ys.length) 0) → Below base w w' → wpList Tryz.prog ops Q rest (a.put o.dst (goInt ys.length)) w') :
    wpList Tryz.prog ops Q (o :: rest) a w := by
  subst hm
  obtain ⟨i, h2, h3, h4, h5⟩ := info_parts info64
  have el : (enc ys).length = ys.length := enc_len ys
  refine wpList_copy_splice (B := base) (w0 := w) hg d s t t' hop 60 ht (by rw [h2]; simp [h4]) (some ⟨g, 0, none⟩) A n n ys.length c hd hs g 0 (enc (List.replicate n 0)) 60 hb.h (enc ys) (by rw [el]; exact (Nat.min_eq_left hle).symm) ?_ (by rw [enc_len, enc_len]; simp; omega) (enc_one ys) (Below.refl _ _) hbase ?_
  · intro hp
    rw [el] at hp
    obtain ⟨ad, rfl⟩ := hr.addr hp
    refine ⟨rfl, ad, rfl, fun j v hj => ?_⟩
    have hjl : j < ys.length := by have := (List.getElem?_eq_some_iff.1 hj).1; rwa [el] at this
    rw [enc_get ys j hjl] at hj
    rw [← hj]
    exact hr.get j hjl
  · intro w' hw' hbl
    rw [el]
    refine hK w' ⟨?_, ?_⟩ hbl
    · have h1 := hw'.out
      have e : splice (enc (List.replicate n 0)) 0 (enc ys) = enc (ys ++ List.replicate (n - ys.length) 0) := by
        unfold splice
        rw [List.take_zero, List.nil_append, el, Nat.zero_add]
        simp [enc, List.map_append, List.map_replicate]
      rw [e] at h1
      exact h1
    · intro x hx
      rcases List.mem_append.1 hx with h1 | h1
      · exact hr.w64 x h1
      · rw [List.eq_of_mem_replicate h1]; exact B_pos
end
set_option maxHeartbeats 2000000 in
set_option maxRecDepth 100000 in
theorem nSub_c (A A' : Option Addr) (c c' : Nat) (xs ys : List Nat) (w : World) (h : Rd w A c xs) (h' : Rd w A' c' ys) (hle : val ys ≤ val xs) (hs : xs.length ≤ 4096) (hs' : ys.length ≤ 4096) :
    Calls Tryz.prog 129 #[.slice A xs.length c, .slice A' ys.length c'] w (NatSE w (val xs - val ys)) := by
  have hS := SlN.two w 27 A A' xs.length c ys.length c' hs hs'
  have hlg := nlarge_c (some ⟨w.heap.size, 0, none⟩) 2 2 _ (by omega) hS
  have hA := (Ext.refl w).al (.cells #[.slice A xs.length c, .slice A' ys.length c'] 27)
  have t1 := fun w h => ntrim_cn A c xs w h
  have t2 := fun w h => ntrim_cn A' c' ys w h
  have hcm := fun w h h' => ncompare_c A A' c c' (val xs) (val ys) w h h'
  have rx := h.cnv
  have ry := h'.cnv
  have hxl : (cn (val xs)).length ≤ 4096 := Nat.le_trans (cn_val_le h.w64) hs
  have hlen := cn_len_mono hle
  have e1 := val_cn (val xs)
  have e2 := val_cn (val ys)
  have hc0 : ¬ cmp3 (val xs) (val ys) < 0 := by
    rcases Nat.eq_or_lt_of_le hle with e | e
    · rw [cmp3_eq e.symm]; omega
    · rw [cmp3_gt e]; omega
  unfold NatSE
  generalize val xs = m at *
  generalize val ys = n at *
  generalize cmp3 m n = k at *
  have hdk : decide (k < 0) = false := by rw [decide_eq_false_iff_not]; exact hc0
  have hws := fun (A2 : Option Addr) (c2 : Nat) w h h' => wsub_c A A2 c c2 (cn m) (cn n ++ List.replicate ((cn m).length - (cn n).length) 0) w h h' (by simp; omega) hxl
  have hE1 := Lib.hid (show val (cn n ++ List.replicate ((cn m).length - (cn n).length) 0) = n by rw [show val (cn n ++ List.replicate ((cn m).length - (cn n).length) 0) = val (cn n) from valb_pad B (cn n) _, e2])
  have hE2 := Lib.hid e1
  have hlz : (cn n ++ List.replicate ((cn m).length - (cn n).length) 0).length = (cn m).length := by simp; omega
  have HLZ := Lib.hid hlz
  clear hS e1 e2 hc0 hlz
  obtain ⟨D, hD⟩ : ∃ D, m - n = D := ⟨_, rfl⟩
  rw [hD]
  have HD := Lib.hid hD
  have HLE := Lib.hid hle
  clear hD hle
  generalize cn m = X at *
  generalize hZ : cn n ++ List.replicate (X.length - (cn n).length) 0 = Z at *
  have HZ := Lib.hid hZ
  clear hZ
  generalize cn n = Y at *
  go_enter Tryz.func129, Tryz.ntmps129
  go_wp2_with fail
  generalize w.alloc (.cells #[.slice A xs.length c, .slice A' ys.length c'] 27) = W at *
  refine hlg.mono ?_
  rintro z w2 ⟨rfl, rfl⟩
  go_wp2_with fail
  refine (t1 _ (h.ext hA)).mono ?_
  rintro z w2 ⟨rfl, n2, rfl⟩
  have hAd := fun q => hA.drewN q
  go_wp2_with fail
  refine (t2 _ (h'.ext (hAd _))).mono ?_
  rintro z w3 ⟨rfl, n3, rfl⟩
  go_wp2_with fail
  refine (hcm _ (rx.ext (hAd _)) (ry.ext (hAd _))).mono ?_
  rintro z w4 ⟨rfl, n4, rfl⟩
  have hE4 := hAd (n2 + n3 + n4)
  have ryw := ry.ext hE4
  have rxw := rx.ext hE4
  go_wp2_with (first
    | (at_make; refine wp_make rfl _ _ _ rfl Tryz.underlying27 X.length _ rfl rfl rfl (by omega) ?_; intro g w5 hg hbk hb5)
    | (with_reducible refine wp_copyz rfl (.tmp 25) (.tmp 26) 27 27 rfl Tryz.underlying27 g X.length rfl hbk A' Y.length c' Y rfl rfl (ryw.ext hb5) hlen (W.drewN (n2 + n3 + n4)).heap.size hg ?_; intro w6 hb6 hbl6; have hE6 : Ext (W.drewN (n2 + n3 + n4)) w6 := hb5.trans hbl6; rw [HZ.out] at hb6; clear hbl6 hbk))
  have hrz : Rd w6 (some ⟨g, 0, none⟩) X.length Z := hb6.rd (by rw [HLZ.out]; omega) (by rw [HLZ.out]; omega)
  refine (hws _ _ _ (rxw.ext hE6) hrz).mono ?_
  rintro z w7 ⟨v, o, bw, rfl, q1, q2, q3, ho7, hb7⟩
  obtain ⟨A7, c7, rfl, hr7⟩ := ho7.rd
  have hvo : val o = D := by
    have hlt := val_lt hr7.w64
    rw [q1] at hlt
    rw [hE1.out, hE2.out] at q3
    have h1 := HLE.out
    have h2 := HD.out
    rcases Nat.eq_zero_or_pos bw with hz | hz
    · rw [hz, Nat.mul_zero] at q3; omega
    · rw [show bw = 1 by omega, Nat.mul_one] at q3
      have hX2 := val_lt rxw.w64
      rw [hE2.out] at hX2
      omega
  have ht := ntrim_cn A7 c7 o w7 hr7
  have hcv := hr7.cnv
  rw [hvo] at ht hcv
  clear q1 q2 q3 hvo hws
  go_wp2_with fail
  refine ht.mono ?_
  rintro z w8 ⟨rfl, n8, rfl⟩
  go_wp2
  go_ret2
  exact ⟨_, _, rfl, hcv.drewN n8, ((hE4.tr hE6).tr hb7).drewN n8⟩
end Go.Proofs.YtehlmacgjlgjaaaGreatDoor
