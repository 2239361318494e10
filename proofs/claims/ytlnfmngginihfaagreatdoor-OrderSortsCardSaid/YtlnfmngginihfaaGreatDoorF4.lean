/- package format: Check, Range, Width, large. package format: canonical. package format: canonical, the other kinds. package format: holds. -/
import Derived.Test.YtlnfmngginihfaaGreatDoorW7
import Derived.StillTailTactics
import Derived.Deep.DrawnRows
set_option linter.unusedVariables false
set_option linter.unusedSimpArgs false
namespace Go.Proofs.YtlnfmngginihfaaGreatDoor
open Go.RowKit

/-- A right format. -/
def Rgt (k p : Int) : Prop := 2 ≤ k ∧ k ≤ 15 ∧ 2 ≤ p ∧ p ≤ 256
instance (k p : Int) : Decidable (Rgt k p) := by unfold Rgt; infer_instance
def fmtE (k p : Int) : Int := if Rgt k p then 0 else 150
theorem fmtE_yes {k p : Int} (h : Rgt k p) : fmtE k p = 0 := if_pos h
theorem fmtE_no {k p : Int} (h : ¬ Rgt k p) : fmtE k p = 150 := if_neg h
theorem Rgt.no_cases {k p : Int} (h : ¬ Rgt k p) : k < 2 ∨ (2 ≤ k ∧ 15 < k) ∨ (2 ≤ k ∧ k ≤ 15 ∧ p < 2) ∨ (2 ≤ k ∧ k ≤ 15 ∧ 2 ≤ p ∧ 256 < p) := by unfold Rgt at h; omega
set_option maxHeartbeats 1000000 in
theorem check_c (k p : Int) (w : World) : Calls Tryz.prog 41 #[.agg #[.int .i64 k, .int .i64 p]] w fun e w' => e = .returned (.int .i64 (fmtE k p)) ∧ Ext w w' := by
  by_cases h : Rgt k p
  · have HV := Lib.hid (fmtE_yes h)
    obtain ⟨h1, h2, h3, h4⟩ := h
    have b1 : decide (k < 2) = false := by simp; omega
    have b2 : decide (15 < k) = false := by simp; omega
    have b3 : decide (p < 2) = false := by simp; omega
    have b4 : decide (256 < p) = false := by simp; omega
    clear h1 h2 h3 h4
    go_enter Tryz.func41, Tryz.ntmps41
    go_wp2
    go_ret
    exact ⟨by rw [HV.out]; rfl, (Ext.refl w).al _⟩
  · have HV := Lib.hid (fmtE_no h)
    rcases Rgt.no_cases h with h1 | ⟨h1, h2⟩ | ⟨h1, h2, h3⟩ | ⟨h1, h2, h3, h4⟩
    · have b1 : decide (k < 2) = true := by simp; omega
      clear h h1
      go_enter Tryz.func41, Tryz.ntmps41
      go_wp2
      go_ret
      exact ⟨by rw [HV.out]; rfl, (Ext.refl w).al _⟩
    · have b1 : decide (k < 2) = false := by simp; omega
      have b2 : decide (15 < k) = true := by simp; omega
      clear h h1 h2
      go_enter Tryz.func41, Tryz.ntmps41
      go_wp2
      go_ret
      exact ⟨by rw [HV.out]; rfl, (Ext.refl w).al _⟩
    · have b1 : decide (k < 2) = false := by simp; omega
      have b2 : decide (15 < k) = false := by simp; omega
      have b3 : decide (p < 2) = true := by simp; omega
      clear h h1 h2 h3
      go_enter Tryz.func41, Tryz.ntmps41
      go_wp2
      go_ret
      exact ⟨by rw [HV.out]; rfl, (Ext.refl w).al _⟩
    · have b1 : decide (k < 2) = false := by simp; omega
      have b2 : decide (15 < k) = false := by simp; omega
      have b3 : decide (p < 2) = false := by simp; omega
      have b4 : decide (256 < p) = true := by simp; omega
      clear h h1 h2 h3 h4
      go_enter Tryz.func41, Tryz.ntmps41
      go_wp2
      go_ret
      exact ⟨by rw [HV.out]; rfl, (Ext.refl w).al _⟩
/-- The exponents of a right format. -/
def gr (k : Int) : Int := 2 ^ (k.toNat - 1) - 1
def le (k : Int) : Int := 1 - gr k
def ti (k p : Int) : Int := le k - (p - 1)
theorem gr_bd {k : Int} (h1 : 2 ≤ k) (h2 : k ≤ 15) : 1 ≤ gr k ∧ gr k ≤ 16383 := by
  unfold gr
  have h : k.toNat - 1 = 1 ∨ k.toNat - 1 = 2 ∨ k.toNat - 1 = 3 ∨ k.toNat - 1 = 4 ∨ k.toNat - 1 = 5 ∨ k.toNat - 1 = 6 ∨ k.toNat - 1 = 7 ∨ k.toNat - 1 = 8 ∨ k.toNat - 1 = 9 ∨ k.toNat - 1 = 10 ∨ k.toNat - 1 = 11 ∨ k.toNat - 1 = 12 ∨ k.toNat - 1 = 13 ∨ k.toNat - 1 = 14 := by omega
  rcases h with h | h | h | h | h | h | h | h | h | h | h | h | h | h <;> rw [h] <;> decide
set_option maxHeartbeats 1000000 in
theorem range_no (k p : Int) (w : World) (h : ¬ Rgt k p) : Calls Tryz.prog 64 #[.agg #[.int .i64 k, .int .i64 p]] w fun e w' =>
    e = .returned (.tuple #[.int .i64 0, .int .i64 0, .int .i64 0, .int .i64 150]) ∧ Ext w w' := by
  have hc := fun w => check_c k p w
  rw [fmtE_no h] at hc
  clear h
  go_enter Tryz.func64, Tryz.ntmps64
  go_wp2_with (go_at_call 41; refine (hc _).mono ?_; rintro e w1 ⟨rfl, hb⟩)
  refine bodyPost_ret (v := .tuple #[.int .i64 0, .int .i64 0, .int .i64 0, .int .i64 150]) (by simp [results, Tryz.results64, go_sem]) rfl ⟨rfl, ((Ext.refl w).al _).tr hb⟩
set_option maxHeartbeats 1000000 in
theorem range_yes (k p : Int) (w : World) (h : Rgt k p) : Calls Tryz.prog 64 #[.agg #[.int .i64 k, .int .i64 p]] w fun e w' =>
    e = .returned (.tuple #[.int .i64 (le k), .int .i64 (gr k), .int .i64 (ti k p), .int .i64 0]) ∧ Ext w w' := by
  have hc := fun w => check_c k p w
  rw [fmtE_yes h] at hc
  obtain ⟨h1, h2, h3, h4⟩ := h
  have hg := gr_bd h1 h2
  obtain ⟨n, rfl⟩ := Int.eq_ofNat_of_zero_le (show 0 ≤ k by omega)
  obtain ⟨g, hgd⟩ : ∃ g, gr (n : Int) = g := ⟨_, rfl⟩
  have hsh : (2 : Int) ^ (n - 1) = g + 1 := by rw [← hgd]; unfold gr; rw [Int.toNat_natCast]; omega
  have HT := Lib.hid (show ti (n : Int) p = 1 - g - (p - 1) by unfold ti le; rw [hgd])
  have HL := Lib.hid (show le (n : Int) = 1 - g by unfold le; rw [hgd])
  rw [hgd] at hg
  have HG := Lib.hid hgd
  obtain ⟨hg1, hg2⟩ := hg
  clear hgd
  go_enter Tryz.func64, Tryz.ntmps64
  go_wp2_with (go_at_call 41; refine (hc _).mono ?_; rintro e w1 ⟨rfl, hb⟩; obtain ⟨hc1, hf1⟩ := hb.rules)
  go_quiet (fail)
  go_wp2
  refine bodyPost_ret (v := .tuple #[.int .i64 (1 - g), .int .i64 g, .int .i64 (1 - g - (p - 1)), .int .i64 0]) (by simp [results, Tryz.results64, go_sem]) rfl ⟨by rw [HT.out, HL.out, HG.out], (((Ext.refl w).al _).tr hb).drewN _⟩
/-- A float as the program has it. -/
abbrev flV (k : Int) (neg : Bool) (e : Int) (v : Value) : Value := .agg #[.int .i64 k, .bool neg, .int .i64 e, v]
set_option maxHeartbeats 1000000 in
theorem large_c (k e : Int) (neg : Bool) (A : Option Addr) (n c : Nat) (w : World) : Calls Tryz.prog 40 #[flV k neg e (.slice A n c)] w fun e w' => e = .returned (.bool (decide (4096 < n))) ∧ Ext w w' := by
  go_enter Tryz.func40, Tryz.ntmps40
  go_wp2
  go_ret
  exact ⟨congrArg (fun b => Ending.returned (.bool b)) (by rw [decide_eq_decide]; omega), (Ext.refl w).al _⟩
end Go.Proofs.YtlnfmngginihfaaGreatDoor
namespace Go.Proofs.YtlnfmngginihfaaGreatDoor
open Go.RowKit
attribute [local go_sem ↓] Go.wp_at_zero Go.wp_at_succ

/-- A canonical float. -/
structure Fl where
  kind : Int
  neg : Bool
  exp : Int
  mag : Nat
/-- The canonical float of a right one. -/
def canon (k : Int) (neg : Bool) (e : Int) (m : Nat) : Option Fl :=
  if k = 0 ∨ k = 2 then (if e = 0 ∧ m = 0 then some ⟨k, neg, 0, 0⟩ else none)
  else if k = 3 then (if neg = false ∧ e = 0 ∧ m = 0 then some ⟨3, false, 0, 0⟩ else none)
  else if k = 1 then (if m = 0 ∨ e < -1048576 ∨ 1048576 < e then none else if e + tz m ≤ 1048576 then some ⟨1, neg, e + tz m, m / 2 ^ tz m⟩ else none)
  else none
/-- A value that is a float in new memory. -/
def FlR (w : World) (base : Nat) (f : Fl) (u : Value) : Prop := ∃ v, u = flV f.kind f.neg f.exp v ∧ Own w base v (cn f.mag)
/-- What canonical hands back. -/
def CanR (w : World) (o : Option Fl) (e : Ending) (w' : World) : Prop :=
  ∃ u, e = .returned (.tuple #[u, .bool o.isSome]) ∧ Ext w w' ∧ (∀ f, o = some f → FlR w' w.heap.size f u) ∧ ∃ k neg e A n c, u = flV k neg e (.slice A n c)

/-- A box of four cells, known whole. -/
structure Bx (w : World) (g : Nat) (a b c d : Value) : Prop where
  h : w.heap[g]? = some (.cells #[a, b, c, d] 40 (0, 0))
theorem Bx.ext {w w' : World} {g : Nat} {a b c d : Value} (x : Bx w g a b c d) (h : Ext w w') : Bx w' g a b c d := ⟨(h.block g (Array.getElem?_eq_some_iff.1 x.h).1).trans x.h⟩
theorem Bx.drew {w : World} {g : Nat} {a b c d : Value} (x : Bx w g a b c d) : Bx w.drew g a b c d := ⟨x.h⟩
theorem Bx.facts {w : World} {g : Nat} {a b c d : Value} (x : Bx w g a b c d) : w.cell? ⟨g, 0, none⟩ = some a ∧ w.cell? ⟨g, 1, none⟩ = some b ∧ w.cell? ⟨g, 2, none⟩ = some c ∧ w.cell? ⟨g, 3, none⟩ = some d ∧
    (∀ i, w.frozen? ⟨g, i, none⟩ = false) := by
  have h := x.h
  refine ⟨?_, ?_, ?_, ?_, fun i => by simp [World.frozen?, h]⟩ <;> rw [cell_of_row w g _ _ _ _ h] <;> rfl
theorem Bx.new (w : World) (a b c d : Value) : Bx (w.alloc (.cells #[a, b, c, d] 40)) w.heap.size a b c d := ⟨heap_alloc_new w _⟩
theorem Bx.put {w : World} {g : Nat} {a b c d : Value} (x : Bx w g a b c d) (a' b' c' d' : Value) : Bx ((((w.setCell ⟨g, 0, none⟩ a').setCell ⟨g, 1, none⟩ b').setCell ⟨g, 2, none⟩ c').setCell ⟨g, 3, none⟩ d') g a' b' c' d' := by
  have h := x.h
  constructor
  simp [World.setCell, Array.getElem?_modify, h]
theorem Ext.put {w w1 : World} (h : Ext w w1) {g : Nat} (hg : w.heap.size ≤ g) (a b c d : Value) : Ext w ((((w1.setCell ⟨g, 0, none⟩ a).setCell ⟨g, 1, none⟩ b).setCell ⟨g, 2, none⟩ c).setCell ⟨g, 3, none⟩ d) :=
  (((h.set hg 0 a).set hg 1 b).set hg 2 c).set hg 3 d
theorem Own.setBelow {w : World} {base : Nat} {v : Value} {xs : List Nat} (h : Own w base v xs) {a : Addr} (ha : a.block < base) (u : Value) : Own (w.setCell a u) base v xs := ⟨ownsRow_setCell_below h.own ha u, h.w64⟩
theorem Own.putBelow {w : World} {base : Nat} {v : Value} {xs : List Nat} (h : Own w base v xs) {g : Nat} (hg : g < base) (a b c d : Value) : Own ((((w.setCell ⟨g, 0, none⟩ a).setCell ⟨g, 1, none⟩ b).setCell ⟨g, 2, none⟩ c).setCell ⟨g, 3, none⟩ d) base v xs :=
  (((h.setBelow (a := ⟨g, 0, none⟩) hg a).setBelow (a := ⟨g, 1, none⟩) hg b).setBelow (a := ⟨g, 2, none⟩) hg c).setBelow (a := ⟨g, 3, none⟩) hg d
theorem Bx.lt {w : World} {g : Nat} {a b c d : Value} (x : Bx w g a b c d) : g < w.heap.size := (Array.getElem?_eq_some_iff.1 x.h).1
theorem tz_le_bl (n : Nat) : tz n ≤ bl n := by
  rcases Nat.eq_zero_or_pos n with rfl | h
  · rw [tz_zero]; omega
  · have := tz_lt_bl n h; omega
theorem bl_val_le {xs : List Nat} (h : W64 xs) : bl (val xs) ≤ 64 * xs.length := by
  refine (bl_le _ _).2 ?_
  have := val_lt h
  rwa [B_two, ← Nat.pow_mul] at this
set_option maxHeartbeats 4000000 in
set_option maxRecDepth 100000 in
theorem canonical_fin (neg : Bool) (e : Int) (A : Option Addr) (c : Nat) (xs : List Nat) (w : World) (hT : Tab w) (h : Rd w A c xs) (hl : xs.length ≤ 10000000) (h0 : val xs ≠ 0) (he1 : -1048576 ≤ e) (he2 : e ≤ 1048576) :
    Calls Tryz.prog 63 #[flV 1 neg e (.slice A xs.length c)] w (CanR w (canon 1 neg e (val xs))) := by
  have hz := fun w h => zero_c A c xs w h
  rw [show decide (val xs = 0) = false by simpa using h0] at hz
  have b1 : decide (e < -1048576) = false := by simp; omega
  have b2 : decide (1048576 < e) = false := by simp; omega
  have htb := tz_le_bl (val xs)
  have hbl := bl_val_le h.w64
  have hwr : IntKind.i64.wrap (e + (tz (val xs) : Int)) = e + tz (val xs) := by rw [IntKind.wrap_i64]; omega
  go_enter Tryz.func63, Tryz.ntmps63
  go_wp2_with (first
    | (go_at_call 74; refine (hz _ (h.ext ?_)).mono ?_; (exact ((Ext.refl w).al _).al _); rintro e w1 ⟨rfl, n, rfl⟩)
    | (go_at_call 92; refine (trailing_c A c xs _ (h.ext ?_) (by omega) (hT.ext ?_)).mono ?_; (exact (((Ext.refl w).al _).al _).drewN n); (exact (((Ext.refl w).al _).al _).drewN n); rintro e w1 ⟨rfl, n2, rfl⟩))
  have hE : Ext w (((w.alloc (Obj.cells #[Value.int IntKind.i64 1, Value.bool neg, Value.int IntKind.i64 e, Value.slice A xs.length c] 40)).alloc (Obj.cells #[Value.int IntKind.i64 0, Value.bool false, Value.int IntKind.i64 0, Value.slice none 0 0] 40)).drewN (n + n2)) := (((Ext.refl w).al _).al _).drewN _
  have hx1 := ((Bx.new w (.int .i64 1) (.bool neg) (.int .i64 e) (.slice A xs.length c)).ext ((Ext.refl _).al (.cells #[.int .i64 0, .bool false, .int .i64 0, .slice none 0 0] 40))).ext ((Ext.refl _).drewN (n + n2))
  have hx2 := (Bx.new (w.alloc (.cells #[.int .i64 1, .bool neg, .int .i64 e, .slice A xs.length c] 40)) (.int .i64 0) (.bool false) (.int .i64 0) (.slice none 0 0)).ext ((Ext.refl _).drewN (n + n2))
  rw [World.size_alloc] at hx2
  generalize ((w.alloc (Obj.cells #[Value.int IntKind.i64 1, Value.bool neg, Value.int IntKind.i64 e, Value.slice A xs.length c] 40)).alloc (Obj.cells #[Value.int IntKind.i64 0, Value.bool false, Value.int IntKind.i64 0, Value.slice none 0 0] 40)).drewN (n + n2) = W at *
  have hrd := h.ext hE
  obtain ⟨-, c1, c2, c3, -⟩ := hx1.facts
  go_region_held3 (fun w' => w'.cell? ⟨w.heap.size, 1, none⟩ = some (.bool neg) ∧ w'.cell? ⟨w.heap.size, 2, none⟩ = some (.int .i64 e) ∧ w'.cell? ⟨w.heap.size, 3, none⟩ = some (.slice A xs.length c))
    (first | go_keep | (go_split_ands; refine ⟨?_, ?_, ?_⟩ <;> (refine Ext.cell (by assumption) ?_; assumption)))
    (first | (go_at_call 73; refine (shr_c A c xs (tz (val xs)) _ (hrd.drew) (by omega) (by omega)).mono ?_; rintro e w1 ⟨v, rfl, ho, hb1⟩; obtain ⟨A2, c2, rfl, hr2⟩ := ho.rd; obtain ⟨d0, d1, d2, d3, hf⟩ := (hx2.drew.ext hb1).facts))
  go_wp2
  obtain ⟨q0, q1, q2, q3, -⟩ := ((hx2.drew.ext hb1).put (.int .i64 1) (.bool neg) (.int .i64 (e + tz (val xs))) (.slice A2 (cn (val xs / 2 ^ tz (val xs))).length c2)).facts
  refine bodyPost_ret (v := .tuple #[flV 1 neg (e + tz (val xs)) (.slice A2 (cn (val xs / 2 ^ tz (val xs))).length c2), .bool (decide (e + tz (val xs) ≤ 1048576))]) (by simp [results, Tryz.results63, go_sem, q0, q1, q2, q3]) rfl ?_
  have hlt := hx2.lt
  have hfin := (ho.putBelow (g := w.heap.size + 1) hlt (.int .i64 1) (.bool neg) (.int .i64 (e + tz (val xs))) (.slice A2 (cn (val xs / 2 ^ tz (val xs))).length c2)).low (show w.heap.size ≤ W.drew.heap.size from hE.size)
  have hcan : canon 1 neg e (val xs) = if e + tz (val xs) ≤ 1048576 then some ⟨1, neg, e + tz (val xs), val xs / 2 ^ tz (val xs)⟩ else none := by
    unfold canon
    rw [if_neg (by omega), if_neg (by omega), if_pos rfl, if_neg (by omega)]
  refine ⟨flV 1 neg (e + tz (val xs)) (.slice A2 (cn (val xs / 2 ^ tz (val xs))).length c2), ?_, (hE.tr ((Ext.refl W).drew.tr hb1)).put (by omega) _ _ _ _, fun f hf => ?_, 1, neg, _, _, _, _, rfl⟩
  · rw [hcan]; split
    · rename_i hh; rw [decide_eq_true hh]; rfl
    · rename_i hh; rw [decide_eq_false hh]; rfl
  · rw [hcan] at hf
    split at hf
    · obtain rfl := Option.some.inj hf
      exact ⟨_, rfl, hfin⟩
    · cases hf
end Go.Proofs.YtlnfmngginihfaaGreatDoor
namespace Go.Proofs.YtlnfmngginihfaaGreatDoor
open Go.RowKit
attribute [local go_sem ↓] Go.wp_at_zero Go.wp_at_succ

theorem CanR.bad {w W : World} (hE : Ext w W) (k' e' : Int) (neg' : Bool) (A : Option Addr) (n c : Nat) : CanR w none (.returned (.tuple #[flV k' neg' e' (.slice A n c), .bool false])) W :=
  ⟨_, rfl, hE, fun f h => (by cases h), _, _, _, _, _, _, rfl⟩
theorem CanR.good {w W : World} (hE : Ext w W) (k' : Int) (neg' : Bool) : CanR w (some ⟨k', neg', 0, 0⟩) (.returned (.tuple #[flV k' neg' 0 (.slice none 0 0), .bool true])) W :=
  ⟨_, rfl, hE, fun f h => (by obtain rfl := Option.some.inj h; exact ⟨_, rfl, by rw [show cn 0 = [] from digs_zero B]; exact Own.nil _ _⟩), _, _, _, _, _, _, rfl⟩
set_option maxHeartbeats 4000000 in
set_option maxRecDepth 100000 in
/-- A kind that is none. -/
theorem canonical_else (k : Int) (neg : Bool) (e : Int) (A : Option Addr) (c n : Nat) (m : Nat) (w : World) (h0 : k ≠ 0) (h1 : k ≠ 1) (h2 : k ≠ 2) (h3 : k ≠ 3) :
    Calls Tryz.prog 63 #[flV k neg e (.slice A n c)] w (CanR w (canon k neg e m)) := by
  have b0 : (k == 0) = false := by simpa using h0
  have b1 : (k == 1) = false := by simpa using h1
  have b2 : (k == 2) = false := by simpa using h2
  have b3 : (k == 3) = false := by simpa using h3
  have hcan : canon k neg e m = none := by
    unfold canon
    rw [if_neg (by omega), if_neg h3, if_neg h1]
  have HC := Lib.hid hcan
  clear hcan h0 h1 h2 h3
  go_enter Tryz.func63, Tryz.ntmps63
  go_wp2
  refine bodyPost_ret (v := .tuple #[flV 0 false 0 (.slice none 0 0), .bool false]) (by simp [results, Tryz.results63, go_sem]) rfl ?_
  rw [HC.out]
  exact CanR.bad (by repeat (with_reducible first | exact Ext.refl _ | refine Ext.set ?_ (by simp) _ _ | refine Ext.al ?_ _ | refine Ext.drewN ?_ _ | refine Ext.drew ?_)) _ _ _ _ _ _
set_option maxHeartbeats 4000000 in
set_option maxRecDepth 100000 in
theorem canonical_bad (neg : Bool) (e : Int) (A : Option Addr) (c : Nat) (xs : List Nat) (w : World) (h : Rd w A c xs) (hb : val xs = 0 ∨ e < -1048576 ∨ 1048576 < e) :
    Calls Tryz.prog 63 #[flV 1 neg e (.slice A xs.length c)] w (CanR w (canon 1 neg e (val xs))) := by
  have hz := fun w h => zero_c A c xs w h
  have hcan : canon 1 neg e (val xs) = none := by
    unfold canon
    rw [if_neg (by omega), if_neg (by omega), if_pos rfl, if_pos hb]
  have HC := Lib.hid hcan
  clear hcan
  rcases Nat.eq_zero_or_pos (val xs) with h0 | h0
  · rw [show decide (val xs = 0) = true by simpa using h0] at hz
    clear hb h0
    go_enter Tryz.func63, Tryz.ntmps63
    go_wp2_with (go_at_call 74; refine (hz _ (h.ext ?_)).mono ?_; (exact ((Ext.refl w).al _).al _); rintro e w1 ⟨rfl, n, rfl⟩)
    refine bodyPost_ret (v := .tuple #[flV 0 false 0 (.slice none 0 0), .bool false]) (by simp [results, Tryz.results63, go_sem]) rfl ?_
    rw [HC.out]
    exact CanR.bad (by repeat (with_reducible first | exact Ext.refl _ | refine Ext.set ?_ (by simp) _ _ | refine Ext.al ?_ _ | refine Ext.drewN ?_ _ | refine Ext.drew ?_)) _ _ _ _ _ _
  · rw [show decide (val xs = 0) = false by simp; omega] at hz
    rcases (show e < -1048576 ∨ (¬ e < -1048576 ∧ 1048576 < e) by omega) with he | ⟨he, he2⟩
    · have b1 : decide (e < -1048576) = true := by simpa using he
      clear hb h0 he
      go_enter Tryz.func63, Tryz.ntmps63
      go_wp2_with (go_at_call 74; refine (hz _ (h.ext ?_)).mono ?_; (exact ((Ext.refl w).al _).al _); rintro e w1 ⟨rfl, n, rfl⟩)
      refine bodyPost_ret (v := .tuple #[flV 0 false 0 (.slice none 0 0), .bool false]) (by simp [results, Tryz.results63, go_sem]) rfl ?_
      rw [HC.out]
      exact CanR.bad (by repeat (with_reducible first | exact Ext.refl _ | refine Ext.set ?_ (by simp) _ _ | refine Ext.al ?_ _ | refine Ext.drewN ?_ _ | refine Ext.drew ?_)) _ _ _ _ _ _
    · have b1 : decide (e < -1048576) = false := by simpa using he
      have b2 : decide (1048576 < e) = true := by simpa using he2
      clear hb h0 he he2
      go_enter Tryz.func63, Tryz.ntmps63
      go_wp2_with (go_at_call 74; refine (hz _ (h.ext ?_)).mono ?_; (exact ((Ext.refl w).al _).al _); rintro e w1 ⟨rfl, n, rfl⟩)
      refine bodyPost_ret (v := .tuple #[flV 0 false 0 (.slice none 0 0), .bool false]) (by simp [results, Tryz.results63, go_sem]) rfl ?_
      rw [HC.out]
      exact CanR.bad (by repeat (with_reducible first | exact Ext.refl _ | refine Ext.set ?_ (by simp) _ _ | refine Ext.al ?_ _ | refine Ext.drewN ?_ _ | refine Ext.drew ?_)) _ _ _ _ _ _
set_option maxHeartbeats 4000000 in
set_option maxRecDepth 100000 in
/-- NaN. -/
theorem canonical_nan (neg : Bool) (e : Int) (A : Option Addr) (c : Nat) (xs : List Nat) (w : World) (h : Rd w A c xs) :
    Calls Tryz.prog 63 #[flV 3 neg e (.slice A xs.length c)] w (CanR w (canon 3 neg e (val xs))) := by
  have hz := fun w h => zero_c A c xs w h
  have hcan : canon 3 neg e (val xs) = if neg = false ∧ e = 0 ∧ val xs = 0 then some ⟨3, false, 0, 0⟩ else none := by
    unfold canon
    rw [if_neg (by omega), if_pos rfl]
  have HC := Lib.hid hcan
  clear hcan
  cases neg
  · by_cases he : e = 0
    · subst he
      by_cases h0 : val xs = 0
      · rw [show decide (val xs = 0) = true by simpa using h0] at hz
        have H0 := Lib.hid h0
        clear h0
        go_enter Tryz.func63, Tryz.ntmps63
        go_wp2_with (go_at_call 74; refine (hz _ (h.ext ?_)).mono ?_; (exact ((Ext.refl w).al _).al _); rintro e w1 ⟨rfl, n, rfl⟩)
        refine bodyPost_ret (v := .tuple #[flV 3 false 0 (.slice none 0 0), .bool true]) (by simp [results, Tryz.results63, go_sem]) rfl ?_
        rw [HC.out, if_pos (by simpa using H0.out)]
        exact CanR.good (by repeat (with_reducible first | exact Ext.refl _ | refine Ext.set ?_ (by simp) _ _ | refine Ext.al ?_ _ | refine Ext.drewN ?_ _ | refine Ext.drew ?_)) _ _
      · rw [show decide (val xs = 0) = false by simpa using h0] at hz
        have H0 := Lib.hid h0
        clear h0
        go_enter Tryz.func63, Tryz.ntmps63
        go_wp2_with (go_at_call 74; refine (hz _ (h.ext ?_)).mono ?_; (exact ((Ext.refl w).al _).al _); rintro e w1 ⟨rfl, n, rfl⟩)
        refine bodyPost_ret (v := .tuple #[flV 3 false 0 (.slice none 0 0), .bool false]) (by simp [results, Tryz.results63, go_sem]) rfl ?_
        rw [HC.out, if_neg (fun h => H0.out h.2.2)]
        exact CanR.bad (by repeat (with_reducible first | exact Ext.refl _ | refine Ext.set ?_ (by simp) _ _ | refine Ext.al ?_ _ | refine Ext.drewN ?_ _ | refine Ext.drew ?_)) _ _ _ _ _ _
    · have he' : (e == 0) = false := by simpa using he
      have H0 := Lib.hid he
      clear he
      go_enter Tryz.func63, Tryz.ntmps63
      go_wp2
      refine bodyPost_ret (v := .tuple #[flV 3 false 0 (.slice none 0 0), .bool false]) (by simp [results, Tryz.results63, go_sem]) rfl ?_
      rw [HC.out, if_neg (fun h => H0.out h.2.1)]
      exact CanR.bad (by repeat (with_reducible first | exact Ext.refl _ | refine Ext.set ?_ (by simp) _ _ | refine Ext.al ?_ _ | refine Ext.drewN ?_ _ | refine Ext.drew ?_)) _ _ _ _ _ _
  · go_enter Tryz.func63, Tryz.ntmps63
    go_wp2
    refine bodyPost_ret (v := .tuple #[flV 3 false 0 (.slice none 0 0), .bool false]) (by simp [results, Tryz.results63, go_sem]) rfl ?_
    rw [HC.out, if_neg (fun h => by cases h.1)]
    exact CanR.bad (by repeat (with_reducible first | exact Ext.refl _ | refine Ext.set ?_ (by simp) _ _ | refine Ext.al ?_ _ | refine Ext.drewN ?_ _ | refine Ext.drew ?_)) _ _ _ _ _ _
set_option maxHeartbeats 4000000 in
set_option maxRecDepth 100000 in
/-- Zero and Infinite. -/
theorem canonical_zi (k : Int) (hk : k = 0 ∨ k = 2) (neg : Bool) (e : Int) (A : Option Addr) (c : Nat) (xs : List Nat) (w : World) (h : Rd w A c xs) :
    Calls Tryz.prog 63 #[flV k neg e (.slice A xs.length c)] w (CanR w (canon k neg e (val xs))) := by
  have hz := fun w h => zero_c A c xs w h
  have hcan : canon k neg e (val xs) = if e = 0 ∧ val xs = 0 then some ⟨k, neg, 0, 0⟩ else none := by
    unfold canon
    rw [if_pos hk]
  have HC := Lib.hid hcan
  clear hcan
  have hE : Ext w ((w.alloc (Obj.cells #[Value.int IntKind.i64 k, Value.bool neg, Value.int IntKind.i64 e, Value.slice A xs.length c] 40)).alloc (Obj.cells #[Value.int IntKind.i64 0, Value.bool false, Value.int IntKind.i64 0, Value.slice none 0 0] 40)) := ((Ext.refl w).al _).al _
  have hx1 := (Bx.new w (.int .i64 k) (.bool neg) (.int .i64 e) (.slice A xs.length c)).ext ((Ext.refl _).al (.cells #[.int .i64 0, .bool false, .int .i64 0, .slice none 0 0] 40))
  have hx2 := Bx.new (w.alloc (.cells #[.int .i64 k, .bool neg, .int .i64 e, .slice A xs.length c] 40)) (.int .i64 0) (.bool false) (.int .i64 0) (.slice none 0 0)
  rw [World.size_alloc] at hx2
  have hb : (k == 0) = true ∨ ((k == 0) = false ∧ (k == 2) = true) := by rcases hk with rfl | rfl <;> simp
  clear hk
  rcases hb with b0 | ⟨b0, b2⟩
  all_goals
    by_cases he : e = 0
    · subst he
      obtain ⟨b, hb⟩ : ∃ b, decide (val xs = 0) = b := ⟨_, rfl⟩
      rw [hb] at hz
      have HB := Lib.hid hb
      clear hb
      go_enter Tryz.func63, Tryz.ntmps63
      go_wp2
      generalize ((w.alloc (Obj.cells #[Value.int IntKind.i64 k, Value.bool neg, Value.int IntKind.i64 0, Value.slice A xs.length c] 40)).alloc (Obj.cells #[Value.int IntKind.i64 0, Value.bool false, Value.int IntKind.i64 0, Value.slice none 0 0] 40)) = W at *
      obtain ⟨c0, c1, c2, c3, -⟩ := hx1.facts
      obtain ⟨d0, d1, d2, d3, df⟩ := hx2.facts
      have hrd := h.ext hE
      go_region_held3 (fun w' => w'.cell? ⟨w.heap.size, 0, none⟩ = some (.int .i64 k) ∧ w'.cell? ⟨w.heap.size, 1, none⟩ = some (.bool neg) ∧ w'.cell? ⟨w.heap.size, 2, none⟩ = some (.int .i64 0) ∧ w'.cell? ⟨w.heap.size, 3, none⟩ = some (.slice A xs.length c)) (go_keep)
        (first | (go_at_call 74; refine (hz _ hrd.drew).mono ?_; rintro e w1 ⟨rfl, n, rfl⟩))
      go_wp2
      obtain ⟨q0, q1, q2, q3, -⟩ := ((hx2.ext ((Ext.refl W).drewN (1 + n))).put (.int .i64 k) (.bool neg) (.int .i64 0) (.slice none 0 0)).facts
      refine bodyPost_ret (v := .tuple #[flV k neg 0 (.slice none 0 0), .bool b]) (by simp [results, Tryz.results63, go_sem, q0, q1, q2, q3]) rfl ?_
      rw [HC.out]
      have hb := HB.out
      cases b
      · rw [if_neg (fun h => by simp [h.2] at hb)]
        exact CanR.bad (by repeat (with_reducible first | exact hE | refine Ext.set ?_ (by simp) _ _ | refine Ext.al ?_ _ | refine Ext.drewN ?_ _ | refine Ext.drew ?_)) _ _ _ _ _ _
      · rw [if_pos (by simpa using hb)]
        exact CanR.good (by repeat (with_reducible first | exact hE | refine Ext.set ?_ (by simp) _ _ | refine Ext.al ?_ _ | refine Ext.drewN ?_ _ | refine Ext.drew ?_)) _ _
    · have he' : (e == 0) = false := by simpa using he
      have H0 := Lib.hid he
      clear he
      go_enter Tryz.func63, Tryz.ntmps63
      go_wp2
      generalize ((w.alloc (Obj.cells #[Value.int IntKind.i64 k, Value.bool neg, Value.int IntKind.i64 e, Value.slice A xs.length c] 40)).alloc (Obj.cells #[Value.int IntKind.i64 0, Value.bool false, Value.int IntKind.i64 0, Value.slice none 0 0] 40)) = W at *
      obtain ⟨c0, c1, c2, c3, -⟩ := hx1.facts
      obtain ⟨d0, d1, d2, d3, df⟩ := hx2.facts
      go_region
      go_wp2
      obtain ⟨q0, q1, q2, q3, -⟩ := (hx2.put (.int .i64 k) (.bool neg) (.int .i64 0) (.slice none 0 0)).facts
      refine bodyPost_ret (v := .tuple #[flV k neg 0 (.slice none 0 0), .bool false]) (by simp [results, Tryz.results63, go_sem, q0, q1, q2, q3]) rfl ?_
      rw [HC.out, if_neg (fun h => H0.out h.1)]
      exact CanR.bad (by repeat (with_reducible first | exact hE | refine Ext.set ?_ (by simp) _ _ | refine Ext.al ?_ _ | refine Ext.drewN ?_ _ | refine Ext.drew ?_)) _ _ _ _ _ _
/-- format.canonical, at every float. -/
theorem canonical_c (k : Int) (neg : Bool) (e : Int) (A : Option Addr) (c : Nat) (xs : List Nat) (w : World) (hT : Tab w) (h : Rd w A c xs) (hl : xs.length ≤ 10000000) :
    Calls Tryz.prog 63 #[flV k neg e (.slice A xs.length c)] w (CanR w (canon k neg e (val xs))) := by
  by_cases h02 : k = 0 ∨ k = 2
  · exact canonical_zi k h02 neg e A c xs w h
  · by_cases h3 : k = 3
    · subst h3; exact canonical_nan neg e A c xs w h
    · by_cases h1 : k = 1
      · subst h1
        by_cases hb : val xs = 0 ∨ e < -1048576 ∨ 1048576 < e
        · exact canonical_bad neg e A c xs w h hb
        · exact canonical_fin neg e A c xs w hT h hl (fun h0 => hb (.inl h0)) (by omega) (by omega)
      · exact canonical_else k neg e A c xs.length _ w (fun h => h02 (.inl h)) h1 (fun h => h02 (.inr h)) h3
end Go.Proofs.YtlnfmngginihfaaGreatDoor
namespace Go.Proofs.YtlnfmngginihfaaGreatDoor
open Go.RowKit
attribute [local go_sem ↓] Go.wp_at_zero Go.wp_at_succ

/-- A box with a format. -/
structure Bf (w : World) (g : Nat) (a b : Value) : Prop where
  h : w.heap[g]? = some (.cells #[a, b] 23 (0, 0))
theorem Bf.ext {w w' : World} {g : Nat} {a b : Value} (x : Bf w g a b) (h : Ext w w') : Bf w' g a b := ⟨(h.block g (Array.getElem?_eq_some_iff.1 x.h).1).trans x.h⟩
theorem Bf.lt {w : World} {g : Nat} {a b : Value} (x : Bf w g a b) : g < w.heap.size := (Array.getElem?_eq_some_iff.1 x.h).1
theorem Bf.facts {w : World} {g : Nat} {a b : Value} (x : Bf w g a b) : w.cell? ⟨g, 0, none⟩ = some a ∧ w.cell? ⟨g, 1, none⟩ = some b := by
  have h := x.h
  refine ⟨?_, ?_⟩ <;> rw [cell_of_row w g _ _ _ _ h] <;> rfl
theorem Bf.new (w : World) (a b : Value) : Bf (w.alloc (.cells #[a, b] 23)) w.heap.size a b := ⟨heap_alloc_new w _⟩
theorem canon_kind {k : Int} {neg : Bool} {e : Int} {m : Nat} {f : Fl} (h : canon k neg e m = some f) : f.kind = k := by
  unfold canon at h
  split at h
  · split at h
    · obtain rfl := Option.some.inj h; rfl
    · cases h
  · split at h
    · rename_i h3
      split at h
      · obtain rfl := Option.some.inj h; exact h3.symm
      · cases h
    · split at h
      · rename_i h1
        split at h
        · cases h
        · split at h
          · obtain rfl := Option.some.inj h; exact h1.symm
          · cases h
      · cases h
theorem canon_fin {neg : Bool} {e : Int} {m : Nat} {f : Fl} (h : canon 1 neg e m = some f) :
    f = ⟨1, neg, e + tz m, m / 2 ^ tz m⟩ ∧ 0 < m ∧ -1048576 ≤ e ∧ e + tz m ≤ 1048576 := by
  unfold canon at h
  rw [if_neg (by omega), if_neg (by omega), if_pos rfl] at h
  split at h
  · cases h
  · split at h
    · exact ⟨(Option.some.inj h).symm, by omega, by omega, by omega⟩
    · cases h
/-- What of a canonical float one walks with. -/
structure Fl.Ok (f : Fl) : Prop where
  lo : -1048576 ≤ f.exp
  hi : f.exp ≤ 1048576
  kind : 0 ≤ f.kind ∧ f.kind ≤ 3
  odd : f.kind = 1 → f.mag % 2 = 1
  zero : f.kind ≠ 1 → f.mag = 0 ∧ f.exp = 0
  nan : f.kind = 3 → f.neg = false
theorem canon_ok {k : Int} {neg : Bool} {e : Int} {m : Nat} {f : Fl} (h : canon k neg e m = some f) : f.Ok := by
  by_cases h1 : k = 1
  · subst h1
    obtain ⟨rfl, h2, h3, h4⟩ := canon_fin h
    exact ⟨by simp only; omega, h4, by simp, fun _ => (tz_div m h2).2, fun h => absurd rfl h, fun h => by simp at h⟩
  · unfold canon at h
    split at h
    · rename_i hk
      split at h
      · obtain rfl := Option.some.inj h
        exact ⟨by simp, by simp, by simp only; omega, fun h => absurd h h1, fun _ => ⟨rfl, rfl⟩, fun h => by simp only at h; omega⟩
      · cases h
    · split at h
      · split at h
        · obtain rfl := Option.some.inj h
          exact ⟨by simp, by simp, by simp, fun h => by simp at h, fun _ => ⟨rfl, rfl⟩, fun _ => rfl⟩
        · cases h
      · first | (rw [if_neg h1] at h; cases h) | cases h
theorem canon_mag {k : Int} {neg : Bool} {e : Int} {m : Nat} {f : Fl} (h : canon k neg e m = some f) : f.mag ≤ m := by
  by_cases h1 : k = 1
  · subst h1
    obtain ⟨rfl, -, -, -⟩ := canon_fin h
    exact Nat.div_le_self _ _
  · have := (canon_ok h).zero (by rw [canon_kind h]; exact h1)
    omega
theorem cn_len_of_le {m : Nat} {xs : List Nat} (h : W64 xs) (hm : m ≤ val xs) : (cn m).length ≤ xs.length := Nat.le_trans (cn_len_mono hm) (cn_val_le h)

/-- Whether a canonical float is one of a right format. -/
def InF (k p : Int) (f : Fl) : Prop := f.kind = 1 → (bl f.mag : Int) ≤ p ∧ ti k p ≤ f.exp ∧ f.exp + bl f.mag - 1 ≤ gr k
instance (k p : Int) (f : Fl) : Decidable (InF k p f) := by unfold InF; infer_instance
def holdS (k p : Int) (o : Option Fl) : Option Fl := o.bind fun f => if InF k p f then some f else none
theorem FlR.ext {w w' : World} {base : Nat} {f : Fl} {u : Value} (h : FlR w base f u) (hb : Ext w w') : FlR w' base f u := by
  obtain ⟨v, rfl, ho⟩ := h; exact ⟨v, rfl, ho.ext hb⟩
theorem FlR.low {w : World} {base b : Nat} {f : Fl} {u : Value} (h : FlR w base f u) (hb : b ≤ base) : FlR w b f u := by
  obtain ⟨v, rfl, ho⟩ := h; exact ⟨v, rfl, ho.low hb⟩
theorem FlR.set {w : World} {base : Nat} {f : Fl} {u : Value} (h : FlR w base f u) {a : Addr} (ha : a.block < base) (x : Value) : FlR (w.setCell a x) base f u := by
  obtain ⟨v, rfl, ho⟩ := h; exact ⟨v, rfl, ho.setBelow ha x⟩
set_option maxHeartbeats 4000000 in
set_option maxRecDepth 100000 in
theorem holds_c (k p : Int) (hR : Rgt k p) (kd : Int) (neg : Bool) (e : Int) (A : Option Addr) (c : Nat) (xs : List Nat) (w : World) (hT : Tab w) (h : Rd w A c xs) (hl : xs.length ≤ 10000000) :
    Calls Tryz.prog 42 #[.agg #[.int .i64 k, .int .i64 p], flV kd neg e (.slice A xs.length c)] w (CanR w (holdS k p (canon kd neg e (val xs)))) := by
  have hc := fun w hT h => canonical_c kd neg e A c xs w hT h hl
  have hok := fun f => canon_ok (k := kd) (neg := neg) (e := e) (m := val xs) (f := f)
  have hml := fun f hf => cn_len_of_le h.w64 (canon_mag (k := kd) (neg := neg) (e := e) (m := val xs) (f := f) hf)
  generalize canon kd neg e (val xs) = o at hc hok hml ⊢
  obtain ⟨OF, hOF⟩ : ∃ OF, OF = Obj.cells #[Value.int IntKind.i64 k, Value.int IntKind.i64 p] 23 := ⟨_, rfl⟩
  obtain ⟨OX, hOX⟩ : ∃ OX, OX = Obj.cells #[Value.int IntKind.i64 kd, Value.bool neg, Value.int IntKind.i64 e, Value.slice A xs.length c] 40 := ⟨_, rfl⟩
  have hE : Ext w (((w.alloc OF).alloc OX).alloc (Obj.cells #[Value.int IntKind.i64 0, Value.bool false, Value.int IntKind.i64 0, Value.slice none 0 0] 40)) := (((Ext.refl w).al _).al _).al _
  have hxR := Bx.new ((w.alloc OF).alloc OX) (.int .i64 0) (.bool false) (.int .i64 0) (.slice none 0 0)
  have hxF := ((Bf.new w (.int .i64 k) (.int .i64 p)).ext ((Ext.refl _).al OX)).ext ((Ext.refl _).al (Obj.cells #[Value.int IntKind.i64 0, Value.bool false, Value.int IntKind.i64 0, Value.slice none 0 0] 40))
  rw [← hOF] at hxF
  simp only [World.size_alloc] at hxR
  subst hOF hOX
  cases o with
  | none =>
    go_enter Tryz.func42, Tryz.ntmps42
    go_wp2_with (go_at_call 63; refine (hc _ (hT.ext hE) (h.ext hE)).mono ?_; rintro e w1 ⟨u, rfl, hb, -, k1, n1, e1, A1, l1, c1, rfl⟩; obtain ⟨r0, r1, r2, r3, rf⟩ := (hxR.ext hb).facts; have hz : w.heap.size + 1 + 1 < w1.heap.size := (hxR.ext hb).lt; simp only [Option.isSome])
    have hE1 := hE.tr hb
    have hq := ((hxR.ext hb).put (.int .i64 k1) (.bool n1) (.int .i64 e1) (.slice A1 l1 c1)).ext ((Ext.refl _).al (Obj.cells #[Value.int IntKind.i64 k1, Value.bool n1, Value.int IntKind.i64 e1, Value.slice A1 l1 c1] 40))
    obtain ⟨q0, q1, q2, q3, -⟩ := hq.facts
    refine bodyPost_ret (v := .tuple #[flV k1 n1 e1 (.slice A1 l1 c1), .bool false]) (by simp [results, Tryz.results42, go_sem, q0, q1, q2, q3]) rfl ?_
    exact CanR.bad (by repeat (with_reducible first | exact Ext.refl _ | exact hE | refine Ext.set ?_ (by omega) _ _ | refine Ext.al ?_ _ | refine Ext.drewN ?_ _ | refine Ext.drew ?_ | exact hE1)) _ _ _ _ _ _
  | some f =>
    obtain ⟨fk, fn, fe, fm⟩ := f
    have hokf := hok _ rfl
    have hmlf := hml _ rfl
    clear hok hml
    by_cases hk1 : fk = 1
    · subst hk1
      have hbl := bl_val_le (W64.cn fm)
      rw [val_cn] at hbl
      have hgr := gr_bd hR.1 hR.2.1
      have hti : ti k p = 1 - gr k - (p - 1) := rfl
      have hrng := fun w => range_yes k p w hR
      obtain ⟨hfo1, hfo2, -, -, -, -⟩ := hokf
      simp only at hfo1 hfo2
      have hp := hR.2.2
      have hInF : InF k p ⟨1, fn, fe, fm⟩ ↔ ((bl fm : Int) ≤ p ∧ ti k p ≤ fe ∧ fe + bl fm - 1 ≤ gr k) := ⟨fun h => h rfl, fun h _ => h⟩
      have HIN := Lib.hid hInF
      generalize gr k = G at *
      generalize ti k p = T at *
      generalize le k = L at *
      subst hti
      clear hInF
      go_enter Tryz.func42, Tryz.ntmps42
      go_wp2_with (first
        | (go_at_call 63; refine (hc _ (hT.ext hE) (h.ext hE)).mono ?_; rintro e w1 ⟨u, rfl, hb, hfl, -⟩; obtain ⟨v, rfl, ho⟩ := hfl _ rfl; obtain ⟨A1, c1, rfl, hr1⟩ := ho.rd; obtain ⟨r0, r1, r2, r3, rf⟩ := (hxR.ext hb).facts; have hz : w.heap.size + 1 + 1 < w1.heap.size := (hxR.ext hb).lt; obtain ⟨f1, f2⟩ := (hxF.ext hb).facts; have hz0 : w.heap.size < w1.heap.size := (hxF.ext hb).lt; simp only [Option.isSome]))
      refine (hrng _).mono ?_
      rintro e w2 ⟨rfl, hb2⟩
      have hY := (Bx.new w1 (.int .i64 1) (.bool fn) (.int .i64 fe) (.slice A1 (cn fm).length c1)).ext hb2
      have hR2 := ((hxR.ext hb).ext ((Ext.refl w1).al (Obj.cells #[Value.int IntKind.i64 1, Value.bool fn, Value.int IntKind.i64 fe, Value.slice A1 (cn fm).length c1] 40))).ext hb2
      have hF2 := ((hxF.ext hb).ext ((Ext.refl w1).al (Obj.cells #[Value.int IntKind.i64 1, Value.bool fn, Value.int IntKind.i64 fe, Value.slice A1 (cn fm).length c1] 40))).ext hb2
      have hrd2 := (hr1.ext ((Ext.refl w1).al (Obj.cells #[Value.int IntKind.i64 1, Value.bool fn, Value.int IntKind.i64 fe, Value.slice A1 (cn fm).length c1] 40))).ext hb2
      have hE2 := ((hE.tr hb).al (Obj.cells #[Value.int IntKind.i64 1, Value.bool fn, Value.int IntKind.i64 fe, Value.slice A1 (cn fm).length c1] 40)).tr hb2
      have ho2 := (ho.ext ((Ext.refl w1).al (Obj.cells #[Value.int IntKind.i64 1, Value.bool fn, Value.int IntKind.i64 fe, Value.slice A1 (cn fm).length c1] 40))).ext hb2
      obtain ⟨y0, y1, y2, y3, -⟩ := hY.facts
      obtain ⟨g1, g2⟩ := hF2.facts
      obtain ⟨s0, s1, s2, s3, sf⟩ := hR2.facts
      clear r0 r1 r2 r3 rf f1 f2 hb2
      go_wp2_with (go_at_call 65; refine (len_c A1 c1 (cn fm) _ hrd2 (by omega)).mono ?_; rintro e w3 ⟨rfl, n, rfl⟩; rw [val_cn])
      have hlast : ∀ b : Bool, b = decide (InF k p ⟨1, fn, fe, fm⟩) → ∀ W, Ext w W → Own W w.heap.size (.slice A1 (cn fm).length c1) (cn fm) →
          CanR w (holdS k p (some ⟨1, fn, fe, fm⟩)) (.returned (.tuple #[flV 1 fn fe (.slice A1 (cn fm).length c1), .bool b])) W := by
        intro b hb W hW hO
        refine ⟨flV 1 fn fe (.slice A1 (cn fm).length c1), ?_, hW, fun f hf => ?_, _, _, _, _, _, _, rfl⟩
        · subst hb
          by_cases hin : InF k p ⟨1, fn, fe, fm⟩ <;> simp [holdS, hin]
        · by_cases hin : InF k p ⟨1, fn, fe, fm⟩
          · simp [holdS, hin] at hf
            subst hf
            exact ⟨_, rfl, hO⟩
          · simp [holdS, hin] at hf
      have HLAST := Lib.hid hlast
      clear hlast
      have hYl := hY.lt
      have hRl := hxR.lt
      have hsz2 := hE2.size
      have hne : ¬ w.heap.size + 1 + 1 = w1.heap.size := by omega
      have hput := fun n => ((hR2.ext ((Ext.refl w2).drewN n)).put (.int .i64 1) (.bool fn) (.int .i64 fe) (.slice A1 (cn fm).length c1)).facts
      have hown : ∀ n, Own ((((((w2.drewN n).setCell ⟨w.heap.size + 1 + 1, 0, none⟩ (.int .i64 1)).setCell ⟨w.heap.size + 1 + 1, 1, none⟩ (.bool fn)).setCell ⟨w.heap.size + 1 + 1, 2, none⟩ (.int .i64 fe)).setCell ⟨w.heap.size + 1 + 1, 3, none⟩ (.slice A1 (cn fm).length c1))) w.heap.size (.slice A1 (cn fm).length c1) (cn fm) :=
        fun n => ((ho2.ext ((Ext.refl w2).drewN n)).putBelow (g := w.heap.size + 1 + 1) hRl _ _ _ _).low hE.size
      have HPUT := Lib.hid hput
      have HOWN := Lib.hid hown
      clear hput hown
      generalize bl fm = ℓ at *
      have hwr1 : IntKind.i64.wrap (fe + (ℓ : Int)) = fe + ℓ := by rw [IntKind.wrap_i64]; omega
      have hwr2 : IntKind.i64.wrap (fe + (ℓ : Int) - 1) = fe + ℓ - 1 := by rw [IntKind.wrap_i64]; omega
      have hcases : (decide ((ℓ : Int) ≤ p) = false ∧ Hid (¬ InF k p ⟨1, fn, fe, fm⟩)) ∨ (decide ((ℓ : Int) ≤ p) = true ∧ decide (1 - G - (p - 1) ≤ fe) = false ∧ Hid (¬ InF k p ⟨1, fn, fe, fm⟩)) ∨
          (decide ((ℓ : Int) ≤ p) = true ∧ decide (1 - G - (p - 1) ≤ fe) = true ∧ decide (fe + (ℓ : Int) - 1 ≤ G) = false ∧ Hid (¬ InF k p ⟨1, fn, fe, fm⟩)) ∨
          (decide ((ℓ : Int) ≤ p) = true ∧ decide (1 - G - (p - 1) ≤ fe) = true ∧ decide (fe + (ℓ : Int) - 1 ≤ G) = true ∧ Hid (InF k p ⟨1, fn, fe, fm⟩)) := by
        have h1 := HIN.out
        by_cases a1 : (ℓ : Int) ≤ p
        · by_cases a2 : 1 - G - (p - 1) ≤ fe
          · by_cases a3 : fe + (ℓ : Int) - 1 ≤ G
            · exact .inr (.inr (.inr ⟨by simpa using a1, by simpa using a2, by simpa using a3, h1.2 ⟨a1, a2, a3⟩⟩))
            · exact .inr (.inr (.inl ⟨by simpa using a1, by simpa using a2, by simpa using a3, fun h => a3 (h1.1 h).2.2⟩))
          · exact .inr (.inl ⟨by simpa using a1, by simpa using a2, fun h => a2 (h1.1 h).2.1⟩)
        · exact .inl ⟨by simpa using a1, fun h => a1 (h1.1 h).1⟩
      clear HIN hfo1 hfo2 hp hgr hbl
      rcases hcases with ⟨d1, HF⟩ | ⟨d1, d2, HF⟩ | ⟨d1, d2, d3, HF⟩ | ⟨d1, d2, d3, HF⟩
      iterate 3
        · clear hc hrng hr1 hrd2 ho2
          go_region
          go_wp2
          obtain ⟨q0, q1, q2, q3, -⟩ := HPUT.out (n + 1)
          refine bodyPost_ret (v := .tuple #[flV 1 fn fe (.slice A1 (cn fm).length c1), .bool false]) (by simp [results, Tryz.results42, go_sem, q0, q1, q2, q3]) rfl ?_
          exact HLAST.out false (by rw [decide_eq_false HF.out]) _ (by repeat (with_reducible first | exact hE2 | refine Ext.set ?_ (by omega) _ _ | refine Ext.al ?_ _ | refine Ext.drewN ?_ _ | refine Ext.drew ?_)) (HOWN.out (n + 1))
      · clear hc hrng hr1 hrd2 ho2
        go_region
        go_wp2
        obtain ⟨q0, q1, q2, q3, -⟩ := HPUT.out (n + 1)
        refine bodyPost_ret (v := .tuple #[flV 1 fn fe (.slice A1 (cn fm).length c1), .bool true]) (by simp [results, Tryz.results42, go_sem, q0, q1, q2, q3]) rfl ?_
        exact HLAST.out true (by rw [decide_eq_true HF.out]) _ (by repeat (with_reducible first | exact hE2 | refine Ext.set ?_ (by omega) _ _ | refine Ext.al ?_ _ | refine Ext.drewN ?_ _ | refine Ext.drew ?_)) (HOWN.out (n + 1))
    · have hkb : (fk != 1) = true := by simpa using hk1
      have hS : holdS k p (some ⟨fk, fn, fe, fm⟩) = some ⟨fk, fn, fe, fm⟩ := by
        simp only [holdS, Option.bind_some]; rw [if_pos (show InF k p ⟨fk, fn, fe, fm⟩ from fun h => absurd h hk1)]
      have HS := Lib.hid hS
      clear hS hk1 hokf hmlf
      go_enter Tryz.func42, Tryz.ntmps42
      go_wp2_with (go_at_call 63; refine (hc _ (hT.ext hE) (h.ext hE)).mono ?_; rintro e w1 ⟨u, rfl, hb, hfl, -⟩; obtain ⟨v, rfl, ho⟩ := hfl _ rfl; obtain ⟨A1, c1, rfl, hr1⟩ := ho.rd; obtain ⟨r0, r1, r2, r3, rf⟩ := (hxR.ext hb).facts; have hz : w.heap.size + 1 + 1 < w1.heap.size := (hxR.ext hb).lt; simp only [Option.isSome])
      have hE1 := hE.tr hb
      have hq := ((hxR.ext hb).put (.int .i64 fk) (.bool fn) (.int .i64 fe) (.slice A1 (cn fm).length c1)).ext ((Ext.refl _).al (Obj.cells #[Value.int IntKind.i64 fk, Value.bool fn, Value.int IntKind.i64 fe, Value.slice A1 (cn fm).length c1] 40))
      obtain ⟨q0, q1, q2, q3, -⟩ := hq.facts
      refine bodyPost_ret (v := .tuple #[flV fk fn fe (.slice A1 (cn fm).length c1), .bool true]) (by simp [results, Tryz.results42, go_sem, q0, q1, q2, q3]) rfl ?_
      rw [HS.out]
      refine ⟨_, rfl, (by repeat (with_reducible first | exact Ext.refl _ | exact hE | refine Ext.set ?_ (by omega) _ _ | refine Ext.al ?_ _ | refine Ext.drewN ?_ _ | refine Ext.drew ?_ | exact hE1)), fun f hf => ?_, _, _, _, _, _, _, rfl⟩
      obtain rfl := Option.some.inj hf
      exact ⟨_, rfl, ((ho.putBelow (g := w.heap.size + 1 + 1) hxR.lt _ _ _ _).low hE.size).ext ((Ext.refl _).al _)⟩
end Go.Proofs.YtlnfmngginihfaaGreatDoor
