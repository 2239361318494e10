/- package format: Check, Range, Width, large. package format: canonical. -/
import Derived.Test.YtehlmacgjlgjaaaGreatDoorW7
import Derived.StillTailTactics
import Derived.Deep.DrawnRows
set_option linter.unusedVariables false
set_option linter.unusedSimpArgs false
namespace Go.Proofs.YtehlmacgjlgjaaaGreatDoor
open Go.RowKit

/-- A right format. -/
def Rgt (k p : Int) : Prop := 2 ≤ k ∧ k ≤ 15 ∧ 2 ≤ p ∧ p ≤ 256
instance (k p : Int) : Decidable (Rgt k p) := by unfold Rgt; infer_instance
def fmtE (k p : Int) : Int := if Rgt k p then 0 else 150
theorem fmtE_yes {k p : Int} (h : Rgt k p) : fmtE k p = 0 := if_pos h
theorem fmtE_no {k p : Int} (h : ¬ Rgt k p) : fmtE k p = 150 := if_neg h
theorem Rgt.no_cases {k p : Int} (h : ¬ Rgt k p) : k < 2 ∨ (2 ≤ k ∧ 15 < k) ∨ (2 ≤ k ∧ k ≤ 15 ∧ p < 2) ∨ (2 ≤ k ∧ k ≤ 15 ∧ 2 ≤ p ∧ 256 < p) := by unfold Rgt at h; omega
set_option maxHeartbeats 1000000 in
theorem check_c (k p : Int) (w : World) : Calls Tryz.prog 58 #[.agg #[.int .i64 k, .int .i64 p]] w fun e w' => e = .returned (.int .i64 (fmtE k p)) ∧ Ext w w' := by
  by_cases h : Rgt k p
  · have HV := Lib.hid (fmtE_yes h)
    obtain ⟨h1, h2, h3, h4⟩ := h
    have b1 : decide (k < 2) = false := by simp; omega
    have b2 : decide (15 < k) = false := by simp; omega
    have b3 : decide (p < 2) = false := by simp; omega
    have b4 : decide (256 < p) = false := by simp; omega
    clear h1 h2 h3 h4
    go_enter Tryz.func58, Tryz.ntmps58
    go_wp2
    go_ret
    exact ⟨by rw [HV.out]; rfl, (Ext.refl w).al _⟩
  · have HV := Lib.hid (fmtE_no h)
    rcases Rgt.no_cases h with h1 | ⟨h1, h2⟩ | ⟨h1, h2, h3⟩ | ⟨h1, h2, h3, h4⟩
    · have b1 : decide (k < 2) = true := by simp; omega
      clear h h1
      go_enter Tryz.func58, Tryz.ntmps58
      go_wp2
      go_ret
      exact ⟨by rw [HV.out]; rfl, (Ext.refl w).al _⟩
    · have b1 : decide (k < 2) = false := by simp; omega
      have b2 : decide (15 < k) = true := by simp; omega
      clear h h1 h2
      go_enter Tryz.func58, Tryz.ntmps58
      go_wp2
      go_ret
      exact ⟨by rw [HV.out]; rfl, (Ext.refl w).al _⟩
    · have b1 : decide (k < 2) = false := by simp; omega
      have b2 : decide (15 < k) = false := by simp; omega
      have b3 : decide (p < 2) = true := by simp; omega
      clear h h1 h2 h3
      go_enter Tryz.func58, Tryz.ntmps58
      go_wp2
      go_ret
      exact ⟨by rw [HV.out]; rfl, (Ext.refl w).al _⟩
    · have b1 : decide (k < 2) = false := by simp; omega
      have b2 : decide (15 < k) = false := by simp; omega
      have b3 : decide (p < 2) = false := by simp; omega
      have b4 : decide (256 < p) = true := by simp; omega
      clear h h1 h2 h3 h4
      go_enter Tryz.func58, Tryz.ntmps58
      go_wp2
      go_ret
      exact ⟨by rw [HV.out]; rfl, (Ext.refl w).al _⟩
/-- The exponents of a right format. -/
def gr (k : Int) : Int := 2 ^ (k.toNat - 1) - 1
def le (k : Int) : Int := 1 - gr k
def ti (k p : Int) : Int := le k - (p - 1)
theorem gr_bd {k : Int} (h1 : 2 ≤ k) (h2 : k ≤ 15) : 1 ≤ gr k ∧ gr k ≤ 16383 := by
  unfold gr
  have h : k.toNat - 1 = 1 ∨ k.toNat - 1 = 2 ∨ k.toNat - 1 = 3 ∨ k.toNat - 1 = 4 ∨ k.toNat - 1 = 5 ∨ k.toNat - 1 = 6 ∨ k.toNat - 1 = 7 ∨ k.toNat - 1 = 8 ∨ k.toNat - 1 = 9 ∨ k.toNat - 1 = 10 ∨ k.toNat - 1 = 11 ∨ k.toNat - 1 = 12 ∨ k.toNat - 1 = 13 ∨ k.toNat - 1 = 14 := by omega
  rcases h with h | h | h | h | h | h | h | h | h | h | h | h | h | h <;> rw [h] <;> decide
set_option maxHeartbeats 1000000 in
theorem range_no (k p : Int) (w : World) (h : ¬ Rgt k p) : Calls Tryz.prog 50 #[.agg #[.int .i64 k, .int .i64 p]] w fun e w' =>
    e = .returned (.tuple #[.int .i64 0, .int .i64 0, .int .i64 0, .int .i64 150]) ∧ Ext w w' := by
  have hc := fun w => check_c k p w
  rw [fmtE_no h] at hc
  clear h
  go_enter Tryz.func50, Tryz.ntmps50
  go_wp2_with (go_at_call 58; refine (hc _).mono ?_; rintro e w1 ⟨rfl, hb⟩)
  refine bodyPost_ret (v := .tuple #[.int .i64 0, .int .i64 0, .int .i64 0, .int .i64 150]) (by simp [results, Tryz.results50, go_sem]) rfl ⟨rfl, ((Ext.refl w).al _).tr hb⟩
set_option maxHeartbeats 1000000 in
theorem range_yes (k p : Int) (w : World) (h : Rgt k p) : Calls Tryz.prog 50 #[.agg #[.int .i64 k, .int .i64 p]] w fun e w' =>
    e = .returned (.tuple #[.int .i64 (le k), .int .i64 (gr k), .int .i64 (ti k p), .int .i64 0]) ∧ Ext w w' := by
  have hc := fun w => check_c k p w
  rw [fmtE_yes h] at hc
  obtain ⟨h1, h2, h3, h4⟩ := h
  have hg := gr_bd h1 h2
  obtain ⟨n, rfl⟩ := Int.eq_ofNat_of_zero_le (show 0 ≤ k by omega)
  obtain ⟨g, hgd⟩ : ∃ g, gr (n : Int) = g := ⟨_, rfl⟩
  have hsh : (2 : Int) ^ (n - 1) = g + 1 := by rw [← hgd]; unfold gr; rw [Int.toNat_natCast]; omega
  have HT := Lib.hid (show ti (n : Int) p = 1 - g - (p - 1) by unfold ti le; rw [hgd])
  have HL := Lib.hid (show le (n : Int) = 1 - g by unfold le; rw [hgd])
  rw [hgd] at hg
  have HG := Lib.hid hgd
  obtain ⟨hg1, hg2⟩ := hg
  clear hgd
  go_enter Tryz.func50, Tryz.ntmps50
  go_wp2_with (go_at_call 58; refine (hc _).mono ?_; rintro e w1 ⟨rfl, hb⟩; obtain ⟨hc1, hf1⟩ := hb.rules)
  go_quiet (fail)
  go_wp2
  refine bodyPost_ret (v := .tuple #[.int .i64 (1 - g), .int .i64 g, .int .i64 (1 - g - (p - 1)), .int .i64 0]) (by simp [results, Tryz.results50, go_sem]) rfl ⟨by rw [HT.out, HL.out, HG.out], (((Ext.refl w).al _).tr hb).drewN _⟩
/-- A float as the program has it. -/
abbrev flV (k : Int) (neg : Bool) (e : Int) (v : Value) : Value := .agg #[.int .i64 k, .bool neg, .int .i64 e, v]
set_option maxHeartbeats 1000000 in
theorem large_c (k e : Int) (neg : Bool) (A : Option Addr) (n c : Nat) (w : World) : Calls Tryz.prog 57 #[flV k neg e (.slice A n c)] w fun e w' => e = .returned (.bool (decide (4096 < n))) ∧ Ext w w' := by
  go_enter Tryz.func57, Tryz.ntmps57
  go_wp2
  go_ret
  exact ⟨congrArg (fun b => Ending.returned (.bool b)) (by rw [decide_eq_decide]; omega), (Ext.refl w).al _⟩
end Go.Proofs.YtehlmacgjlgjaaaGreatDoor
namespace Go.Proofs.YtehlmacgjlgjaaaGreatDoor
open Go.RowKit
attribute [local go_sem ↓] Go.wp_at_zero Go.wp_at_succ

/-- A canonical float. -/
structure Fl where
  kind : Int
  neg : Bool
  exp : Int
  mag : Nat
/-- The canonical float of a right one. -/
def canon (k : Int) (neg : Bool) (e : Int) (m : Nat) : Option Fl :=
  if k = 0 ∨ k = 2 then (if e = 0 ∧ m = 0 then some ⟨k, neg, 0, 0⟩ else none)
  else if k = 3 then (if neg = false ∧ e = 0 ∧ m = 0 then some ⟨3, false, 0, 0⟩ else none)
  else if k = 1 then (if m = 0 ∨ e < -1048576 ∨ 1048576 < e then none else if e + tz m ≤ 1048576 then some ⟨1, neg, e + tz m, m / 2 ^ tz m⟩ else none)
  else none
/-- A value that is a float in new memory. -/
def FlR (w : World) (base : Nat) (f : Fl) (u : Value) : Prop := ∃ v, u = flV f.kind f.neg f.exp v ∧ Own w base v (cn f.mag)
/-- What canonical hands back. -/
def CanR (w : World) (o : Option Fl) (e : Ending) (w' : World) : Prop :=
  ∃ u, e = .returned (.tuple #[u, .bool o.isSome]) ∧ Ext w w' ∧ (∀ f, o = some f → FlR w' w.heap.size f u) ∧ ∃ k neg e A n c, u = flV k neg e (.slice A n c)

/-- A box of four cells, known whole. -/
structure Bx (w : World) (g : Nat) (a b c d : Value) : Prop where
  h : w.heap[g]? = some (.cells #[a, b, c, d] 29 (0, 0))
theorem Bx.ext {w w' : World} {g : Nat} {a b c d : Value} (x : Bx w g a b c d) (h : Ext w w') : Bx w' g a b c d := ⟨(h.block g (Array.getElem?_eq_some_iff.1 x.h).1).trans x.h⟩
theorem Bx.drew {w : World} {g : Nat} {a b c d : Value} (x : Bx w g a b c d) : Bx w.drew g a b c d := ⟨x.h⟩
theorem Bx.facts {w : World} {g : Nat} {a b c d : Value} (x : Bx w g a b c d) : w.cell? ⟨g, 0, none⟩ = some a ∧ w.cell? ⟨g, 1, none⟩ = some b ∧ w.cell? ⟨g, 2, none⟩ = some c ∧ w.cell? ⟨g, 3, none⟩ = some d ∧
    (∀ i, w.frozen? ⟨g, i, none⟩ = false) := by
  have h := x.h
  refine ⟨?_, ?_, ?_, ?_, fun i => by simp [World.frozen?, h]⟩ <;> rw [cell_of_row w g _ _ _ _ h] <;> rfl
theorem Bx.new (w : World) (a b c d : Value) : Bx (w.alloc (.cells #[a, b, c, d] 29)) w.heap.size a b c d := ⟨heap_alloc_new w _⟩
theorem Bx.put {w : World} {g : Nat} {a b c d : Value} (x : Bx w g a b c d) (a' b' c' d' : Value) : Bx ((((w.setCell ⟨g, 0, none⟩ a').setCell ⟨g, 1, none⟩ b').setCell ⟨g, 2, none⟩ c').setCell ⟨g, 3, none⟩ d') g a' b' c' d' := by
  have h := x.h
  constructor
  simp [World.setCell, Array.getElem?_modify, h]
theorem Ext.put {w w1 : World} (h : Ext w w1) {g : Nat} (hg : w.heap.size ≤ g) (a b c d : Value) : Ext w ((((w1.setCell ⟨g, 0, none⟩ a).setCell ⟨g, 1, none⟩ b).setCell ⟨g, 2, none⟩ c).setCell ⟨g, 3, none⟩ d) :=
  (((h.set hg 0 a).set hg 1 b).set hg 2 c).set hg 3 d
theorem Own.setBelow {w : World} {base : Nat} {v : Value} {xs : List Nat} (h : Own w base v xs) {a : Addr} (ha : a.block < base) (u : Value) : Own (w.setCell a u) base v xs := ⟨ownsRow_setCell_below h.own ha u, h.w64⟩
theorem Own.putBelow {w : World} {base : Nat} {v : Value} {xs : List Nat} (h : Own w base v xs) {g : Nat} (hg : g < base) (a b c d : Value) : Own ((((w.setCell ⟨g, 0, none⟩ a).setCell ⟨g, 1, none⟩ b).setCell ⟨g, 2, none⟩ c).setCell ⟨g, 3, none⟩ d) base v xs :=
  (((h.setBelow (a := ⟨g, 0, none⟩) hg a).setBelow (a := ⟨g, 1, none⟩) hg b).setBelow (a := ⟨g, 2, none⟩) hg c).setBelow (a := ⟨g, 3, none⟩) hg d
theorem Bx.lt {w : World} {g : Nat} {a b c d : Value} (x : Bx w g a b c d) : g < w.heap.size := (Array.getElem?_eq_some_iff.1 x.h).1
theorem tz_le_bl (n : Nat) : tz n ≤ bl n := by
  rcases Nat.eq_zero_or_pos n with rfl | h
  · rw [tz_zero]; omega
  · have := tz_lt_bl n h; omega
theorem bl_val_le {xs : List Nat} (h : W64 xs) : bl (val xs) ≤ 64 * xs.length := by
  refine (bl_le _ _).2 ?_
  have := val_lt h
  rwa [B_two, ← Nat.pow_mul] at this
set_option maxHeartbeats 4000000 in
set_option maxRecDepth 100000 in
theorem canonical_fin (neg : Bool) (e : Int) (A : Option Addr) (c : Nat) (xs : List Nat) (w : World) (hT : Tab w) (h : Rd w A c xs) (hl : xs.length ≤ 10000000) (h0 : val xs ≠ 0) (he1 : -1048576 ≤ e) (he2 : e ≤ 1048576) :
    Calls Tryz.prog 38 #[flV 1 neg e (.slice A xs.length c)] w (CanR w (canon 1 neg e (val xs))) := by
  have hz := fun w h => zero_c A c xs w h
  rw [show decide (val xs = 0) = false by simpa using h0] at hz
  have b1 : decide (e < -1048576) = false := by simp; omega
  have b2 : decide (1048576 < e) = false := by simp; omega
  have htb := tz_le_bl (val xs)
  have hbl := bl_val_le h.w64
  have hwr : IntKind.i64.wrap (e + (tz (val xs) : Int)) = e + tz (val xs) := by rw [IntKind.wrap_i64]; omega
  go_enter Tryz.func38, Tryz.ntmps38
  go_wp2_with (first
    | (go_at_call 79; refine (hz _ (h.ext ?_)).mono ?_; (exact ((Ext.refl w).al _).al _); rintro e w1 ⟨rfl, n, rfl⟩)
    | (go_at_call 80; refine (trailing_c A c xs _ (h.ext ?_) (by omega) (hT.ext ?_)).mono ?_; (exact (((Ext.refl w).al _).al _).drewN n); (exact (((Ext.refl w).al _).al _).drewN n); rintro e w1 ⟨rfl, n2, rfl⟩))
  have hE : Ext w (((w.alloc (Obj.cells #[Value.int IntKind.i64 1, Value.bool neg, Value.int IntKind.i64 e, Value.slice A xs.length c] 29)).alloc (Obj.cells #[Value.int IntKind.i64 0, Value.bool false, Value.int IntKind.i64 0, Value.slice none 0 0] 29)).drewN (n + n2)) := (((Ext.refl w).al _).al _).drewN _
  have hx1 := ((Bx.new w (.int .i64 1) (.bool neg) (.int .i64 e) (.slice A xs.length c)).ext ((Ext.refl _).al (.cells #[.int .i64 0, .bool false, .int .i64 0, .slice none 0 0] 29))).ext ((Ext.refl _).drewN (n + n2))
  have hx2 := (Bx.new (w.alloc (.cells #[.int .i64 1, .bool neg, .int .i64 e, .slice A xs.length c] 29)) (.int .i64 0) (.bool false) (.int .i64 0) (.slice none 0 0)).ext ((Ext.refl _).drewN (n + n2))
  rw [World.size_alloc] at hx2
  generalize ((w.alloc (Obj.cells #[Value.int IntKind.i64 1, Value.bool neg, Value.int IntKind.i64 e, Value.slice A xs.length c] 29)).alloc (Obj.cells #[Value.int IntKind.i64 0, Value.bool false, Value.int IntKind.i64 0, Value.slice none 0 0] 29)).drewN (n + n2) = W at *
  have hrd := h.ext hE
  obtain ⟨-, c1, c2, c3, -⟩ := hx1.facts
  go_region_held3 (fun w' => w'.cell? ⟨w.heap.size, 1, none⟩ = some (.bool neg) ∧ w'.cell? ⟨w.heap.size, 2, none⟩ = some (.int .i64 e) ∧ w'.cell? ⟨w.heap.size, 3, none⟩ = some (.slice A xs.length c))
    (first | go_keep | (go_split_ands; refine ⟨?_, ?_, ?_⟩ <;> (refine Ext.cell (by assumption) ?_; assumption)))
    (first | (go_at_call 81; refine (shr_c A c xs (tz (val xs)) _ (hrd.drew) (by omega) (by omega)).mono ?_; rintro e w1 ⟨v, rfl, ho, hb1⟩; obtain ⟨A2, c2, rfl, hr2⟩ := ho.rd; obtain ⟨d0, d1, d2, d3, hf⟩ := (hx2.drew.ext hb1).facts))
  go_wp2
  obtain ⟨q0, q1, q2, q3, -⟩ := ((hx2.drew.ext hb1).put (.int .i64 1) (.bool neg) (.int .i64 (e + tz (val xs))) (.slice A2 (cn (val xs / 2 ^ tz (val xs))).length c2)).facts
  refine bodyPost_ret (v := .tuple #[flV 1 neg (e + tz (val xs)) (.slice A2 (cn (val xs / 2 ^ tz (val xs))).length c2), .bool (decide (e + tz (val xs) ≤ 1048576))]) (by simp [results, Tryz.results38, go_sem, q0, q1, q2, q3]) rfl ?_
  have hlt := hx2.lt
  have hfin := (ho.putBelow (g := w.heap.size + 1) hlt (.int .i64 1) (.bool neg) (.int .i64 (e + tz (val xs))) (.slice A2 (cn (val xs / 2 ^ tz (val xs))).length c2)).low (show w.heap.size ≤ W.drew.heap.size from hE.size)
  have hcan : canon 1 neg e (val xs) = if e + tz (val xs) ≤ 1048576 then some ⟨1, neg, e + tz (val xs), val xs / 2 ^ tz (val xs)⟩ else none := by
    unfold canon
    rw [if_neg (by omega), if_neg (by omega), if_pos rfl, if_neg (by omega)]
  refine ⟨flV 1 neg (e + tz (val xs)) (.slice A2 (cn (val xs / 2 ^ tz (val xs))).length c2), ?_, (hE.tr ((Ext.refl W).drew.tr hb1)).put (by omega) _ _ _ _, fun f hf => ?_, 1, neg, _, _, _, _, rfl⟩
  · rw [hcan]; split
    · rename_i hh; rw [decide_eq_true hh]; rfl
    · rename_i hh; rw [decide_eq_false hh]; rfl
  · rw [hcan] at hf
    split at hf
    · obtain rfl := Option.some.inj hf
      exact ⟨_, rfl, hfin⟩
    · cases hf
end Go.Proofs.YtehlmacgjlgjaaaGreatDoor
