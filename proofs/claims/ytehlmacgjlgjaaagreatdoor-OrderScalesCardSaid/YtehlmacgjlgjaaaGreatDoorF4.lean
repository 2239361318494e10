/- package format: canonical, the other kinds. package format: holds. -/
import Derived.Test.YtehlmacgjlgjaaaGreatDoorF2
set_option linter.unusedVariables false
set_option linter.unusedSimpArgs false
namespace Go.Proofs.YtehlmacgjlgjaaaGreatDoor
open Go.RowKit
attribute [local go_sem ↓] Go.wp_at_zero Go.wp_at_succ

theorem CanR.bad {w W : World} (hE : Ext w W) (k' e' : Int) (neg' : Bool) (A : Option Addr) (n c : Nat) : CanR w none (.returned (.tuple #[flV k' neg' e' (.slice A n c), .bool false])) W :=
  ⟨_, rfl, hE, fun f h => (by cases h), _, _, _, _, _, _, rfl⟩
theorem CanR.good {w W : World} (hE : Ext w W) (k' : Int) (neg' : Bool) : CanR w (some ⟨k', neg', 0, 0⟩) (.returned (.tuple #[flV k' neg' 0 (.slice none 0 0), .bool true])) W :=
  ⟨_, rfl, hE, fun f h => (by obtain rfl := Option.some.inj h; exact ⟨_, rfl, by rw [show cn 0 = [] from digs_zero B]; exact Own.nil _ _⟩), _, _, _, _, _, _, rfl⟩
set_option maxHeartbeats 4000000 in
set_option maxRecDepth 100000 in
/-- A kind that is none. -/
theorem canonical_else (k : Int) (neg : Bool) (e : Int) (A : Option Addr) (c n : Nat) (m : Nat) (w : World) (h0 : k ≠ 0) (h1 : k ≠ 1) (h2 : k ≠ 2) (h3 : k ≠ 3) :
    Calls Tryz.prog 38 #[flV k neg e (.slice A n c)] w (CanR w (canon k neg e m)) := by
  have b0 : (k == 0) = false := by simpa using h0
  have b1 : (k == 1) = false := by simpa using h1
  have b2 : (k == 2) = false := by simpa using h2
  have b3 : (k == 3) = false := by simpa using h3
  have hcan : canon k neg e m = none := by
    unfold canon
    rw [if_neg (by omega), if_neg h3, if_neg h1]
  have HC := Lib.hid hcan
  clear hcan h0 h1 h2 h3
  go_enter Tryz.func38, Tryz.ntmps38
  go_wp2
  refine bodyPost_ret (v := .tuple #[flV 0 false 0 (.slice none 0 0), .bool false]) (by simp [results, Tryz.results38, go_sem]) rfl ?_
  rw [HC.out]
  exact CanR.bad (by repeat (with_reducible first | exact Ext.refl _ | refine Ext.set ?_ (by simp) _ _ | refine Ext.al ?_ _ | refine Ext.drewN ?_ _ | refine Ext.drew ?_)) _ _ _ _ _ _
set_option maxHeartbeats 4000000 in
set_option maxRecDepth 100000 in
theorem canonical_bad (neg : Bool) (e : Int) (A : Option Addr) (c : Nat) (xs : List Nat) (w : World) (h : Rd w A c xs) (hb : val xs = 0 ∨ e < -1048576 ∨ 1048576 < e) :
    Calls Tryz.prog 38 #[flV 1 neg e (.slice A xs.length c)] w (CanR w (canon 1 neg e (val xs))) := by
  have hz := fun w h => zero_c A c xs w h
  have hcan : canon 1 neg e (val xs) = none := by
    unfold canon
    rw [if_neg (by omega), if_neg (by omega), if_pos rfl, if_pos hb]
  have HC := Lib.hid hcan
  clear hcan
  rcases Nat.eq_zero_or_pos (val xs) with h0 | h0
  · rw [show decide (val xs = 0) = true by simpa using h0] at hz
    clear hb h0
    go_enter Tryz.func38, Tryz.ntmps38
    go_wp2_with (go_at_call 79; refine (hz _ (h.ext ?_)).mono ?_; (exact ((Ext.refl w).al _).al _); rintro e w1 ⟨rfl, n, rfl⟩)
    refine bodyPost_ret (v := .tuple #[flV 0 false 0 (.slice none 0 0), .bool false]) (by simp [results, Tryz.results38, go_sem]) rfl ?_
    rw [HC.out]
    exact CanR.bad (by repeat (with_reducible first | exact Ext.refl _ | refine Ext.set ?_ (by simp) _ _ | refine Ext.al ?_ _ | refine Ext.drewN ?_ _ | refine Ext.drew ?_)) _ _ _ _ _ _
  · rw [show decide (val xs = 0) = false by simp; omega] at hz
    rcases (show e < -1048576 ∨ (¬ e < -1048576 ∧ 1048576 < e) by omega) with he | ⟨he, he2⟩
    · have b1 : decide (e < -1048576) = true := by simpa using he
      clear hb h0 he
      go_enter Tryz.func38, Tryz.ntmps38
      go_wp2_with (go_at_call 79; refine (hz _ (h.ext ?_)).mono ?_; (exact ((Ext.refl w).al _).al _); rintro e w1 ⟨rfl, n, rfl⟩)
      refine bodyPost_ret (v := .tuple #[flV 0 false 0 (.slice none 0 0), .bool false]) (by simp [results, Tryz.results38, go_sem]) rfl ?_
      rw [HC.out]
      exact CanR.bad (by repeat (with_reducible first | exact Ext.refl _ | refine Ext.set ?_ (by simp) _ _ | refine Ext.al ?_ _ | refine Ext.drewN ?_ _ | refine Ext.drew ?_)) _ _ _ _ _ _
    · have b1 : decide (e < -1048576) = false := by simpa using he
      have b2 : decide (1048576 < e) = true := by simpa using he2
      clear hb h0 he he2
      go_enter Tryz.func38, Tryz.ntmps38
      go_wp2_with (go_at_call 79; refine (hz _ (h.ext ?_)).mono ?_; (exact ((Ext.refl w).al _).al _); rintro e w1 ⟨rfl, n, rfl⟩)
      refine bodyPost_ret (v := .tuple #[flV 0 false 0 (.slice none 0 0), .bool false]) (by simp [results, Tryz.results38, go_sem]) rfl ?_
      rw [HC.out]
      exact CanR.bad (by repeat (with_reducible first | exact Ext.refl _ | refine Ext.set ?_ (by simp) _ _ | refine Ext.al ?_ _ | refine Ext.drewN ?_ _ | refine Ext.drew ?_)) _ _ _ _ _ _
set_option maxHeartbeats 4000000 in
set_option maxRecDepth 100000 in
/-- NaN. -/
theorem canonical_nan (neg : Bool) (e : Int) (A : Option Addr) (c : Nat) (xs : List Nat) (w : World) (h : Rd w A c xs) :
    Calls Tryz.prog 38 #[flV 3 neg e (.slice A xs.length c)] w (CanR w (canon 3 neg e (val xs))) := by
  have hz := fun w h => zero_c A c xs w h
  have hcan : canon 3 neg e (val xs) = if neg = false ∧ e = 0 ∧ val xs = 0 then some ⟨3, false, 0, 0⟩ else none := by
    unfold canon
    rw [if_neg (by omega), if_pos rfl]
  have HC := Lib.hid hcan
  clear hcan
  cases neg
  · by_cases he : e = 0
    · subst he
      by_cases h0 : val xs = 0
      · rw [show decide (val xs = 0) = true by simpa using h0] at hz
        have H0 := Lib.hid h0
        clear h0
        go_enter Tryz.func38, Tryz.ntmps38
        go_wp2_with (go_at_call 79; refine (hz _ (h.ext ?_)).mono ?_; (exact ((Ext.refl w).al _).al _); rintro e w1 ⟨rfl, n, rfl⟩)
        refine bodyPost_ret (v := .tuple #[flV 3 false 0 (.slice none 0 0), .bool true]) (by simp [results, Tryz.results38, go_sem]) rfl ?_
        rw [HC.out, if_pos (by simpa using H0.out)]
        exact CanR.good (by repeat (with_reducible first | exact Ext.refl _ | refine Ext.set ?_ (by simp) _ _ | refine Ext.al ?_ _ | refine Ext.drewN ?_ _ | refine Ext.drew ?_)) _ _
      · rw [show decide (val xs = 0) = false by simpa using h0] at hz
        have H0 := Lib.hid h0
        clear h0
        go_enter Tryz.func38, Tryz.ntmps38
        go_wp2_with (go_at_call 79; refine (hz _ (h.ext ?_)).mono ?_; (exact ((Ext.refl w).al _).al _); rintro e w1 ⟨rfl, n, rfl⟩)
        refine bodyPost_ret (v := .tuple #[flV 3 false 0 (.slice none 0 0), .bool false]) (by simp [results, Tryz.results38, go_sem]) rfl ?_
        rw [HC.out, if_neg (fun h => H0.out h.2.2)]
        exact CanR.bad (by repeat (with_reducible first | exact Ext.refl _ | refine Ext.set ?_ (by simp) _ _ | refine Ext.al ?_ _ | refine Ext.drewN ?_ _ | refine Ext.drew ?_)) _ _ _ _ _ _
    · have he' : (e == 0) = false := by simpa using he
      have H0 := Lib.hid he
      clear he
      go_enter Tryz.func38, Tryz.ntmps38
      go_wp2
      refine bodyPost_ret (v := .tuple #[flV 3 false 0 (.slice none 0 0), .bool false]) (by simp [results, Tryz.results38, go_sem]) rfl ?_
      rw [HC.out, if_neg (fun h => H0.out h.2.1)]
      exact CanR.bad (by repeat (with_reducible first | exact Ext.refl _ | refine Ext.set ?_ (by simp) _ _ | refine Ext.al ?_ _ | refine Ext.drewN ?_ _ | refine Ext.drew ?_)) _ _ _ _ _ _
  · go_enter Tryz.func38, Tryz.ntmps38
    go_wp2
    refine bodyPost_ret (v := .tuple #[flV 3 false 0 (.slice none 0 0), .bool false]) (by simp [results, Tryz.results38, go_sem]) rfl ?_
    rw [HC.out, if_neg (fun h => by cases h.1)]
    exact CanR.bad (by repeat (with_reducible first | exact Ext.refl _ | refine Ext.set ?_ (by simp) _ _ | refine Ext.al ?_ _ | refine Ext.drewN ?_ _ | refine Ext.drew ?_)) _ _ _ _ _ _
set_option maxHeartbeats 4000000 in
set_option maxRecDepth 100000 in
/-- Zero and Infinite. -/
theorem canonical_zi (k : Int) (hk : k = 0 ∨ k = 2) (neg : Bool) (e : Int) (A : Option Addr) (c : Nat) (xs : List Nat) (w : World) (h : Rd w A c xs) :
    Calls Tryz.prog 38 #[flV k neg e (.slice A xs.length c)] w (CanR w (canon k neg e (val xs))) := by
  have hz := fun w h => zero_c A c xs w h
  have hcan : canon k neg e (val xs) = if e = 0 ∧ val xs = 0 then some ⟨k, neg, 0, 0⟩ else none := by
    unfold canon
    rw [if_pos hk]
  have HC := Lib.hid hcan
  clear hcan
  have hE : Ext w ((w.alloc (Obj.cells #[Value.int IntKind.i64 k, Value.bool neg, Value.int IntKind.i64 e, Value.slice A xs.length c] 29)).alloc (Obj.cells #[Value.int IntKind.i64 0, Value.bool false, Value.int IntKind.i64 0, Value.slice none 0 0] 29)) := ((Ext.refl w).al _).al _
  have hx1 := (Bx.new w (.int .i64 k) (.bool neg) (.int .i64 e) (.slice A xs.length c)).ext ((Ext.refl _).al (.cells #[.int .i64 0, .bool false, .int .i64 0, .slice none 0 0] 29))
  have hx2 := Bx.new (w.alloc (.cells #[.int .i64 k, .bool neg, .int .i64 e, .slice A xs.length c] 29)) (.int .i64 0) (.bool false) (.int .i64 0) (.slice none 0 0)
  rw [World.size_alloc] at hx2
  have hb : (k == 0) = true ∨ ((k == 0) = false ∧ (k == 2) = true) := by rcases hk with rfl | rfl <;> simp
  clear hk
  rcases hb with b0 | ⟨b0, b2⟩
  all_goals
    by_cases he : e = 0
    · subst he
      obtain ⟨b, hb⟩ : ∃ b, decide (val xs = 0) = b := ⟨_, rfl⟩
      rw [hb] at hz
      have HB := Lib.hid hb
      clear hb
      go_enter Tryz.func38, Tryz.ntmps38
      go_wp2
      generalize ((w.alloc (Obj.cells #[Value.int IntKind.i64 k, Value.bool neg, Value.int IntKind.i64 0, Value.slice A xs.length c] 29)).alloc (Obj.cells #[Value.int IntKind.i64 0, Value.bool false, Value.int IntKind.i64 0, Value.slice none 0 0] 29)) = W at *
      obtain ⟨c0, c1, c2, c3, -⟩ := hx1.facts
      obtain ⟨d0, d1, d2, d3, df⟩ := hx2.facts
      have hrd := h.ext hE
      go_region_held3 (fun w' => w'.cell? ⟨w.heap.size, 0, none⟩ = some (.int .i64 k) ∧ w'.cell? ⟨w.heap.size, 1, none⟩ = some (.bool neg) ∧ w'.cell? ⟨w.heap.size, 2, none⟩ = some (.int .i64 0) ∧ w'.cell? ⟨w.heap.size, 3, none⟩ = some (.slice A xs.length c)) (go_keep)
        (first | (go_at_call 79; refine (hz _ hrd.drew).mono ?_; rintro e w1 ⟨rfl, n, rfl⟩))
      go_wp2
      obtain ⟨q0, q1, q2, q3, -⟩ := ((hx2.ext ((Ext.refl W).drewN (1 + n))).put (.int .i64 k) (.bool neg) (.int .i64 0) (.slice none 0 0)).facts
      refine bodyPost_ret (v := .tuple #[flV k neg 0 (.slice none 0 0), .bool b]) (by simp [results, Tryz.results38, go_sem, q0, q1, q2, q3]) rfl ?_
      rw [HC.out]
      have hb := HB.out
      cases b
      · rw [if_neg (fun h => by simp [h.2] at hb)]
        exact CanR.bad (by repeat (with_reducible first | exact hE | refine Ext.set ?_ (by simp) _ _ | refine Ext.al ?_ _ | refine Ext.drewN ?_ _ | refine Ext.drew ?_)) _ _ _ _ _ _
      · rw [if_pos (by simpa using hb)]
        exact CanR.good (by repeat (with_reducible first | exact hE | refine Ext.set ?_ (by simp) _ _ | refine Ext.al ?_ _ | refine Ext.drewN ?_ _ | refine Ext.drew ?_)) _ _
    · have he' : (e == 0) = false := by simpa using he
      have H0 := Lib.hid he
      clear he
      go_enter Tryz.func38, Tryz.ntmps38
      go_wp2
      generalize ((w.alloc (Obj.cells #[Value.int IntKind.i64 k, Value.bool neg, Value.int IntKind.i64 e, Value.slice A xs.length c] 29)).alloc (Obj.cells #[Value.int IntKind.i64 0, Value.bool false, Value.int IntKind.i64 0, Value.slice none 0 0] 29)) = W at *
      obtain ⟨c0, c1, c2, c3, -⟩ := hx1.facts
      obtain ⟨d0, d1, d2, d3, df⟩ := hx2.facts
      go_region
      go_wp2
      obtain ⟨q0, q1, q2, q3, -⟩ := (hx2.put (.int .i64 k) (.bool neg) (.int .i64 0) (.slice none 0 0)).facts
      refine bodyPost_ret (v := .tuple #[flV k neg 0 (.slice none 0 0), .bool false]) (by simp [results, Tryz.results38, go_sem, q0, q1, q2, q3]) rfl ?_
      rw [HC.out, if_neg (fun h => H0.out h.1)]
      exact CanR.bad (by repeat (with_reducible first | exact hE | refine Ext.set ?_ (by simp) _ _ | refine Ext.al ?_ _ | refine Ext.drewN ?_ _ | refine Ext.drew ?_)) _ _ _ _ _ _
/-- format.canonical, at every float. -/
theorem canonical_c (k : Int) (neg : Bool) (e : Int) (A : Option Addr) (c : Nat) (xs : List Nat) (w : World) (hT : Tab w) (h : Rd w A c xs) (hl : xs.length ≤ 10000000) :
    Calls Tryz.prog 38 #[flV k neg e (.slice A xs.length c)] w (CanR w (canon k neg e (val xs))) := by
  by_cases h02 : k = 0 ∨ k = 2
  · exact canonical_zi k h02 neg e A c xs w h
  · by_cases h3 : k = 3
    · subst h3; exact canonical_nan neg e A c xs w h
    · by_cases h1 : k = 1
      · subst h1
        by_cases hb : val xs = 0 ∨ e < -1048576 ∨ 1048576 < e
        · exact canonical_bad neg e A c xs w h hb
        · exact canonical_fin neg e A c xs w hT h hl (fun h0 => hb (.inl h0)) (by omega) (by omega)
      · exact canonical_else k neg e A c xs.length _ w (fun h => h02 (.inl h)) h1 (fun h => h02 (.inr h)) h3
end Go.Proofs.YtehlmacgjlgjaaaGreatDoor
namespace Go.Proofs.YtehlmacgjlgjaaaGreatDoor
open Go.RowKit
attribute [local go_sem ↓] Go.wp_at_zero Go.wp_at_succ

/-- A box with a format. -/
structure Bf (w : World) (g : Nat) (a b : Value) : Prop where
  h : w.heap[g]? = some (.cells #[a, b] 23 (0, 0))
theorem Bf.ext {w w' : World} {g : Nat} {a b : Value} (x : Bf w g a b) (h : Ext w w') : Bf w' g a b := ⟨(h.block g (Array.getElem?_eq_some_iff.1 x.h).1).trans x.h⟩
theorem Bf.lt {w : World} {g : Nat} {a b : Value} (x : Bf w g a b) : g < w.heap.size := (Array.getElem?_eq_some_iff.1 x.h).1
theorem Bf.facts {w : World} {g : Nat} {a b : Value} (x : Bf w g a b) : w.cell? ⟨g, 0, none⟩ = some a ∧ w.cell? ⟨g, 1, none⟩ = some b := by
  have h := x.h
  refine ⟨?_, ?_⟩ <;> rw [cell_of_row w g _ _ _ _ h] <;> rfl
theorem Bf.new (w : World) (a b : Value) : Bf (w.alloc (.cells #[a, b] 23)) w.heap.size a b := ⟨heap_alloc_new w _⟩
theorem canon_kind {k : Int} {neg : Bool} {e : Int} {m : Nat} {f : Fl} (h : canon k neg e m = some f) : f.kind = k := by
  unfold canon at h
  split at h
  · split at h
    · obtain rfl := Option.some.inj h; rfl
    · cases h
  · split at h
    · rename_i h3
      split at h
      · obtain rfl := Option.some.inj h; exact h3.symm
      · cases h
    · split at h
      · rename_i h1
        split at h
        · cases h
        · split at h
          · obtain rfl := Option.some.inj h; exact h1.symm
          · cases h
      · cases h
theorem canon_fin {neg : Bool} {e : Int} {m : Nat} {f : Fl} (h : canon 1 neg e m = some f) :
    f = ⟨1, neg, e + tz m, m / 2 ^ tz m⟩ ∧ 0 < m ∧ -1048576 ≤ e ∧ e + tz m ≤ 1048576 := by
  unfold canon at h
  rw [if_neg (by omega), if_neg (by omega), if_pos rfl] at h
  split at h
  · cases h
  · split at h
    · exact ⟨(Option.some.inj h).symm, by omega, by omega, by omega⟩
    · cases h
/-- What of a canonical float one walks with. -/
structure Fl.Ok (f : Fl) : Prop where
  lo : -1048576 ≤ f.exp
  hi : f.exp ≤ 1048576
  kind : 0 ≤ f.kind ∧ f.kind ≤ 3
  odd : f.kind = 1 → f.mag % 2 = 1
  zero : f.kind ≠ 1 → f.mag = 0 ∧ f.exp = 0
  nan : f.kind = 3 → f.neg = false
theorem canon_ok {k : Int} {neg : Bool} {e : Int} {m : Nat} {f : Fl} (h : canon k neg e m = some f) : f.Ok := by
  by_cases h1 : k = 1
  · subst h1
    obtain ⟨rfl, h2, h3, h4⟩ := canon_fin h
    exact ⟨by simp only; omega, h4, by simp, fun _ => (tz_div m h2).2, fun h => absurd rfl h, fun h => by simp at h⟩
  · unfold canon at h
    split at h
    · rename_i hk
      split at h
      · obtain rfl := Option.some.inj h
        exact ⟨by simp, by simp, by simp only; omega, fun h => absurd h h1, fun _ => ⟨rfl, rfl⟩, fun h => by simp only at h; omega⟩
      · cases h
    · split at h
      · split at h
        · obtain rfl := Option.some.inj h
          exact ⟨by simp, by simp, by simp, fun h => by simp at h, fun _ => ⟨rfl, rfl⟩, fun _ => rfl⟩
        · cases h
      · first | (rw [if_neg h1] at h; cases h) | cases h
theorem canon_mag {k : Int} {neg : Bool} {e : Int} {m : Nat} {f : Fl} (h : canon k neg e m = some f) : f.mag ≤ m := by
  by_cases h1 : k = 1
  · subst h1
    obtain ⟨rfl, -, -, -⟩ := canon_fin h
    exact Nat.div_le_self _ _
  · have := (canon_ok h).zero (by rw [canon_kind h]; exact h1)
    omega
theorem cn_len_of_le {m : Nat} {xs : List Nat} (h : W64 xs) (hm : m ≤ val xs) : (cn m).length ≤ xs.length := Nat.le_trans (cn_len_mono hm) (cn_val_le h)

/-- Whether a canonical float is one of a right format. -/
def InF (k p : Int) (f : Fl) : Prop := f.kind = 1 → (bl f.mag : Int) ≤ p ∧ ti k p ≤ f.exp ∧ f.exp + bl f.mag - 1 ≤ gr k
instance (k p : Int) (f : Fl) : Decidable (InF k p f) := by unfold InF; infer_instance
def holdS (k p : Int) (o : Option Fl) : Option Fl := o.bind fun f => if InF k p f then some f else none
theorem FlR.ext {w w' : World} {base : Nat} {f : Fl} {u : Value} (h : FlR w base f u) (hb : Ext w w') : FlR w' base f u := by
  obtain ⟨v, rfl, ho⟩ := h; exact ⟨v, rfl, ho.ext hb⟩
theorem FlR.low {w : World} {base b : Nat} {f : Fl} {u : Value} (h : FlR w base f u) (hb : b ≤ base) : FlR w b f u := by
  obtain ⟨v, rfl, ho⟩ := h; exact ⟨v, rfl, ho.low hb⟩
theorem FlR.set {w : World} {base : Nat} {f : Fl} {u : Value} (h : FlR w base f u) {a : Addr} (ha : a.block < base) (x : Value) : FlR (w.setCell a x) base f u := by
  obtain ⟨v, rfl, ho⟩ := h; exact ⟨v, rfl, ho.setBelow ha x⟩
set_option maxHeartbeats 4000000 in
set_option maxRecDepth 100000 in
theorem holds_c (k p : Int) (hR : Rgt k p) (kd : Int) (neg : Bool) (e : Int) (A : Option Addr) (c : Nat) (xs : List Nat) (w : World) (hT : Tab w) (h : Rd w A c xs) (hl : xs.length ≤ 10000000) :
    Calls Tryz.prog 59 #[.agg #[.int .i64 k, .int .i64 p], flV kd neg e (.slice A xs.length c)] w (CanR w (holdS k p (canon kd neg e (val xs)))) := by
  have hc := fun w hT h => canonical_c kd neg e A c xs w hT h hl
  have hok := fun f => canon_ok (k := kd) (neg := neg) (e := e) (m := val xs) (f := f)
  have hml := fun f hf => cn_len_of_le h.w64 (canon_mag (k := kd) (neg := neg) (e := e) (m := val xs) (f := f) hf)
  generalize canon kd neg e (val xs) = o at hc hok hml ⊢
  obtain ⟨OF, hOF⟩ : ∃ OF, OF = Obj.cells #[Value.int IntKind.i64 k, Value.int IntKind.i64 p] 23 := ⟨_, rfl⟩
  obtain ⟨OX, hOX⟩ : ∃ OX, OX = Obj.cells #[Value.int IntKind.i64 kd, Value.bool neg, Value.int IntKind.i64 e, Value.slice A xs.length c] 29 := ⟨_, rfl⟩
  have hE : Ext w (((w.alloc OF).alloc OX).alloc (Obj.cells #[Value.int IntKind.i64 0, Value.bool false, Value.int IntKind.i64 0, Value.slice none 0 0] 29)) := (((Ext.refl w).al _).al _).al _
  have hxR := Bx.new ((w.alloc OF).alloc OX) (.int .i64 0) (.bool false) (.int .i64 0) (.slice none 0 0)
  have hxF := ((Bf.new w (.int .i64 k) (.int .i64 p)).ext ((Ext.refl _).al OX)).ext ((Ext.refl _).al (Obj.cells #[Value.int IntKind.i64 0, Value.bool false, Value.int IntKind.i64 0, Value.slice none 0 0] 29))
  rw [← hOF] at hxF
  simp only [World.size_alloc] at hxR
  subst hOF hOX
  cases o with
  | none =>
    go_enter Tryz.func59, Tryz.ntmps59
    go_wp2_with (go_at_call 38; refine (hc _ (hT.ext hE) (h.ext hE)).mono ?_; rintro e w1 ⟨u, rfl, hb, -, k1, n1, e1, A1, l1, c1, rfl⟩; obtain ⟨r0, r1, r2, r3, rf⟩ := (hxR.ext hb).facts; have hz : w.heap.size + 1 + 1 < w1.heap.size := (hxR.ext hb).lt; simp only [Option.isSome])
    have hE1 := hE.tr hb
    have hq := ((hxR.ext hb).put (.int .i64 k1) (.bool n1) (.int .i64 e1) (.slice A1 l1 c1)).ext ((Ext.refl _).al (Obj.cells #[Value.int IntKind.i64 k1, Value.bool n1, Value.int IntKind.i64 e1, Value.slice A1 l1 c1] 29))
    obtain ⟨q0, q1, q2, q3, -⟩ := hq.facts
    refine bodyPost_ret (v := .tuple #[flV k1 n1 e1 (.slice A1 l1 c1), .bool false]) (by simp [results, Tryz.results59, go_sem, q0, q1, q2, q3]) rfl ?_
    exact CanR.bad (by repeat (with_reducible first | exact Ext.refl _ | exact hE | refine Ext.set ?_ (by omega) _ _ | refine Ext.al ?_ _ | refine Ext.drewN ?_ _ | refine Ext.drew ?_ | exact hE1)) _ _ _ _ _ _
  | some f =>
    obtain ⟨fk, fn, fe, fm⟩ := f
    have hokf := hok _ rfl
    have hmlf := hml _ rfl
    clear hok hml
    by_cases hk1 : fk = 1
    · subst hk1
      have hbl := bl_val_le (W64.cn fm)
      rw [val_cn] at hbl
      have hgr := gr_bd hR.1 hR.2.1
      have hti : ti k p = 1 - gr k - (p - 1) := rfl
      have hrng := fun w => range_yes k p w hR
      obtain ⟨hfo1, hfo2, -, -, -, -⟩ := hokf
      simp only at hfo1 hfo2
      have hp := hR.2.2
      have hInF : InF k p ⟨1, fn, fe, fm⟩ ↔ ((bl fm : Int) ≤ p ∧ ti k p ≤ fe ∧ fe + bl fm - 1 ≤ gr k) := ⟨fun h => h rfl, fun h _ => h⟩
      have HIN := Lib.hid hInF
      generalize gr k = G at *
      generalize ti k p = T at *
      generalize le k = L at *
      subst hti
      clear hInF
      go_enter Tryz.func59, Tryz.ntmps59
      go_wp2_with (first
        | (go_at_call 38; refine (hc _ (hT.ext hE) (h.ext hE)).mono ?_; rintro e w1 ⟨u, rfl, hb, hfl, -⟩; obtain ⟨v, rfl, ho⟩ := hfl _ rfl; obtain ⟨A1, c1, rfl, hr1⟩ := ho.rd; obtain ⟨r0, r1, r2, r3, rf⟩ := (hxR.ext hb).facts; have hz : w.heap.size + 1 + 1 < w1.heap.size := (hxR.ext hb).lt; obtain ⟨f1, f2⟩ := (hxF.ext hb).facts; have hz0 : w.heap.size < w1.heap.size := (hxF.ext hb).lt; simp only [Option.isSome]))
      refine (hrng _).mono ?_
      rintro e w2 ⟨rfl, hb2⟩
      have hY := (Bx.new w1 (.int .i64 1) (.bool fn) (.int .i64 fe) (.slice A1 (cn fm).length c1)).ext hb2
      have hR2 := ((hxR.ext hb).ext ((Ext.refl w1).al (Obj.cells #[Value.int IntKind.i64 1, Value.bool fn, Value.int IntKind.i64 fe, Value.slice A1 (cn fm).length c1] 29))).ext hb2
      have hF2 := ((hxF.ext hb).ext ((Ext.refl w1).al (Obj.cells #[Value.int IntKind.i64 1, Value.bool fn, Value.int IntKind.i64 fe, Value.slice A1 (cn fm).length c1] 29))).ext hb2
      have hrd2 := (hr1.ext ((Ext.refl w1).al (Obj.cells #[Value.int IntKind.i64 1, Value.bool fn, Value.int IntKind.i64 fe, Value.slice A1 (cn fm).length c1] 29))).ext hb2
      have hE2 := ((hE.tr hb).al (Obj.cells #[Value.int IntKind.i64 1, Value.bool fn, Value.int IntKind.i64 fe, Value.slice A1 (cn fm).length c1] 29)).tr hb2
      have ho2 := (ho.ext ((Ext.refl w1).al (Obj.cells #[Value.int IntKind.i64 1, Value.bool fn, Value.int IntKind.i64 fe, Value.slice A1 (cn fm).length c1] 29))).ext hb2
      obtain ⟨y0, y1, y2, y3, -⟩ := hY.facts
      obtain ⟨g1, g2⟩ := hF2.facts
      obtain ⟨s0, s1, s2, s3, sf⟩ := hR2.facts
      clear r0 r1 r2 r3 rf f1 f2 hb2
      go_wp2_with (go_at_call 28; refine (len_c A1 c1 (cn fm) _ hrd2 (by omega)).mono ?_; rintro e w3 ⟨rfl, n, rfl⟩; rw [val_cn])
      have hlast : ∀ b : Bool, b = decide (InF k p ⟨1, fn, fe, fm⟩) → ∀ W, Ext w W → Own W w.heap.size (.slice A1 (cn fm).length c1) (cn fm) →
          CanR w (holdS k p (some ⟨1, fn, fe, fm⟩)) (.returned (.tuple #[flV 1 fn fe (.slice A1 (cn fm).length c1), .bool b])) W := by
        intro b hb W hW hO
        refine ⟨flV 1 fn fe (.slice A1 (cn fm).length c1), ?_, hW, fun f hf => ?_, _, _, _, _, _, _, rfl⟩
        · subst hb
          by_cases hin : InF k p ⟨1, fn, fe, fm⟩ <;> simp [holdS, hin]
        · by_cases hin : InF k p ⟨1, fn, fe, fm⟩
          · simp [holdS, hin] at hf
            subst hf
            exact ⟨_, rfl, hO⟩
          · simp [holdS, hin] at hf
      have HLAST := Lib.hid hlast
      clear hlast
      have hYl := hY.lt
      have hRl := hxR.lt
      have hsz2 := hE2.size
      have hne : ¬ w.heap.size + 1 + 1 = w1.heap.size := by omega
      have hput := fun n => ((hR2.ext ((Ext.refl w2).drewN n)).put (.int .i64 1) (.bool fn) (.int .i64 fe) (.slice A1 (cn fm).length c1)).facts
      have hown : ∀ n, Own ((((((w2.drewN n).setCell ⟨w.heap.size + 1 + 1, 0, none⟩ (.int .i64 1)).setCell ⟨w.heap.size + 1 + 1, 1, none⟩ (.bool fn)).setCell ⟨w.heap.size + 1 + 1, 2, none⟩ (.int .i64 fe)).setCell ⟨w.heap.size + 1 + 1, 3, none⟩ (.slice A1 (cn fm).length c1))) w.heap.size (.slice A1 (cn fm).length c1) (cn fm) :=
        fun n => ((ho2.ext ((Ext.refl w2).drewN n)).putBelow (g := w.heap.size + 1 + 1) hRl _ _ _ _).low hE.size
      have HPUT := Lib.hid hput
      have HOWN := Lib.hid hown
      clear hput hown
      generalize bl fm = ℓ at *
      have hwr1 : IntKind.i64.wrap (fe + (ℓ : Int)) = fe + ℓ := by rw [IntKind.wrap_i64]; omega
      have hwr2 : IntKind.i64.wrap (fe + (ℓ : Int) - 1) = fe + ℓ - 1 := by rw [IntKind.wrap_i64]; omega
      have hcases : (decide ((ℓ : Int) ≤ p) = false ∧ Hid (¬ InF k p ⟨1, fn, fe, fm⟩)) ∨ (decide ((ℓ : Int) ≤ p) = true ∧ decide (1 - G - (p - 1) ≤ fe) = false ∧ Hid (¬ InF k p ⟨1, fn, fe, fm⟩)) ∨
          (decide ((ℓ : Int) ≤ p) = true ∧ decide (1 - G - (p - 1) ≤ fe) = true ∧ decide (fe + (ℓ : Int) - 1 ≤ G) = false ∧ Hid (¬ InF k p ⟨1, fn, fe, fm⟩)) ∨
          (decide ((ℓ : Int) ≤ p) = true ∧ decide (1 - G - (p - 1) ≤ fe) = true ∧ decide (fe + (ℓ : Int) - 1 ≤ G) = true ∧ Hid (InF k p ⟨1, fn, fe, fm⟩)) := by
        have h1 := HIN.out
        by_cases a1 : (ℓ : Int) ≤ p
        · by_cases a2 : 1 - G - (p - 1) ≤ fe
          · by_cases a3 : fe + (ℓ : Int) - 1 ≤ G
            · exact .inr (.inr (.inr ⟨by simpa using a1, by simpa using a2, by simpa using a3, h1.2 ⟨a1, a2, a3⟩⟩))
            · exact .inr (.inr (.inl ⟨by simpa using a1, by simpa using a2, by simpa using a3, fun h => a3 (h1.1 h).2.2⟩))
          · exact .inr (.inl ⟨by simpa using a1, by simpa using a2, fun h => a2 (h1.1 h).2.1⟩)
        · exact .inl ⟨by simpa using a1, fun h => a1 (h1.1 h).1⟩
      clear HIN hfo1 hfo2 hp hgr hbl
      rcases hcases with ⟨d1, HF⟩ | ⟨d1, d2, HF⟩ | ⟨d1, d2, d3, HF⟩ | ⟨d1, d2, d3, HF⟩
      iterate 3
        · clear hc hrng hr1 hrd2 ho2
          go_region
          go_wp2
          obtain ⟨q0, q1, q2, q3, -⟩ := HPUT.out (n + 1)
          refine bodyPost_ret (v := .tuple #[flV 1 fn fe (.slice A1 (cn fm).length c1), .bool false]) (by simp [results, Tryz.results59, go_sem, q0, q1, q2, q3]) rfl ?_
          exact HLAST.out false (by rw [decide_eq_false HF.out]) _ (by repeat (with_reducible first | exact hE2 | refine Ext.set ?_ (by omega) _ _ | refine Ext.al ?_ _ | refine Ext.drewN ?_ _ | refine Ext.drew ?_)) (HOWN.out (n + 1))
      · clear hc hrng hr1 hrd2 ho2
        go_region
        go_wp2
        obtain ⟨q0, q1, q2, q3, -⟩ := HPUT.out (n + 1)
        refine bodyPost_ret (v := .tuple #[flV 1 fn fe (.slice A1 (cn fm).length c1), .bool true]) (by simp [results, Tryz.results59, go_sem, q0, q1, q2, q3]) rfl ?_
        exact HLAST.out true (by rw [decide_eq_true HF.out]) _ (by repeat (with_reducible first | exact hE2 | refine Ext.set ?_ (by omega) _ _ | refine Ext.al ?_ _ | refine Ext.drewN ?_ _ | refine Ext.drew ?_)) (HOWN.out (n + 1))
    · have hkb : (fk != 1) = true := by simpa using hk1
      have hS : holdS k p (some ⟨fk, fn, fe, fm⟩) = some ⟨fk, fn, fe, fm⟩ := by
        simp only [holdS, Option.bind_some]; rw [if_pos (show InF k p ⟨fk, fn, fe, fm⟩ from fun h => absurd h hk1)]
      have HS := Lib.hid hS
      clear hS hk1 hokf hmlf
      go_enter Tryz.func59, Tryz.ntmps59
      go_wp2_with (go_at_call 38; refine (hc _ (hT.ext hE) (h.ext hE)).mono ?_; rintro e w1 ⟨u, rfl, hb, hfl, -⟩; obtain ⟨v, rfl, ho⟩ := hfl _ rfl; obtain ⟨A1, c1, rfl, hr1⟩ := ho.rd; obtain ⟨r0, r1, r2, r3, rf⟩ := (hxR.ext hb).facts; have hz : w.heap.size + 1 + 1 < w1.heap.size := (hxR.ext hb).lt; simp only [Option.isSome])
      have hE1 := hE.tr hb
      have hq := ((hxR.ext hb).put (.int .i64 fk) (.bool fn) (.int .i64 fe) (.slice A1 (cn fm).length c1)).ext ((Ext.refl _).al (Obj.cells #[Value.int IntKind.i64 fk, Value.bool fn, Value.int IntKind.i64 fe, Value.slice A1 (cn fm).length c1] 29))
      obtain ⟨q0, q1, q2, q3, -⟩ := hq.facts
      refine bodyPost_ret (v := .tuple #[flV fk fn fe (.slice A1 (cn fm).length c1), .bool true]) (by simp [results, Tryz.results59, go_sem, q0, q1, q2, q3]) rfl ?_
      rw [HS.out]
      refine ⟨_, rfl, (by repeat (with_reducible first | exact Ext.refl _ | exact hE | refine Ext.set ?_ (by omega) _ _ | refine Ext.al ?_ _ | refine Ext.drewN ?_ _ | refine Ext.drew ?_ | exact hE1)), fun f hf => ?_, _, _, _, _, _, _, rfl⟩
      obtain rfl := Option.some.inj hf
      exact ⟨_, rfl, ((ho.putBelow (g := w.heap.size + 1 + 1) hxR.lt _ _ _ _).low hE.size).ext ((Ext.refl _).al _)⟩
end Go.Proofs.YtehlmacgjlgjaaaGreatDoor
