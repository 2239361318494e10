/- package format: canonical, the other kinds. -/
import Derived.Test.YtgkojhhodncpbaaDoorF2
set_option linter.unusedVariables false
set_option linter.unusedSimpArgs false
namespace Go.Proofs.YtgkojhhodncpbaaDoor
open Go.RowKit
attribute [local go_sem ↓] Go.wp_at_zero Go.wp_at_succ

theorem CanR.bad {w W : World} (hE : Ext w W) (k' e' : Int) (neg' : Bool) (A : Option Addr) (n c : Nat) : CanR w none (.returned (.tuple #[flV k' neg' e' (.slice A n c), .bool false])) W :=
  ⟨_, rfl, hE, fun f h => (by cases h), _, _, _, _, _, _, rfl⟩
theorem CanR.good {w W : World} (hE : Ext w W) (k' : Int) (neg' : Bool) : CanR w (some ⟨k', neg', 0, 0⟩) (.returned (.tuple #[flV k' neg' 0 (.slice none 0 0), .bool true])) W :=
  ⟨_, rfl, hE, fun f h => (by obtain rfl := Option.some.inj h; exact ⟨_, rfl, by rw [show cn 0 = [] from digs_zero B]; exact Own.nil _ _⟩), _, _, _, _, _, _, rfl⟩
set_option maxHeartbeats 4000000 in
set_option maxRecDepth 100000 in
/-- A kind that is none. -/
theorem canonical_else (k : Int) (neg : Bool) (e : Int) (A : Option Addr) (c n : Nat) (m : Nat) (w : World) (h0 : k ≠ 0) (h1 : k ≠ 1) (h2 : k ≠ 2) (h3 : k ≠ 3) :
    Calls Tryd.prog 71 #[flV k neg e (.slice A n c)] w (CanR w (canon k neg e m)) := by
  have b0 : (k == 0) = false := by simpa using h0
  have b1 : (k == 1) = false := by simpa using h1
  have b2 : (k == 2) = false := by simpa using h2
  have b3 : (k == 3) = false := by simpa using h3
  have hcan : canon k neg e m = none := by
    unfold canon
    rw [if_neg (by omega), if_neg h3, if_neg h1]
  have HC := Lib.hid hcan
  clear hcan h0 h1 h2 h3
  go_enter Tryd.func71, Tryd.ntmps71
  go_wp2
  refine bodyPost_ret (v := .tuple #[flV 0 false 0 (.slice none 0 0), .bool false]) (by simp [results, Tryd.results71, go_sem]) rfl ?_
  rw [HC.out]
  exact CanR.bad (by repeat (with_reducible first | exact Ext.refl _ | refine Ext.set ?_ (by simp) _ _ | refine Ext.al ?_ _ | refine Ext.drewN ?_ _ | refine Ext.drew ?_)) _ _ _ _ _ _
set_option maxHeartbeats 4000000 in
set_option maxRecDepth 100000 in
theorem canonical_bad (neg : Bool) (e : Int) (A : Option Addr) (c : Nat) (xs : List Nat) (w : World) (h : Rd w A c xs) (hb : val xs = 0 ∨ e < -1048576 ∨ 1048576 < e) :
    Calls Tryd.prog 71 #[flV 1 neg e (.slice A xs.length c)] w (CanR w (canon 1 neg e (val xs))) := by
  have hz := fun w h => zero_c A c xs w h
  have hcan : canon 1 neg e (val xs) = none := by
    unfold canon
    rw [if_neg (by omega), if_neg (by omega), if_pos rfl, if_pos hb]
  have HC := Lib.hid hcan
  clear hcan
  rcases Nat.eq_zero_or_pos (val xs) with h0 | h0
  · rw [show decide (val xs = 0) = true by simpa using h0] at hz
    clear hb h0
    go_enter Tryd.func71, Tryd.ntmps71
    go_wp2_with (go_at_call 69; refine (hz _ (h.ext ?_)).mono ?_; (exact ((Ext.refl w).al _).al _); rintro e w1 ⟨rfl, n, rfl⟩)
    refine bodyPost_ret (v := .tuple #[flV 0 false 0 (.slice none 0 0), .bool false]) (by simp [results, Tryd.results71, go_sem]) rfl ?_
    rw [HC.out]
    exact CanR.bad (by repeat (with_reducible first | exact Ext.refl _ | refine Ext.set ?_ (by simp) _ _ | refine Ext.al ?_ _ | refine Ext.drewN ?_ _ | refine Ext.drew ?_)) _ _ _ _ _ _
  · rw [show decide (val xs = 0) = false by simp; omega] at hz
    rcases (show e < -1048576 ∨ (¬ e < -1048576 ∧ 1048576 < e) by omega) with he | ⟨he, he2⟩
    · have b1 : decide (e < -1048576) = true := by simpa using he
      clear hb h0 he
      go_enter Tryd.func71, Tryd.ntmps71
      go_wp2_with (go_at_call 69; refine (hz _ (h.ext ?_)).mono ?_; (exact ((Ext.refl w).al _).al _); rintro e w1 ⟨rfl, n, rfl⟩)
      refine bodyPost_ret (v := .tuple #[flV 0 false 0 (.slice none 0 0), .bool false]) (by simp [results, Tryd.results71, go_sem]) rfl ?_
      rw [HC.out]
      exact CanR.bad (by repeat (with_reducible first | exact Ext.refl _ | refine Ext.set ?_ (by simp) _ _ | refine Ext.al ?_ _ | refine Ext.drewN ?_ _ | refine Ext.drew ?_)) _ _ _ _ _ _
    · have b1 : decide (e < -1048576) = false := by simpa using he
      have b2 : decide (1048576 < e) = true := by simpa using he2
      clear hb h0 he he2
      go_enter Tryd.func71, Tryd.ntmps71
      go_wp2_with (go_at_call 69; refine (hz _ (h.ext ?_)).mono ?_; (exact ((Ext.refl w).al _).al _); rintro e w1 ⟨rfl, n, rfl⟩)
      refine bodyPost_ret (v := .tuple #[flV 0 false 0 (.slice none 0 0), .bool false]) (by simp [results, Tryd.results71, go_sem]) rfl ?_
      rw [HC.out]
      exact CanR.bad (by repeat (with_reducible first | exact Ext.refl _ | refine Ext.set ?_ (by simp) _ _ | refine Ext.al ?_ _ | refine Ext.drewN ?_ _ | refine Ext.drew ?_)) _ _ _ _ _ _
set_option maxHeartbeats 4000000 in
set_option maxRecDepth 100000 in
/-- NaN. -/
theorem canonical_nan (neg : Bool) (e : Int) (A : Option Addr) (c : Nat) (xs : List Nat) (w : World) (h : Rd w A c xs) :
    Calls Tryd.prog 71 #[flV 3 neg e (.slice A xs.length c)] w (CanR w (canon 3 neg e (val xs))) := by
  have hz := fun w h => zero_c A c xs w h
  have hcan : canon 3 neg e (val xs) = if neg = false ∧ e = 0 ∧ val xs = 0 then some ⟨3, false, 0, 0⟩ else none := by
    unfold canon
    rw [if_neg (by omega), if_pos rfl]
  have HC := Lib.hid hcan
  clear hcan
  cases neg
  · by_cases he : e = 0
    · subst he
      by_cases h0 : val xs = 0
      · rw [show decide (val xs = 0) = true by simpa using h0] at hz
        have H0 := Lib.hid h0
        clear h0
        go_enter Tryd.func71, Tryd.ntmps71
        go_wp2_with (go_at_call 69; refine (hz _ (h.ext ?_)).mono ?_; (exact ((Ext.refl w).al _).al _); rintro e w1 ⟨rfl, n, rfl⟩)
        refine bodyPost_ret (v := .tuple #[flV 3 false 0 (.slice none 0 0), .bool true]) (by simp [results, Tryd.results71, go_sem]) rfl ?_
        rw [HC.out, if_pos (by simpa using H0.out)]
        exact CanR.good (by repeat (with_reducible first | exact Ext.refl _ | refine Ext.set ?_ (by simp) _ _ | refine Ext.al ?_ _ | refine Ext.drewN ?_ _ | refine Ext.drew ?_)) _ _
      · rw [show decide (val xs = 0) = false by simpa using h0] at hz
        have H0 := Lib.hid h0
        clear h0
        go_enter Tryd.func71, Tryd.ntmps71
        go_wp2_with (go_at_call 69; refine (hz _ (h.ext ?_)).mono ?_; (exact ((Ext.refl w).al _).al _); rintro e w1 ⟨rfl, n, rfl⟩)
        refine bodyPost_ret (v := .tuple #[flV 3 false 0 (.slice none 0 0), .bool false]) (by simp [results, Tryd.results71, go_sem]) rfl ?_
        rw [HC.out, if_neg (fun h => H0.out h.2.2)]
        exact CanR.bad (by repeat (with_reducible first | exact Ext.refl _ | refine Ext.set ?_ (by simp) _ _ | refine Ext.al ?_ _ | refine Ext.drewN ?_ _ | refine Ext.drew ?_)) _ _ _ _ _ _
    · have he' : (e == 0) = false := by simpa using he
      have H0 := Lib.hid he
      clear he
      go_enter Tryd.func71, Tryd.ntmps71
      go_wp2
      refine bodyPost_ret (v := .tuple #[flV 3 false 0 (.slice none 0 0), .bool false]) (by simp [results, Tryd.results71, go_sem]) rfl ?_
      rw [HC.out, if_neg (fun h => H0.out h.2.1)]
      exact CanR.bad (by repeat (with_reducible first | exact Ext.refl _ | refine Ext.set ?_ (by simp) _ _ | refine Ext.al ?_ _ | refine Ext.drewN ?_ _ | refine Ext.drew ?_)) _ _ _ _ _ _
  · go_enter Tryd.func71, Tryd.ntmps71
    go_wp2
    refine bodyPost_ret (v := .tuple #[flV 3 false 0 (.slice none 0 0), .bool false]) (by simp [results, Tryd.results71, go_sem]) rfl ?_
    rw [HC.out, if_neg (fun h => by cases h.1)]
    exact CanR.bad (by repeat (with_reducible first | exact Ext.refl _ | refine Ext.set ?_ (by simp) _ _ | refine Ext.al ?_ _ | refine Ext.drewN ?_ _ | refine Ext.drew ?_)) _ _ _ _ _ _
set_option maxHeartbeats 4000000 in
set_option maxRecDepth 100000 in
/-- Zero and Infinite. -/
theorem canonical_zi (k : Int) (hk : k = 0 ∨ k = 2) (neg : Bool) (e : Int) (A : Option Addr) (c : Nat) (xs : List Nat) (w : World) (h : Rd w A c xs) :
    Calls Tryd.prog 71 #[flV k neg e (.slice A xs.length c)] w (CanR w (canon k neg e (val xs))) := by
  have hz := fun w h => zero_c A c xs w h
  have hcan : canon k neg e (val xs) = if e = 0 ∧ val xs = 0 then some ⟨k, neg, 0, 0⟩ else none := by
    unfold canon
    rw [if_pos hk]
  have HC := Lib.hid hcan
  clear hcan
  have hE : Ext w ((w.alloc (Obj.cells #[Value.int IntKind.i64 k, Value.bool neg, Value.int IntKind.i64 e, Value.slice A xs.length c] 36)).alloc (Obj.cells #[Value.int IntKind.i64 0, Value.bool false, Value.int IntKind.i64 0, Value.slice none 0 0] 36)) := ((Ext.refl w).al _).al _
  have hx1 := (Bx.new w (.int .i64 k) (.bool neg) (.int .i64 e) (.slice A xs.length c)).ext ((Ext.refl _).al (.cells #[.int .i64 0, .bool false, .int .i64 0, .slice none 0 0] 36))
  have hx2 := Bx.new (w.alloc (.cells #[.int .i64 k, .bool neg, .int .i64 e, .slice A xs.length c] 36)) (.int .i64 0) (.bool false) (.int .i64 0) (.slice none 0 0)
  rw [World.size_alloc] at hx2
  have hb : (k == 0) = true ∨ ((k == 0) = false ∧ (k == 2) = true) := by rcases hk with rfl | rfl <;> simp
  clear hk
  rcases hb with b0 | ⟨b0, b2⟩
  all_goals
    by_cases he : e = 0
    · subst he
      obtain ⟨b, hb⟩ : ∃ b, decide (val xs = 0) = b := ⟨_, rfl⟩
      rw [hb] at hz
      have HB := Lib.hid hb
      clear hb
      go_enter Tryd.func71, Tryd.ntmps71
      go_wp2
      generalize ((w.alloc (Obj.cells #[Value.int IntKind.i64 k, Value.bool neg, Value.int IntKind.i64 0, Value.slice A xs.length c] 36)).alloc (Obj.cells #[Value.int IntKind.i64 0, Value.bool false, Value.int IntKind.i64 0, Value.slice none 0 0] 36)) = W at *
      obtain ⟨c0, c1, c2, c3, -⟩ := hx1.facts
      obtain ⟨d0, d1, d2, d3, df⟩ := hx2.facts
      have hrd := h.ext hE
      go_region_held3 (fun w' => w'.cell? ⟨w.heap.size, 0, none⟩ = some (.int .i64 k) ∧ w'.cell? ⟨w.heap.size, 1, none⟩ = some (.bool neg) ∧ w'.cell? ⟨w.heap.size, 2, none⟩ = some (.int .i64 0) ∧ w'.cell? ⟨w.heap.size, 3, none⟩ = some (.slice A xs.length c)) (go_keep)
        (first | (go_at_call 69; refine (hz _ hrd.drew).mono ?_; rintro e w1 ⟨rfl, n, rfl⟩))
      go_wp2
      obtain ⟨q0, q1, q2, q3, -⟩ := ((hx2.ext ((Ext.refl W).drewN (1 + n))).put (.int .i64 k) (.bool neg) (.int .i64 0) (.slice none 0 0)).facts
      refine bodyPost_ret (v := .tuple #[flV k neg 0 (.slice none 0 0), .bool b]) (by simp [results, Tryd.results71, go_sem, q0, q1, q2, q3]) rfl ?_
      rw [HC.out]
      have hb := HB.out
      cases b
      · rw [if_neg (fun h => by simp [h.2] at hb)]
        exact CanR.bad (by repeat (with_reducible first | exact hE | refine Ext.set ?_ (by simp) _ _ | refine Ext.al ?_ _ | refine Ext.drewN ?_ _ | refine Ext.drew ?_)) _ _ _ _ _ _
      · rw [if_pos (by simpa using hb)]
        exact CanR.good (by repeat (with_reducible first | exact hE | refine Ext.set ?_ (by simp) _ _ | refine Ext.al ?_ _ | refine Ext.drewN ?_ _ | refine Ext.drew ?_)) _ _
    · have he' : (e == 0) = false := by simpa using he
      have H0 := Lib.hid he
      clear he
      go_enter Tryd.func71, Tryd.ntmps71
      go_wp2
      generalize ((w.alloc (Obj.cells #[Value.int IntKind.i64 k, Value.bool neg, Value.int IntKind.i64 e, Value.slice A xs.length c] 36)).alloc (Obj.cells #[Value.int IntKind.i64 0, Value.bool false, Value.int IntKind.i64 0, Value.slice none 0 0] 36)) = W at *
      obtain ⟨c0, c1, c2, c3, -⟩ := hx1.facts
      obtain ⟨d0, d1, d2, d3, df⟩ := hx2.facts
      go_region
      go_wp2
      obtain ⟨q0, q1, q2, q3, -⟩ := (hx2.put (.int .i64 k) (.bool neg) (.int .i64 0) (.slice none 0 0)).facts
      refine bodyPost_ret (v := .tuple #[flV k neg 0 (.slice none 0 0), .bool false]) (by simp [results, Tryd.results71, go_sem, q0, q1, q2, q3]) rfl ?_
      rw [HC.out, if_neg (fun h => H0.out h.1)]
      exact CanR.bad (by repeat (with_reducible first | exact hE | refine Ext.set ?_ (by simp) _ _ | refine Ext.al ?_ _ | refine Ext.drewN ?_ _ | refine Ext.drew ?_)) _ _ _ _ _ _
/-- format.canonical, at every float. -/
theorem canonical_c (k : Int) (neg : Bool) (e : Int) (A : Option Addr) (c : Nat) (xs : List Nat) (w : World) (hT : Tab w) (h : Rd w A c xs) (hl : xs.length ≤ 10000000) :
    Calls Tryd.prog 71 #[flV k neg e (.slice A xs.length c)] w (CanR w (canon k neg e (val xs))) := by
  by_cases h02 : k = 0 ∨ k = 2
  · exact canonical_zi k h02 neg e A c xs w h
  · by_cases h3 : k = 3
    · subst h3; exact canonical_nan neg e A c xs w h
    · by_cases h1 : k = 1
      · subst h1
        by_cases hb : val xs = 0 ∨ e < -1048576 ∨ 1048576 < e
        · exact canonical_bad neg e A c xs w h hb
        · exact canonical_fin neg e A c xs w hT h hl (fun h0 => hb (.inl h0)) (by omega) (by omega)
      · exact canonical_else k neg e A c xs.length _ w (fun h => h02 (.inl h)) h1 (fun h => h02 (.inr h)) h3
end Go.Proofs.YtgkojhhodncpbaaDoor
