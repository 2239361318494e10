/- the reference's floats: odd, Good, Canonical, Is; the laws' Is. -/
import Derived.Test.YtlnfmngginihfaaGreatDoorS1
set_option linter.unusedVariables false
set_option linter.unusedSimpArgs false
namespace Go.Proofs.YtlnfmngginihfaaGreatDoor
open Go.RowKit

theorem tz_val_le {xs : List Nat} (h : W64 xs) (hl : xs.length ≤ 4096) : tz (val xs) ≤ 262144 := by
  have h1 := tz_le_bl (val xs)
  have h2 := bl_val_le h
  omega
set_option maxHeartbeats 1000000 in
set_option maxRecDepth 100000 in
theorem rodd_c (k e : Int) (neg : Bool) (A : Option Addr) (c : Nat) (xs : List Nat) (w : World) (h : Rd w A c xs) (hl : xs.length ≤ 4096) (he1 : -1048576 ≤ e) (he2 : e ≤ 1048576) :
    Calls Tryz.prog 38 #[flV k neg e (.slice A xs.length c)] w fun z w' => ∃ v, z = .returned (.tuple #[v, .int .i64 (e + tz (val xs))]) ∧ Own w' w.heap.size v (cn (val xs / 2 ^ tz (val xs))) ∧ Ext w w' := by
  have hA := (Ext.refl w).al (.cells #[.int .i64 k, .bool neg, .int .i64 e, .slice A xs.length c] 42)
  have hX := Br.new w (.int .i64 k) (.bool neg) (.int .i64 e) (.slice A xs.length c)
  have ht := tz_val_le h.w64 hl
  have h1 := fun w h => rbits_c A c xs w h (by omega)
  have h2 := fun w h => rright_c A c xs (tz (val xs)) w h (by omega) (by omega)
  generalize val xs / 2 ^ tz (val xs) = q at *
  generalize tz (val xs) = t at *
  generalize pc (val xs) = o at *
  have hw : IntKind.i64.wrap (e + (t : Int)) = e + t := by rw [IntKind.wrap_i64]; omega
  have HA := Lib.hid hA
  have HX := Lib.hid hX
  clear hA hX
  go_enter Tryz.func38, Tryz.ntmps38
  go_wp2_with fail
  refine (h1 _ (h.ext HA.out)).mono ?_
  rintro z w1 ⟨rfl, rfl⟩
  have hX := HX.out
  have hA := HA.out
  go_wp2_with fail
  obtain ⟨x0, x1, x2, x3, -⟩ := hX.facts
  generalize w.alloc (.cells #[.int .i64 k, .bool neg, .int .i64 e, .slice A xs.length c] 42) = W at *
  clear HX HA h1
  go_region_held3 (fun w' => w'.cell? ⟨w.heap.size, 2, none⟩ = some (.int .i64 e) ∧ w'.cell? ⟨w.heap.size, 3, none⟩ = some (.slice A xs.length c))
    (first | go_keep | (go_split_ands; refine ⟨?_, ?_⟩ <;> (refine Ext.cell (w := W) (by assumption) ?_; assumption)))
    ((go_at_call 62; (with_reducible refine (h2 _ ((h.ext hA).drew)).mono ?_); rintro z w2 ⟨v, rfl, ho, hb⟩; have hE2 : Ext W w2 := (Ext.refl W).drew.tr hb))
  go_wp2
  go_ret2
  exact ⟨_, rfl, ho.low hA.size, hA.tr hE2⟩
theorem canon_zi {k : Int} (hk : k = 0 ∨ k = 2) (neg : Bool) (e : Int) (m : Nat) : (canon k neg e m).isSome = decide (e = 0 ∧ m = 0) := by
  unfold canon; rw [if_pos hk]; split <;> simp_all
theorem canon_nan (neg : Bool) (e : Int) (m : Nat) : (canon 3 neg e m).isSome = decide (neg = false ∧ e = 0 ∧ m = 0) := by
  unfold canon; rw [if_neg (by omega), if_pos rfl]; split <;> simp_all
theorem canon_else {k : Int} (h0 : k ≠ 0) (h1 : k ≠ 1) (h2 : k ≠ 2) (h3 : k ≠ 3) (neg : Bool) (e : Int) (m : Nat) : (canon k neg e m).isSome = false := by
  unfold canon; rw [if_neg (by omega), if_neg h3, if_neg h1]; rfl
theorem canon_one_no {neg : Bool} {e : Int} {m : Nat} (h : m = 0 ∨ e < -1048576 ∨ 1048576 < e) : (canon 1 neg e m).isSome = false := by
  unfold canon; rw [if_neg (by omega), if_neg (by omega), if_pos rfl, if_pos h]; rfl
theorem canon_one_yes {neg : Bool} {e : Int} {m : Nat} (h : ¬ (m = 0 ∨ e < -1048576 ∨ 1048576 < e)) : (canon 1 neg e m).isSome = decide (e + tz m ≤ 1048576) := by
  unfold canon; rw [if_neg (by omega), if_neg (by omega), if_pos rfl, if_neg h]; split <;> simp_all
set_option maxHeartbeats 1000000 in
set_option maxRecDepth 100000 in
theorem rgood_c (k e : Int) (neg : Bool) (A : Option Addr) (c : Nat) (xs : List Nat) (w : World) (h : Rd w A c xs) (hl : xs.length ≤ 4096) :
    Calls Tryz.prog 35 #[flV k neg e (.slice A xs.length c)] w fun z w' => z = .returned (.bool (canon k neg e (val xs)).isSome) ∧ Ext w w' := by
  have hA := (Ext.refl w).al (.cells #[.int .i64 k, .bool neg, .int .i64 e, .slice A xs.length c] 42)
  have hz := fun w h => riszero_c A c xs w h (by omega)
  by_cases k02 : k = 0 ∨ k = 2
  · have hc := canon_zi k02 neg e (val xs)
    generalize val xs = m at *
    by_cases he : e = 0
    · rw [hc, show decide (e = 0 ∧ m = 0) = decide (m = 0) by simp [he]]
      generalize decide (m = 0) = b at *
      subst he
      clear hc
      rcases k02 with rfl | rfl
      all_goals
        go_enter Tryz.func35, Tryz.ntmps35
        go_wp2_with (go_at_call 56; refine (hz _ (h.ext hA)).mono ?_; rintro z w1 ⟨rfl, rfl⟩)
        go_ret
        exact ⟨rfl, hA⟩
    · rw [hc, show decide (e = 0 ∧ m = 0) = false by simp [he]]
      have he2 : (e == 0) = false := by rw [beq_eq_false_iff_ne]; exact he
      clear hc he
      rcases k02 with rfl | rfl
      all_goals
        go_enter Tryz.func35, Tryz.ntmps35
        go_wp2
        go_ret
        exact ⟨rfl, hA⟩
  by_cases k3 : k = 3
  · subst k3
    clear k02
    have hc := canon_nan neg e (val xs)
    generalize val xs = m at *
    cases neg
    · by_cases he : e = 0
      · rw [hc, show decide (false = false ∧ e = 0 ∧ m = 0) = decide (m = 0) by simp [he]]
        generalize decide (m = 0) = b at *
        subst he
        clear hc
        go_enter Tryz.func35, Tryz.ntmps35
        go_wp2_with (go_at_call 56; refine (hz _ (h.ext hA)).mono ?_; rintro z w1 ⟨rfl, rfl⟩)
        go_ret
        exact ⟨rfl, hA⟩
      · rw [hc, show decide (false = false ∧ e = 0 ∧ m = 0) = false by simp [he]]
        have he2 : (e == 0) = false := by rw [beq_eq_false_iff_ne]; exact he
        clear hc he
        go_enter Tryz.func35, Tryz.ntmps35
        go_wp2
        go_ret
        exact ⟨rfl, hA⟩
    · rw [hc, show decide (true = false ∧ e = 0 ∧ m = 0) = false by simp]
      clear hc
      go_enter Tryz.func35, Tryz.ntmps35
      go_wp2
      go_ret
      exact ⟨rfl, hA⟩
  by_cases k1 : k = 1
  · subst k1
    clear k02 k3
    by_cases hm : val xs = 0
    · rw [canon_one_no (.inl hm)]
      rw [show decide (val xs = 0) = true by simpa using hm] at hz
      clear hm
      go_enter Tryz.func35, Tryz.ntmps35
      go_wp2_with (go_at_call 56; refine (hz _ (h.ext hA)).mono ?_; rintro z w1 ⟨rfl, rfl⟩)
      go_ret
      exact ⟨rfl, hA⟩
    · rw [show decide (val xs = 0) = false by simpa using hm] at hz
      by_cases he1 : e < -1048576
      · rw [canon_one_no (.inr (.inl he1))]
        have b1 : decide (e < -1048576) = true := by simpa using he1
        clear hm he1
        go_enter Tryz.func35, Tryz.ntmps35
        go_wp2_with (go_at_call 56; refine (hz _ (h.ext hA)).mono ?_; rintro z w1 ⟨rfl, rfl⟩)
        go_ret
        exact ⟨rfl, hA⟩
      have b1 : decide (e < -1048576) = false := by simpa using he1
      by_cases he2 : 1048576 < e
      · rw [canon_one_no (.inr (.inr he2))]
        have b2 : decide (1048576 < e) = true := by simpa using he2
        clear hm he1 he2
        go_enter Tryz.func35, Tryz.ntmps35
        go_wp2_with (go_at_call 56; refine (hz _ (h.ext hA)).mono ?_; rintro z w1 ⟨rfl, rfl⟩)
        go_ret
        exact ⟨rfl, hA⟩
      have b2 : decide (1048576 < e) = false := by simpa using he2
      have ho := fun w h => rodd_c 1 e neg A c xs w h hl (by omega) (by omega)
      rw [canon_one_yes (by omega)]
      have ht := tz_val_le h.w64 hl
      generalize tz (val xs) = t at *
      obtain ⟨b, hb⟩ : ∃ b, decide (e + (t : Int) ≤ 1048576) = b := ⟨_, rfl⟩
      rw [hb]
      clear hm he1 he2
      go_enter Tryz.func35, Tryz.ntmps35
      go_wp2_with (first
        | (go_at_call 56; refine (hz _ (h.ext hA)).mono ?_; rintro z w1 ⟨rfl, rfl⟩)
        | (go_at_call 38; refine (ho _ (h.ext hA)).mono ?_; rintro z w1 ⟨v, rfl, ho1, hb1⟩))
      go_ret
      exact ⟨rfl, hA.tr hb1⟩
  · have k0 : k ≠ 0 := fun h => k02 (.inl h)
    have k2 : k ≠ 2 := fun h => k02 (.inr h)
    rw [canon_else k0 k1 k2 k3]
    have b0 : (k == 0) = false := by rw [beq_eq_false_iff_ne]; exact k0
    have b1 : (k == 1) = false := by rw [beq_eq_false_iff_ne]; exact k1
    have b2 : (k == 2) = false := by rw [beq_eq_false_iff_ne]; exact k2
    have b3 : (k == 3) = false := by rw [beq_eq_false_iff_ne]; exact k3
    clear k0 k1 k2 k3 k02
    go_enter Tryz.func35, Tryz.ntmps35
    go_wp2
    go_ret
    exact ⟨rfl, hA⟩
theorem canon_not1 {k : Int} {neg : Bool} {e : Int} {m : Nat} {f : Fl} (hk : k ≠ 1) (h : canon k neg e m = some f) : f = ⟨k, neg, 0, 0⟩ := by
  unfold canon at h
  split at h
  · split at h
    · exact (Option.some.inj h).symm
    · cases h
  · split at h
    · rename_i h3
      split at h
      · rename_i hn
        rw [← Option.some.inj h, h3, hn.1]
      · cases h
    · first | (rw [if_neg hk] at h; cases h) | cases h
set_option maxHeartbeats 1000000 in
set_option maxRecDepth 100000 in
theorem rcanonical_c (k e : Int) (neg : Bool) (A : Option Addr) (c : Nat) (xs : List Nat) (w : World) (h : Rd w A c xs) (hl : xs.length ≤ 4096) (f : Fl) (hf : canon k neg e (val xs) = some f) :
    Calls Tryz.prog 22 #[flV k neg e (.slice A xs.length c)] w fun z w' => ∃ u, z = .returned u ∧ FlR w' w.heap.size f u ∧ Ext w w' := by
  by_cases hk : k = 1
  · subst hk
    obtain ⟨rfl, h0, h1, h2⟩ := canon_fin hf
    have ho := fun w h => rodd_c 1 e neg A c xs w h hl h1 (by omega)
    have hX := Br.new w (.int .i64 1) (.bool neg) (.int .i64 e) (.slice A xs.length c)
    have hA := (Ext.refl w).al (.cells #[.int .i64 1, .bool neg, .int .i64 e, .slice A xs.length c] 42)
    have hA2 := hA.al (.cells #[.int .i64 0, .bool false, .int .i64 0, .slice none 0 0] 42)
    have hX2 := hX.ext ((Ext.refl _).al (.cells #[.int .i64 0, .bool false, .int .i64 0, .slice none 0 0] 42))
    have hY2 := Br.new (w.alloc (.cells #[.int .i64 1, .bool neg, .int .i64 e, .slice A xs.length c] 42)) (.int .i64 0) (.bool false) (.int .i64 0) (.slice none 0 0)
    rw [World.size_alloc] at hY2
    generalize val xs / 2 ^ tz (val xs) = q at *
    generalize tz (val xs) = t at *
    clear hf h0 h1 h2
    go_enter Tryz.func22, Tryz.ntmps22
    go_wp2_with fail
    refine (ho _ (h.ext hA2)).mono ?_
    rintro z w1 ⟨v, rfl, ho1, hb1⟩
    obtain ⟨x0, x1, x2, x3, -⟩ := (hX2.ext hb1).facts
    obtain ⟨y0, y1, y2, y3, yf⟩ := (hY2.ext hb1).facts
    obtain ⟨A1, c1, rfl, -⟩ := ho1.rd
    have hl1 := (hX2.ext hb1).lt
    have hl2 := (hY2.ext hb1).lt
    go_wp2
    obtain ⟨q0, q1, q2, q3, -⟩ := ((hY2.ext hb1).put (.int .i64 1) (.bool neg) (.int .i64 (e + (t : Int))) (.slice A1 (cn q).length c1)).facts
    refine bodyPost_ret (v := flV 1 neg (e + (t : Int)) (.slice A1 (cn q).length c1)) (by simp [results, Tryz.results22, go_sem, q0, q1, q2, q3]) rfl ?_
    exact ⟨_, rfl, ⟨_, rfl, (ho1.putBelow (g := w.heap.size + 1) (by simp [World.size_alloc]) _ _ _ _).low (by simp [World.size_alloc]; omega)⟩, (hA2.tr hb1).put (by omega) _ _ _ _⟩
  · obtain rfl := canon_not1 hk hf
    have hb : (k != 1) = true := by rw [bne_iff_ne]; exact hk
    clear hf hk
    go_enter Tryz.func22, Tryz.ntmps22
    go_wp2
    refine bodyPost_ret (v := flV k neg 0 (.slice none 0 0)) (by simp [results, Tryz.results22, go_sem]) rfl ?_
    exact ⟨_, rfl, ⟨_, rfl, by rw [show cn 0 = [] from digs_zero B]; exact Own.nil _ _⟩, by repeat (with_reducible first | exact Ext.refl _ | refine Ext.set ?_ (by simp) _ _ | refine Ext.al ?_ _ | refine Ext.drewN ?_ _ | refine Ext.drew ?_)⟩
end Go.Proofs.YtlnfmngginihfaaGreatDoor
