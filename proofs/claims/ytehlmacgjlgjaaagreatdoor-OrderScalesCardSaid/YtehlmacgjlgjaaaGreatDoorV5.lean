/- the reference's Top, Normal and Bottom. -/
import Derived.Test.YtehlmacgjlgjaaaGreatDoorV4
set_option linter.unusedVariables false
set_option linter.unusedSimpArgs false
namespace Go.Proofs.YtehlmacgjlgjaaaGreatDoor
open Go.RowKit
attribute [local go_sem ↓] Go.wp_at_zero Go.wp_at_succ

/-- A float in new memory. -/
def FlrR (w : World) (f : Fl) (z : Ending) (w' : World) : Prop := ∃ u, z = .returned u ∧ FlR w' w.heap.size f u ∧ Ext w w'
theorem Bg.apart {w : World} {g g' : Nat} {a b : Value} (x : Bg w g a b) (hne : g ≠ g') (a' b' c' d' : Value) : Bg ((((w.setCell ⟨g', 0, none⟩ a').setCell ⟨g', 1, none⟩ b').setCell ⟨g', 2, none⟩ c').setCell ⟨g', 3, none⟩ d') g a b := by
  refine ⟨?_⟩
  rw [Below.heap_setCell _ _ _ _ (by simpa using hne), Below.heap_setCell _ _ _ _ (by simpa using hne), Below.heap_setCell _ _ _ _ (by simpa using hne), Below.heap_setCell _ _ _ _ (by simpa using hne)]
  exact x.h
theorem boxesG (w : World) (k p : Int) : ∀ W, W = ((w.alloc (.cells #[.int .i64 k, .int .i64 p] 47)).alloc (.cells #[.int .i64 0, .bool false, .int .i64 0, .slice none 0 0] 41)) → Bg W w.heap.size (.int .i64 k) (.int .i64 p) ∧ Br W (w.heap.size + 1) (.int .i64 0) (.bool false) (.int .i64 0) (.slice none 0 0) ∧ Ext w W := by
  rintro W rfl
  have h1 := (Ext.refl w).al (.cells #[.int .i64 k, .int .i64 p] 47)
  have x1 := Br.new (w.alloc (.cells #[.int .i64 k, .int .i64 p] 47)) (.int .i64 0) (.bool false) (.int .i64 0) (.slice none 0 0)
  rw [World.size_alloc] at x1
  exact ⟨(Bg.new w _ _).ext ((Ext.refl _).al _), x1, h1.al _⟩
set_option maxHeartbeats 4000000 in
set_option maxRecDepth 100000 in
theorem rtop_c (k p : Int) (w : World) (h : Rgt k p) : Calls Tryz.prog 105 #[.agg #[.int .i64 k, .int .i64 p]] w (FlrR w ⟨1, false, gr k - p + 1, 2 ^ p.toNat - 1⟩) := by
  obtain ⟨hF, hY, hE⟩ := boxesG w k p _ rfl
  have hgt := fun w => rgreat_c k p w h.1 h.2.1
  have hfw := fun w => rfrom_c 1 w (by decide +kernel)
  obtain ⟨hk1, hk2, hp1, hp2⟩ := h
  have hg := gr_bd hk1 hk2
  obtain ⟨hl1, hl2, hl3⟩ := top_len hp1 hp2
  have hle := fun A c w h => rleft_i A c (cn 1) p w h (by omega) (by omega) (by rw [cn_one]; simp)
  rw [val_cn, Nat.one_mul] at hle
  have hsb := fun A c A' c' w h h' => rsub_c A A' c c' (cn (2 ^ p.toNat)) (cn 1) w h h' (by rw [val_cn, val_cn]; exact hl3) (by omega) (by rw [cn_one]; simp)
  rw [val_cn, val_cn] at hsb
  generalize cn 1 = ones at *
  generalize 2 ^ p.toNat - 1 = T at *
  generalize 2 ^ p.toNat = M at *
  generalize gr k = g at *
  have hw1 : IntKind.i64.wrap (g - p) = g - p := by rw [IntKind.wrap_i64]; omega
  have hw2 : IntKind.i64.wrap (g - p + 1) = g - p + 1 := by rw [IntKind.wrap_i64]; omega
  have HF := Lib.hid hF
  have HY := Lib.hid hY
  have HE := Lib.hid hE
  clear hF hY hE hl1 hl2 hl3
  go_enter Tryz.func105, Tryz.ntmps105
  go_wp2_with fail
  have hE := HE.out
  generalize ((w.alloc (.cells #[.int .i64 k, .int .i64 p] 47)).alloc (.cells #[.int .i64 0, .bool false, .int .i64 0, .slice none 0 0] 41)) = W at *
  refine (hfw _).mono ?_
  rintro z w1 ⟨v, rfl, ho1, hb1⟩
  obtain ⟨A1, c1, rfl, hr1⟩ := ho1.rd
  have hF1 := HF.out.ext hb1
  have hY1 := HY.out.ext hb1
  have hE1 := hE.tr hb1
  obtain ⟨f0, f1⟩ := hF1.facts
  have hs0 := HY.out.lt
  have hs1 := hb1.size
  go_wp2_with fail
  go_region_held3 (fun w' => w'.cell? ⟨w.heap.size, 0, none⟩ = some (.int .i64 k) ∧ w'.cell? ⟨w.heap.size, 1, none⟩ = some (.int .i64 p))
    (first | go_keep | (go_split_ands; refine ⟨?_, ?_⟩ <;> first | assumption | (refine Ext.cell (w := w1) ?_ ?_ <;> assumption)))
    (first
      | (go_at_call 69; (with_reducible refine (hgt _).mono ?_); rintro z w2 ⟨rfl, hb2⟩; have hE2 : Ext w1 w2 := (Ext.refl w1).drew.tr hb2)
      | (go_at_call 109; (with_reducible refine (hle A1 c1 _ (hr1.ext hE2)).mono ?_); rintro z w4 ⟨v, rfl, ho4, hb4⟩; obtain ⟨A4, c4, rfl, hr4⟩ := ho4.rd; have hE4 : Ext w1 w4 := hE2.tr hb4)
      | (go_at_call 133; (with_reducible refine (hsb A4 c4 A1 c1 _ hr4 (hr1.ext hE4)).mono ?_); rintro z w5 ⟨v, rfl, ho5, hb5⟩; obtain ⟨A5, c5, rfl, hr5⟩ := ho5.rd; have hE5 : Ext w1 w5 := hE4.tr hb5; have hX1 := hY1.ext hE5; obtain ⟨a0, a1, a2, a3, af⟩ := hX1.facts; obtain ⟨i0, i1⟩ := ((hF1.ext hE5).apart (g' := w.heap.size + 1) (by omega) (.int .i64 1) (.bool false) (.int .i64 (g - p + 1)) (.slice A5 (cn T).length c5)).facts))
  have hs4 := hE4.size
  have hR := hX1.put (.int .i64 1) (.bool false) (.int .i64 (g - p + 1)) (.slice A5 (cn T).length c5)
  have qo := (ho5.putBelow (g := w.heap.size + 1) (by omega) (.int .i64 1) (.bool false) (.int .i64 (g - p + 1)) (.slice A5 (cn T).length c5)).low (b := w.heap.size) (by omega)
  have qE := (hE1.tr hE5).put (g := w.heap.size + 1) (by omega) (.int .i64 1) (.bool false) (.int .i64 (g - p + 1)) (.slice A5 (cn T).length c5)
  have HR := Lib.hid hR
  have QO := Lib.hid qo
  have QE := Lib.hid qE
  clear hR qo qE
  go_wp2
  obtain ⟨m0, m1, m2, m3, -⟩ := HR.out.facts
  refine bodyPost_ret (v := flV 1 false (g - p + 1) (.slice A5 (cn T).length c5)) (by simp [results, Tryz.results105, go_sem, m0, m1, m2, m3]) rfl ?_
  exact ⟨_, rfl, ⟨_, rfl, QO.out⟩, QE.out⟩
end Go.Proofs.YtehlmacgjlgjaaaGreatDoor
