/- The reference's Least and Most (package 21). -/
import Derived.Test.YtcdgkhmiolhfdaaGreatDoorRA
set_option linter.unusedVariables false
set_option linter.unusedSimpArgs false
namespace Go.Proofs.YtcdgkhmiolhfdaaGreatDoor
open Go.RowKit
attribute [local go_sem ↓] Go.wp_at_zero Go.wp_at_succ

theorem boxesR3 (w : World) (a b c d a' b' c' d' : Value) : ∀ W, W = (((w.alloc (.cells #[a, b, c, d] 40)).alloc (.cells #[a', b', c', d'] 40)).alloc (.cells #[.int .i64 0, .bool false, .int .i64 0, .slice none 0 0] 40)) →
    Br W w.heap.size a b c d ∧ Br W (w.heap.size + 1) a' b' c' d' ∧ Br W (w.heap.size + 1 + 1) (.int .i64 0) (.bool false) (.int .i64 0) (.slice none 0 0) ∧ Ext w W := by
  rintro W rfl
  obtain ⟨h1, h2, h3⟩ := boxesR2 w a b c d a' b' c' d' _ rfl
  have x3 := Br.new ((w.alloc (.cells #[a, b, c, d] 40)).alloc (.cells #[a', b', c', d'] 40)) (.int .i64 0) (.bool false) (.int .i64 0) (.slice none 0 0)
  rw [World.size_alloc, World.size_alloc] at x3
  exact ⟨h1.ext ((Ext.refl _).al _), h2.ext ((Ext.refl _).al _), x3, h3.al _⟩
theorem cho_least {k p : Int} {f g : Fl} (hR : Rgt k p) (hf : FOf k p f) (hg : FOf k p g) (h1 : f.kind ≠ 3) (h2 : g.kind ≠ 3) : choF k p f g (-1) = if totF k p g f < 0 then g else f := by
  have t1 := tot_key hR hf hg
  have t2 := tot_key hR hg hf
  have hin := key_inj hR hf hg
  unfold choF
  rw [if_neg h1, t1, t2]
  unfold sgn
  by_cases h3 : key k p f = key k p g
  · rw [hin h3]
    simp
  · by_cases h4 : key k p f < key k p g
    · rw [if_pos (.inr (by rw [if_pos (by omega)])), if_neg (by (repeat' split) <;> omega)]
    · rw [if_neg (by rintro (h | h); exact h2 h; (repeat' split at h) <;> omega), if_pos (by rw [if_pos (by omega)]; decide)]
theorem cho_most {k p : Int} {f g : Fl} (hR : Rgt k p) (hf : FOf k p f) (hg : FOf k p g) (h1 : f.kind ≠ 3) (h2 : g.kind ≠ 3) : choF k p f g 1 = if 0 < totF k p g f then g else f := by
  have t1 := tot_key hR hf hg
  have t2 := tot_key hR hg hf
  have hin := key_inj hR hf hg
  unfold choF
  rw [if_neg h1, t1, t2]
  unfold sgn
  by_cases h3 : key k p f = key k p g
  · rw [hin h3]
    simp
  · by_cases h4 : key k p g < key k p f
    · rw [if_pos (.inr (by rw [if_neg (by omega), if_pos (by omega)])), if_neg (by (repeat' split) <;> omega)]
    · rw [if_neg (by rintro (h | h); exact h2 h; (repeat' split at h) <;> omega), if_pos (by rw [if_neg (by omega), if_pos (by omega)]; decide)]
theorem cho_of {k p : Int} {f g : Fl} (side : Int) (hf : FOf k p f) (hg : FOf k p g) : FOf k p (choF k p f g side) := by
  unfold choF
  split
  · exact hg
  · split
    · exact hf
    · exact hg
/-- Is, at a float that is canonical. -/
theorem lis_own (f : Fl) (hok : f.Ok) (hl : (cn f.mag).length ≤ 4096) (A A' : Option Addr) (c c' : Nat) (w : World) (h : Rd w A c (cn f.mag)) (h' : Rd w A' c' (cn f.mag)) :
    Calls Tryz.prog 19 #[flV f.kind f.neg f.exp (.slice A (cn f.mag).length c), flV f.kind f.neg f.exp (.slice A' (cn f.mag).length c')] w fun z w' => z = .returned (.bool true) ∧ Ext w w' := by
  have h1 := lis_c f.kind f.kind f.exp f.exp f.neg f.neg A A' c c' (cn f.mag) (cn f.mag) w h h' hl f (by rw [val_cn]; exact canon_self hok)
  rwa [show decide (f.kind = f.kind ∧ f.neg = f.neg ∧ f.exp = f.exp ∧ cn f.mag = cn f.mag) = true by simp] at h1
set_option maxHeartbeats 4000000 in
set_option maxRecDepth 100000 in
theorem rleast21_c (k p : Int) (hR : Rgt k p) (a b : FA) (f g : Fl) (hfc : a.can = some f) (hgc : b.can = some g) (hf : FOf k p f) (hg : FOf k p g) (la : a.xs.length ≤ 4096) (lb : b.xs.length ≤ 4096) (w : World) (ha : Rd w a.A a.c a.xs) (hb : Rd w b.A b.c b.xs) :
    Calls Tryz.prog 20 #[a.v, b.v] w fun z w' => ∃ u, z = .returned u ∧ FlR w' w.heap.size (choF k p f g (-1)) u ∧ Ext w w' := by
  obtain ⟨hX, hY, hZ, hE⟩ := boxesR3 w (.int .i64 a.k) (.bool a.neg) (.int .i64 a.e) (.slice a.A a.xs.length a.c) (.int .i64 b.k) (.bool b.neg) (.int .i64 b.e) (.slice b.A b.xs.length b.c) _ rfl
  have k1 := rcanonical_c a.k a.e a.neg a.A a.c a.xs
  have c1 := fun w h => k1 w h la f hfc
  have k2 := rcanonical_c b.k b.e b.neg b.A b.c b.xs
  have c2 := fun w h => k2 w h lb g hgc
  have htt := fun w h1 h2 => rototal_c k p hR b a g f hgc hfc hg hf lb la w h1 h2
  have hcs : ((a.k == 3) = true ∧ choF k p f g (-1) = g) ∨ ((a.k == 3) = false ∧ (b.k != 3) = false ∧ choF k p f g (-1) = f) ∨
      ((a.k == 3) = false ∧ (b.k != 3) = true ∧ decide (totF k p g f < 0) = true ∧ choF k p f g (-1) = g) ∨ ((a.k == 3) = false ∧ (b.k != 3) = true ∧ decide (totF k p g f < 0) = false ∧ choF k p f g (-1) = f) := by
    have e1 : f.kind = a.k := canon_kind hfc
    have e2 : g.kind = b.k := canon_kind hgc
    rw [← e1, ← e2]
    by_cases h1 : f.kind = 3
    · exact .inl ⟨by simpa using h1, by unfold choF; rw [if_pos h1]⟩
    · by_cases h2 : g.kind = 3
      · exact .inr (.inl ⟨by simpa using h1, by simpa using h2, by unfold choF; rw [if_neg h1, if_pos (.inl h2)]⟩)
      · have hch := cho_least hR hf hg h1 h2
        by_cases h3 : totF k p g f < 0
        · exact .inr (.inr (.inl ⟨by simpa using h1, by simpa using h2, decide_eq_true h3, by rw [hch, if_pos h3]⟩))
        · exact .inr (.inr (.inr ⟨by simpa using h1, by simpa using h2, decide_eq_false h3, by rw [hch, if_neg h3]⟩))
  unfold FlR at c1 c2 ⊢
  clear k1 k2 hfc hgc la lb hf hg hR
  generalize choF k p f g (-1) = Q at *
  generalize totF k p g f = T at *
  obtain ⟨ak, an, ae, aA, ac, axs⟩ := a
  obtain ⟨bk, bn, be, bA, bc, bxs⟩ := b
  simp only at ha hb hX hY hZ hE c1 c2 htt hcs
  have HX := Lib.hid hX
  have HY := Lib.hid hY
  have HZ := Lib.hid hZ
  have HE := Lib.hid hE
  clear hX hY hZ hE
  rcases hcs with ⟨e1, rfl⟩ | ⟨e1, e2, rfl⟩ | ⟨e1, e2, e3, rfl⟩ | ⟨e1, e2, e3, rfl⟩
  · go_enter Tryz.func20, Tryz.ntmps20
    go_wp2_with fail
    have hX := HX.out
    have hY := HY.out
    have hZ := HZ.out
    have hE := HE.out
    clear HX HY HZ HE
    generalize (((w.alloc (.cells #[.int .i64 ak, .bool an, .int .i64 ae, .slice aA axs.length ac] 40)).alloc (.cells #[.int .i64 bk, .bool bn, .int .i64 be, .slice bA bxs.length bc] 40)).alloc (.cells #[.int .i64 0, .bool false, .int .i64 0, .slice none 0 0] 40)) = W at *
    obtain ⟨x0, x1, x2, x3, -⟩ := hX.facts
    obtain ⟨y0, y1, y2, y3, -⟩ := hY.facts
    have hlr := hZ.lt
    refine (c2 _ (hb.ext hE)).mono ?_
    rintro z w4 ⟨u, rfl, ⟨v, rfl, ho4⟩, hb4⟩
    obtain ⟨A4, c4, rfl, hr4⟩ := ho4.rd
    have hZ4 := hZ.ext hb4
    obtain ⟨r0, r1, r2, r3, rf⟩ := hZ4.facts
    go_wp2
    have hZ5 := hZ4.put (.int .i64 Q.kind) (.bool Q.neg) (.int .i64 Q.exp) (.slice A4 (cn Q.mag).length c4)
    have hE5 := (hE.tr hb4).put (g := w.heap.size + 1 + 1) (by omega) (.int .i64 Q.kind) (.bool Q.neg) (.int .i64 Q.exp) (.slice A4 (cn Q.mag).length c4)
    have ho5 := (ho4.putBelow (g := w.heap.size + 1 + 1) (hlr) (.int .i64 Q.kind) (.bool Q.neg) (.int .i64 Q.exp) (.slice A4 (cn Q.mag).length c4)).low (b := w.heap.size) (hE.size)
    obtain ⟨s0, s1, s2, s3, -⟩ := hZ5.facts
    refine bodyPost_ret (v := flV Q.kind Q.neg Q.exp (.slice A4 (cn Q.mag).length c4)) (by simp [results, Tryz.results20, go_sem, s0, s1, s2, s3]) rfl ?_
    exact ⟨_, rfl, ⟨_, rfl, ho5⟩, hE5⟩
  · go_enter Tryz.func20, Tryz.ntmps20
    go_wp2_with fail
    have hX := HX.out
    have hY := HY.out
    have hZ := HZ.out
    have hE := HE.out
    clear HX HY HZ HE
    generalize (((w.alloc (.cells #[.int .i64 ak, .bool an, .int .i64 ae, .slice aA axs.length ac] 40)).alloc (.cells #[.int .i64 bk, .bool bn, .int .i64 be, .slice bA bxs.length bc] 40)).alloc (.cells #[.int .i64 0, .bool false, .int .i64 0, .slice none 0 0] 40)) = W at *
    obtain ⟨x0, x1, x2, x3, -⟩ := hX.facts
    obtain ⟨y0, y1, y2, y3, -⟩ := hY.facts
    have hlr := hZ.lt
    refine (c1 _ (ha.ext hE)).mono ?_
    rintro z w4 ⟨u, rfl, ⟨v, rfl, ho4⟩, hb4⟩
    obtain ⟨A4, c4, rfl, hr4⟩ := ho4.rd
    have hZ4 := hZ.ext hb4
    obtain ⟨r0, r1, r2, r3, rf⟩ := hZ4.facts
    go_wp2
    have hZ5 := hZ4.put (.int .i64 Q.kind) (.bool Q.neg) (.int .i64 Q.exp) (.slice A4 (cn Q.mag).length c4)
    have hE5 := (hE.tr hb4).put (g := w.heap.size + 1 + 1) (by omega) (.int .i64 Q.kind) (.bool Q.neg) (.int .i64 Q.exp) (.slice A4 (cn Q.mag).length c4)
    have ho5 := (ho4.putBelow (g := w.heap.size + 1 + 1) (hlr) (.int .i64 Q.kind) (.bool Q.neg) (.int .i64 Q.exp) (.slice A4 (cn Q.mag).length c4)).low (b := w.heap.size) (hE.size)
    obtain ⟨s0, s1, s2, s3, -⟩ := hZ5.facts
    refine bodyPost_ret (v := flV Q.kind Q.neg Q.exp (.slice A4 (cn Q.mag).length c4)) (by simp [results, Tryz.results20, go_sem, s0, s1, s2, s3]) rfl ?_
    exact ⟨_, rfl, ⟨_, rfl, ho5⟩, hE5⟩
  · go_enter Tryz.func20, Tryz.ntmps20
    go_wp2_with fail
    have hX := HX.out
    have hY := HY.out
    have hZ := HZ.out
    have hE := HE.out
    clear HX HY HZ HE
    generalize (((w.alloc (.cells #[.int .i64 ak, .bool an, .int .i64 ae, .slice aA axs.length ac] 40)).alloc (.cells #[.int .i64 bk, .bool bn, .int .i64 be, .slice bA bxs.length bc] 40)).alloc (.cells #[.int .i64 0, .bool false, .int .i64 0, .slice none 0 0] 40)) = W at *
    obtain ⟨x0, x1, x2, x3, -⟩ := hX.facts
    obtain ⟨y0, y1, y2, y3, -⟩ := hY.facts
    have hlr := hZ.lt
    refine (htt _ (hb.ext hE) (ha.ext hE)).mono ?_
    rintro z w3 ⟨rfl, hb3⟩
    have hE3 := hE.tr hb3
    have hZ3 := hZ.ext hb3
    have hlr3 := hZ3.lt
    clear x0 x1 x2 x3 y0 y1 y2 y3
    obtain ⟨x0, x1, x2, x3, -⟩ := (hX.ext hb3).facts
    obtain ⟨y0, y1, y2, y3, -⟩ := (hY.ext hb3).facts
    go_wp2_with fail
    refine (c2 _ (hb.ext hE3)).mono ?_
    rintro z w4 ⟨u, rfl, ⟨v, rfl, ho4⟩, hb4⟩
    obtain ⟨A4, c4, rfl, hr4⟩ := ho4.rd
    have hZ4 := hZ3.ext hb4
    obtain ⟨r0, r1, r2, r3, rf⟩ := hZ4.facts
    go_wp2
    have hZ5 := hZ4.put (.int .i64 Q.kind) (.bool Q.neg) (.int .i64 Q.exp) (.slice A4 (cn Q.mag).length c4)
    have hE5 := (hE3.tr hb4).put (g := w.heap.size + 1 + 1) (by omega) (.int .i64 Q.kind) (.bool Q.neg) (.int .i64 Q.exp) (.slice A4 (cn Q.mag).length c4)
    have ho5 := (ho4.putBelow (g := w.heap.size + 1 + 1) (hlr3) (.int .i64 Q.kind) (.bool Q.neg) (.int .i64 Q.exp) (.slice A4 (cn Q.mag).length c4)).low (b := w.heap.size) (hE3.size)
    obtain ⟨s0, s1, s2, s3, -⟩ := hZ5.facts
    refine bodyPost_ret (v := flV Q.kind Q.neg Q.exp (.slice A4 (cn Q.mag).length c4)) (by simp [results, Tryz.results20, go_sem, s0, s1, s2, s3]) rfl ?_
    exact ⟨_, rfl, ⟨_, rfl, ho5⟩, hE5⟩
  · go_enter Tryz.func20, Tryz.ntmps20
    go_wp2_with fail
    have hX := HX.out
    have hY := HY.out
    have hZ := HZ.out
    have hE := HE.out
    clear HX HY HZ HE
    generalize (((w.alloc (.cells #[.int .i64 ak, .bool an, .int .i64 ae, .slice aA axs.length ac] 40)).alloc (.cells #[.int .i64 bk, .bool bn, .int .i64 be, .slice bA bxs.length bc] 40)).alloc (.cells #[.int .i64 0, .bool false, .int .i64 0, .slice none 0 0] 40)) = W at *
    obtain ⟨x0, x1, x2, x3, -⟩ := hX.facts
    obtain ⟨y0, y1, y2, y3, -⟩ := hY.facts
    have hlr := hZ.lt
    refine (htt _ (hb.ext hE) (ha.ext hE)).mono ?_
    rintro z w3 ⟨rfl, hb3⟩
    have hE3 := hE.tr hb3
    have hZ3 := hZ.ext hb3
    have hlr3 := hZ3.lt
    clear x0 x1 x2 x3 y0 y1 y2 y3
    obtain ⟨x0, x1, x2, x3, -⟩ := (hX.ext hb3).facts
    obtain ⟨y0, y1, y2, y3, -⟩ := (hY.ext hb3).facts
    go_wp2_with fail
    refine (c1 _ (ha.ext hE3)).mono ?_
    rintro z w4 ⟨u, rfl, ⟨v, rfl, ho4⟩, hb4⟩
    obtain ⟨A4, c4, rfl, hr4⟩ := ho4.rd
    have hZ4 := hZ3.ext hb4
    obtain ⟨r0, r1, r2, r3, rf⟩ := hZ4.facts
    go_wp2
    have hZ5 := hZ4.put (.int .i64 Q.kind) (.bool Q.neg) (.int .i64 Q.exp) (.slice A4 (cn Q.mag).length c4)
    have hE5 := (hE3.tr hb4).put (g := w.heap.size + 1 + 1) (by omega) (.int .i64 Q.kind) (.bool Q.neg) (.int .i64 Q.exp) (.slice A4 (cn Q.mag).length c4)
    have ho5 := (ho4.putBelow (g := w.heap.size + 1 + 1) (hlr3) (.int .i64 Q.kind) (.bool Q.neg) (.int .i64 Q.exp) (.slice A4 (cn Q.mag).length c4)).low (b := w.heap.size) (hE3.size)
    obtain ⟨s0, s1, s2, s3, -⟩ := hZ5.facts
    refine bodyPost_ret (v := flV Q.kind Q.neg Q.exp (.slice A4 (cn Q.mag).length c4)) (by simp [results, Tryz.results20, go_sem, s0, s1, s2, s3]) rfl ?_
    exact ⟨_, rfl, ⟨_, rfl, ho5⟩, hE5⟩
set_option maxHeartbeats 4000000 in
set_option maxRecDepth 100000 in
theorem rmost21_c (k p : Int) (hR : Rgt k p) (a b : FA) (f g : Fl) (hfc : a.can = some f) (hgc : b.can = some g) (hf : FOf k p f) (hg : FOf k p g) (la : a.xs.length ≤ 4096) (lb : b.xs.length ≤ 4096) (w : World) (ha : Rd w a.A a.c a.xs) (hb : Rd w b.A b.c b.xs) :
    Calls Tryz.prog 21 #[a.v, b.v] w fun z w' => ∃ u, z = .returned u ∧ FlR w' w.heap.size (choF k p f g (1)) u ∧ Ext w w' := by
  obtain ⟨hX, hY, hZ, hE⟩ := boxesR3 w (.int .i64 a.k) (.bool a.neg) (.int .i64 a.e) (.slice a.A a.xs.length a.c) (.int .i64 b.k) (.bool b.neg) (.int .i64 b.e) (.slice b.A b.xs.length b.c) _ rfl
  have k1 := rcanonical_c a.k a.e a.neg a.A a.c a.xs
  have c1 := fun w h => k1 w h la f hfc
  have k2 := rcanonical_c b.k b.e b.neg b.A b.c b.xs
  have c2 := fun w h => k2 w h lb g hgc
  have htt := fun w h1 h2 => rototal_c k p hR b a g f hgc hfc hg hf lb la w h1 h2
  have hcs : ((a.k == 3) = true ∧ choF k p f g (1) = g) ∨ ((a.k == 3) = false ∧ (b.k != 3) = false ∧ choF k p f g (1) = f) ∨
      ((a.k == 3) = false ∧ (b.k != 3) = true ∧ decide (0 < totF k p g f) = true ∧ choF k p f g (1) = g) ∨ ((a.k == 3) = false ∧ (b.k != 3) = true ∧ decide (0 < totF k p g f) = false ∧ choF k p f g (1) = f) := by
    have e1 : f.kind = a.k := canon_kind hfc
    have e2 : g.kind = b.k := canon_kind hgc
    rw [← e1, ← e2]
    by_cases h1 : f.kind = 3
    · exact .inl ⟨by simpa using h1, by unfold choF; rw [if_pos h1]⟩
    · by_cases h2 : g.kind = 3
      · exact .inr (.inl ⟨by simpa using h1, by simpa using h2, by unfold choF; rw [if_neg h1, if_pos (.inl h2)]⟩)
      · have hch := cho_most hR hf hg h1 h2
        by_cases h3 : 0 < totF k p g f
        · exact .inr (.inr (.inl ⟨by simpa using h1, by simpa using h2, decide_eq_true h3, by rw [hch, if_pos h3]⟩))
        · exact .inr (.inr (.inr ⟨by simpa using h1, by simpa using h2, decide_eq_false h3, by rw [hch, if_neg h3]⟩))
  unfold FlR at c1 c2 ⊢
  clear k1 k2 hfc hgc la lb hf hg hR
  generalize choF k p f g (1) = Q at *
  generalize totF k p g f = T at *
  obtain ⟨ak, an, ae, aA, ac, axs⟩ := a
  obtain ⟨bk, bn, be, bA, bc, bxs⟩ := b
  simp only at ha hb hX hY hZ hE c1 c2 htt hcs
  have HX := Lib.hid hX
  have HY := Lib.hid hY
  have HZ := Lib.hid hZ
  have HE := Lib.hid hE
  clear hX hY hZ hE
  rcases hcs with ⟨e1, rfl⟩ | ⟨e1, e2, rfl⟩ | ⟨e1, e2, e3, rfl⟩ | ⟨e1, e2, e3, rfl⟩
  · go_enter Tryz.func21, Tryz.ntmps21
    go_wp2_with fail
    have hX := HX.out
    have hY := HY.out
    have hZ := HZ.out
    have hE := HE.out
    clear HX HY HZ HE
    generalize (((w.alloc (.cells #[.int .i64 ak, .bool an, .int .i64 ae, .slice aA axs.length ac] 40)).alloc (.cells #[.int .i64 bk, .bool bn, .int .i64 be, .slice bA bxs.length bc] 40)).alloc (.cells #[.int .i64 0, .bool false, .int .i64 0, .slice none 0 0] 40)) = W at *
    obtain ⟨x0, x1, x2, x3, -⟩ := hX.facts
    obtain ⟨y0, y1, y2, y3, -⟩ := hY.facts
    have hlr := hZ.lt
    refine (c2 _ (hb.ext hE)).mono ?_
    rintro z w4 ⟨u, rfl, ⟨v, rfl, ho4⟩, hb4⟩
    obtain ⟨A4, c4, rfl, hr4⟩ := ho4.rd
    have hZ4 := hZ.ext hb4
    obtain ⟨r0, r1, r2, r3, rf⟩ := hZ4.facts
    go_wp2
    have hZ5 := hZ4.put (.int .i64 Q.kind) (.bool Q.neg) (.int .i64 Q.exp) (.slice A4 (cn Q.mag).length c4)
    have hE5 := (hE.tr hb4).put (g := w.heap.size + 1 + 1) (by omega) (.int .i64 Q.kind) (.bool Q.neg) (.int .i64 Q.exp) (.slice A4 (cn Q.mag).length c4)
    have ho5 := (ho4.putBelow (g := w.heap.size + 1 + 1) (hlr) (.int .i64 Q.kind) (.bool Q.neg) (.int .i64 Q.exp) (.slice A4 (cn Q.mag).length c4)).low (b := w.heap.size) (hE.size)
    obtain ⟨s0, s1, s2, s3, -⟩ := hZ5.facts
    refine bodyPost_ret (v := flV Q.kind Q.neg Q.exp (.slice A4 (cn Q.mag).length c4)) (by simp [results, Tryz.results21, go_sem, s0, s1, s2, s3]) rfl ?_
    exact ⟨_, rfl, ⟨_, rfl, ho5⟩, hE5⟩
  · go_enter Tryz.func21, Tryz.ntmps21
    go_wp2_with fail
    have hX := HX.out
    have hY := HY.out
    have hZ := HZ.out
    have hE := HE.out
    clear HX HY HZ HE
    generalize (((w.alloc (.cells #[.int .i64 ak, .bool an, .int .i64 ae, .slice aA axs.length ac] 40)).alloc (.cells #[.int .i64 bk, .bool bn, .int .i64 be, .slice bA bxs.length bc] 40)).alloc (.cells #[.int .i64 0, .bool false, .int .i64 0, .slice none 0 0] 40)) = W at *
    obtain ⟨x0, x1, x2, x3, -⟩ := hX.facts
    obtain ⟨y0, y1, y2, y3, -⟩ := hY.facts
    have hlr := hZ.lt
    refine (c1 _ (ha.ext hE)).mono ?_
    rintro z w4 ⟨u, rfl, ⟨v, rfl, ho4⟩, hb4⟩
    obtain ⟨A4, c4, rfl, hr4⟩ := ho4.rd
    have hZ4 := hZ.ext hb4
    obtain ⟨r0, r1, r2, r3, rf⟩ := hZ4.facts
    go_wp2
    have hZ5 := hZ4.put (.int .i64 Q.kind) (.bool Q.neg) (.int .i64 Q.exp) (.slice A4 (cn Q.mag).length c4)
    have hE5 := (hE.tr hb4).put (g := w.heap.size + 1 + 1) (by omega) (.int .i64 Q.kind) (.bool Q.neg) (.int .i64 Q.exp) (.slice A4 (cn Q.mag).length c4)
    have ho5 := (ho4.putBelow (g := w.heap.size + 1 + 1) (hlr) (.int .i64 Q.kind) (.bool Q.neg) (.int .i64 Q.exp) (.slice A4 (cn Q.mag).length c4)).low (b := w.heap.size) (hE.size)
    obtain ⟨s0, s1, s2, s3, -⟩ := hZ5.facts
    refine bodyPost_ret (v := flV Q.kind Q.neg Q.exp (.slice A4 (cn Q.mag).length c4)) (by simp [results, Tryz.results21, go_sem, s0, s1, s2, s3]) rfl ?_
    exact ⟨_, rfl, ⟨_, rfl, ho5⟩, hE5⟩
  · go_enter Tryz.func21, Tryz.ntmps21
    go_wp2_with fail
    have hX := HX.out
    have hY := HY.out
    have hZ := HZ.out
    have hE := HE.out
    clear HX HY HZ HE
    generalize (((w.alloc (.cells #[.int .i64 ak, .bool an, .int .i64 ae, .slice aA axs.length ac] 40)).alloc (.cells #[.int .i64 bk, .bool bn, .int .i64 be, .slice bA bxs.length bc] 40)).alloc (.cells #[.int .i64 0, .bool false, .int .i64 0, .slice none 0 0] 40)) = W at *
    obtain ⟨x0, x1, x2, x3, -⟩ := hX.facts
    obtain ⟨y0, y1, y2, y3, -⟩ := hY.facts
    have hlr := hZ.lt
    refine (htt _ (hb.ext hE) (ha.ext hE)).mono ?_
    rintro z w3 ⟨rfl, hb3⟩
    have hE3 := hE.tr hb3
    have hZ3 := hZ.ext hb3
    have hlr3 := hZ3.lt
    clear x0 x1 x2 x3 y0 y1 y2 y3
    obtain ⟨x0, x1, x2, x3, -⟩ := (hX.ext hb3).facts
    obtain ⟨y0, y1, y2, y3, -⟩ := (hY.ext hb3).facts
    go_wp2_with fail
    refine (c2 _ (hb.ext hE3)).mono ?_
    rintro z w4 ⟨u, rfl, ⟨v, rfl, ho4⟩, hb4⟩
    obtain ⟨A4, c4, rfl, hr4⟩ := ho4.rd
    have hZ4 := hZ3.ext hb4
    obtain ⟨r0, r1, r2, r3, rf⟩ := hZ4.facts
    go_wp2
    have hZ5 := hZ4.put (.int .i64 Q.kind) (.bool Q.neg) (.int .i64 Q.exp) (.slice A4 (cn Q.mag).length c4)
    have hE5 := (hE3.tr hb4).put (g := w.heap.size + 1 + 1) (by omega) (.int .i64 Q.kind) (.bool Q.neg) (.int .i64 Q.exp) (.slice A4 (cn Q.mag).length c4)
    have ho5 := (ho4.putBelow (g := w.heap.size + 1 + 1) (hlr3) (.int .i64 Q.kind) (.bool Q.neg) (.int .i64 Q.exp) (.slice A4 (cn Q.mag).length c4)).low (b := w.heap.size) (hE3.size)
    obtain ⟨s0, s1, s2, s3, -⟩ := hZ5.facts
    refine bodyPost_ret (v := flV Q.kind Q.neg Q.exp (.slice A4 (cn Q.mag).length c4)) (by simp [results, Tryz.results21, go_sem, s0, s1, s2, s3]) rfl ?_
    exact ⟨_, rfl, ⟨_, rfl, ho5⟩, hE5⟩
  · go_enter Tryz.func21, Tryz.ntmps21
    go_wp2_with fail
    have hX := HX.out
    have hY := HY.out
    have hZ := HZ.out
    have hE := HE.out
    clear HX HY HZ HE
    generalize (((w.alloc (.cells #[.int .i64 ak, .bool an, .int .i64 ae, .slice aA axs.length ac] 40)).alloc (.cells #[.int .i64 bk, .bool bn, .int .i64 be, .slice bA bxs.length bc] 40)).alloc (.cells #[.int .i64 0, .bool false, .int .i64 0, .slice none 0 0] 40)) = W at *
    obtain ⟨x0, x1, x2, x3, -⟩ := hX.facts
    obtain ⟨y0, y1, y2, y3, -⟩ := hY.facts
    have hlr := hZ.lt
    refine (htt _ (hb.ext hE) (ha.ext hE)).mono ?_
    rintro z w3 ⟨rfl, hb3⟩
    have hE3 := hE.tr hb3
    have hZ3 := hZ.ext hb3
    have hlr3 := hZ3.lt
    clear x0 x1 x2 x3 y0 y1 y2 y3
    obtain ⟨x0, x1, x2, x3, -⟩ := (hX.ext hb3).facts
    obtain ⟨y0, y1, y2, y3, -⟩ := (hY.ext hb3).facts
    go_wp2_with fail
    refine (c1 _ (ha.ext hE3)).mono ?_
    rintro z w4 ⟨u, rfl, ⟨v, rfl, ho4⟩, hb4⟩
    obtain ⟨A4, c4, rfl, hr4⟩ := ho4.rd
    have hZ4 := hZ3.ext hb4
    obtain ⟨r0, r1, r2, r3, rf⟩ := hZ4.facts
    go_wp2
    have hZ5 := hZ4.put (.int .i64 Q.kind) (.bool Q.neg) (.int .i64 Q.exp) (.slice A4 (cn Q.mag).length c4)
    have hE5 := (hE3.tr hb4).put (g := w.heap.size + 1 + 1) (by omega) (.int .i64 Q.kind) (.bool Q.neg) (.int .i64 Q.exp) (.slice A4 (cn Q.mag).length c4)
    have ho5 := (ho4.putBelow (g := w.heap.size + 1 + 1) (hlr3) (.int .i64 Q.kind) (.bool Q.neg) (.int .i64 Q.exp) (.slice A4 (cn Q.mag).length c4)).low (b := w.heap.size) (hE3.size)
    obtain ⟨s0, s1, s2, s3, -⟩ := hZ5.facts
    refine bodyPost_ret (v := flV Q.kind Q.neg Q.exp (.slice A4 (cn Q.mag).length c4)) (by simp [results, Tryz.results21, go_sem, s0, s1, s2, s3]) rfl ?_
    exact ⟨_, rfl, ⟨_, rfl, ho5⟩, hE5⟩
end Go.Proofs.YtcdgkhmiolhfdaaGreatDoor
