/- The reference's order: rank, sign, size, Cmp (package 15); Compare, Total (package 21). The reference's order (package 21): Compare, Total. The reference's Least and Most (package 21). -/
import Derived.Test.YtlnfmngginihfaaGreatDoorS5
import Derived.Test.YtlnfmngginihfaaGreatDoorTG
import Derived.Test.YtlnfmngginihfaaGreatDoorOG
import Derived.Test.YtlnfmngginihfaaGreatDoorTB
import Derived.Test.YtlnfmngginihfaaGreatDoorS3
set_option linter.unusedVariables false
set_option linter.unusedSimpArgs false
namespace Go.Proofs.YtlnfmngginihfaaGreatDoor
open Go.RowKit
attribute [local go_sem ↓] Go.wp_at_zero Go.wp_at_succ

theorem cn_len_two' (n m e : Nat) (h : n < 2 ^ e) (he : e ≤ 64 * m) : (cn n).length ≤ m := by
  refine (cn_len_le _ _).2 ?_
  rw [B_two, ← Nat.pow_mul]
  exact Nat.lt_of_lt_of_le h (Nat.pow_le_pow_right (by omega) he)
theorem can_neg {a : FA} {f : Fl} (h : a.can = some f) : f.neg = a.neg := by
  unfold FA.can canon at h
  repeat' split at h
  all_goals first | (obtain rfl := Option.some.inj h; first | rfl | (rename_i hh; exact hh.1.symm)) | cases h
set_option maxHeartbeats 1000000 in
set_option maxRecDepth 100000 in
theorem rrank_c (k e : Int) (neg : Bool) (A : Option Addr) (n c : Nat) (w : World) (hk : k = 0 ∨ k = 1 ∨ k = 2) : Calls Tryz.prog 86 #[flV k neg e (.slice A n c)] w fun z w' => z = .returned (.int .i64 (if neg = true then -rk0 k else rk0 k)) ∧ Ext w w' := by
  have hA := (Ext.refl w).al (.cells #[.int .i64 k, .bool neg, .int .i64 e, .slice A n c] 42)
  rcases hk with rfl | rfl | rfl <;> cases neg
  all_goals
    go_enter Tryz.func86, Tryz.ntmps86
    go_wp2
    go_ret
    exact ⟨rfl, hA⟩
set_option maxHeartbeats 1000000 in
set_option maxRecDepth 100000 in
theorem rsgn15_c (n : Int) (w : World) : Calls Tryz.prog 87 #[.int .i64 n] w fun z w' => z = .returned (.int .i64 (sgn n)) ∧ w = w' := by
  have hc : (decide (n < 0) = true ∧ sgn n = -1) ∨ (decide (n < 0) = false ∧ decide (0 < n) = true ∧ sgn n = 1) ∨ (decide (n < 0) = false ∧ decide (0 < n) = false ∧ sgn n = 0) := by
    unfold sgn
    by_cases h1 : n < 0
    · exact .inl ⟨decide_eq_true h1, by rw [if_pos h1]⟩
    · by_cases h2 : 0 < n
      · exact .inr (.inl ⟨decide_eq_false h1, decide_eq_true h2, by rw [if_neg h1, if_pos h2]⟩)
      · exact .inr (.inr ⟨decide_eq_false h1, decide_eq_false h2, by rw [if_neg h1, if_neg h2]⟩)
  generalize sgn n = s at *
  rcases hc with ⟨h1, rfl⟩ | ⟨h1, h2, rfl⟩ | ⟨h1, h2, rfl⟩
  all_goals
    go_enter Tryz.func87, Tryz.ntmps87
    go_wp2
    go_ret
    exact ⟨rfl, rfl⟩
theorem boxesR2 (w : World) (a b c d a' b' c' d' : Value) : ∀ W, W = ((w.alloc (.cells #[a, b, c, d] 42)).alloc (.cells #[a', b', c', d'] 42)) →
    Br W w.heap.size a b c d ∧ Br W (w.heap.size + 1) a' b' c' d' ∧ Ext w W := by
  rintro W rfl
  have x2 := Br.new (w.alloc (.cells #[a, b, c, d] 42)) a' b' c' d'
  rw [World.size_alloc] at x2
  exact ⟨(Br.new w a b c d).ext ((Ext.refl _).al _), x2, ((Ext.refl w).al _).al _⟩
set_option maxHeartbeats 2000000 in
set_option maxRecDepth 100000 in
theorem rsize15_c (k e k' e' : Int) (neg neg' : Bool) (A A' : Option Addr) (c c' m m' : Nat) (w : World) (h : Rd w A c (cn m)) (h' : Rd w A' c' (cn m')) (hl : (cn m).length ≤ 4096) (hl' : (cn m').length ≤ 4096)
    (e1 : -1048576 ≤ e) (e2 : e ≤ 1048576) (e1' : -1048576 ≤ e') (e2' : e' ≤ 1048576) :
    Calls Tryz.prog 88 #[flV k neg e (.slice A (cn m).length c), flV k' neg' e' (.slice A' (cn m').length c')] w fun z w' => z = .returned (.int .i64 (szF ⟨k, neg, e, m⟩ ⟨k', neg', e', m'⟩)) ∧ Ext w w' := by
  obtain ⟨hX, hY, hE⟩ := boxesR2 w (.int .i64 k) (.bool neg) (.int .i64 e) (.slice A (cn m).length c) (.int .i64 k') (.bool neg') (.int .i64 e') (.slice A' (cn m').length c') _ rfl
  have hx1 := fun w h => rexp_c k e neg A c (cn m) w h hl e1 e2
  have hx2 := fun w h => rexp_c k' e' neg' A' c' (cn m') w h hl' e1' e2'
  rw [val_cn] at hx1 hx2
  have hb1 := (bl_le m (64 * (cn m).length)).2 (by have := val_lt h.w64; rwa [B_two, ← Nat.pow_mul, val_cn] at this)
  have hb2 := (bl_le m' (64 * (cn m').length)).2 (by have := val_lt h'.w64; rwa [B_two, ← Nat.pow_mul, val_cn] at this)
  have hlf1 := fun w h (h0 : 0 ≤ e - e') => rleft_i A c (cn m) (e - e') w h h0 (by omega) (by omega)
  have hlf2 := fun w h (h0 : 0 ≤ e' - e) => rleft_i A' c' (cn m') (e' - e) w h h0 (by omega) (by omega)
  rw [val_cn] at hlf1 hlf2
  have w1 : IntKind.i64.wrap (e - e') = e - e' := by rw [IntKind.wrap_i64]; omega
  have w2 : IntKind.i64.wrap (e' - e) = e' - e := by rw [IntKind.wrap_i64]; omega
  have w3 : IntKind.i64.wrap ((bl m : Int) - 1 + e - ((bl m' : Int) - 1 + e')) = (bl m : Int) - 1 + e - ((bl m' : Int) - 1 + e') := by rw [IntKind.wrap_i64]; omega
  have hcs : (((bl m : Int) - 1 + e != (bl m' : Int) - 1 + e') = true ∧ szF ⟨k, neg, e, m⟩ ⟨k', neg', e', m'⟩ = sgn ((bl m : Int) - 1 + e - ((bl m' : Int) - 1 + e'))) ∨
      (((bl m : Int) - 1 + e != (bl m' : Int) - 1 + e') = false ∧ ((decide (e' ≤ e) = true ∧ 0 ≤ e - e' ∧ (cn (m * 2 ^ (e - e').toNat)).length ≤ 10000000 ∧ szF ⟨k, neg, e, m⟩ ⟨k', neg', e', m'⟩ = cmp3 (m * 2 ^ (e - e').toNat) m') ∨
        (decide (e' ≤ e) = false ∧ 0 ≤ e' - e ∧ (cn (m' * 2 ^ (e' - e).toNat)).length ≤ 10000000 ∧ szF ⟨k, neg, e, m⟩ ⟨k', neg', e', m'⟩ = cmp3 m (m' * 2 ^ (e' - e).toNat)))) := by
    have hlen : ∀ {m : Nat} {s : Nat}, bl m ≤ 262144 → s ≤ 2097152 → (cn (m * 2 ^ s)).length ≤ 10000000 := by
      intro m s hm hs
      have h1 : m * 2 ^ s < 2 ^ bl m * 2 ^ s := Nat.mul_lt_mul_of_pos_right bl_lt (Nat.two_pow_pos s)
      rw [← Nat.pow_add] at h1
      exact cn_len_two' _ 10000000 (bl m + s) h1 (by omega)
    unfold szF
    simp only
    by_cases ha : (bl m : Int) - 1 + e = (bl m' : Int) - 1 + e'
    · right
      refine ⟨by simpa using ha, ?_⟩
      rw [if_pos ha]
      by_cases he : e' ≤ e
      · exact .inl ⟨decide_eq_true he, by omega, hlen (by omega) (by omega), by rw [if_pos he]⟩
      · exact .inr ⟨decide_eq_false he, by omega, hlen (by omega) (by omega), by rw [if_neg he]⟩
    · exact .inl ⟨by simpa using ha, by rw [if_neg ha]⟩
  have hm1 := fun A1 c1 w h1 h2 (hq : (cn (m * 2 ^ (e - e').toNat)).length ≤ 10000000) => rcmp_c A1 A' c1 c' (cn (m * 2 ^ (e - e').toNat)) (cn m') w h1 h2 hq (by omega)
  have hm2 := fun A1 c1 w h1 h2 (hq : (cn (m' * 2 ^ (e' - e).toNat)).length ≤ 10000000) => rcmp_c A A1 c c1 (cn m) (cn (m' * 2 ^ (e' - e).toNat)) w h1 h2 (by omega) hq
  rw [val_cn, val_cn] at hm1 hm2
  have hsn := fun w => rsgn15_c ((bl m : Int) - 1 + e - ((bl m' : Int) - 1 + e')) w
  clear hb1 hb2
  generalize szF ⟨k, neg, e, m⟩ ⟨k', neg', e', m'⟩ = S at *
  generalize sgn ((bl m : Int) - 1 + e - ((bl m' : Int) - 1 + e')) = SG at *
  generalize cmp3 (m * 2 ^ (e - e').toNat) m' = C1 at *
  generalize cmp3 m (m' * 2 ^ (e' - e).toNat) = C2 at *
  generalize cn (m * 2 ^ (e - e').toNat) = P1 at *
  generalize cn (m' * 2 ^ (e' - e).toNat) = P2 at *
  generalize (bl m : Int) - 1 + e = a1 at *
  generalize (bl m' : Int) - 1 + e' = a2 at *
  generalize cn m = X at *
  generalize cn m' = Y at *
  clear hl hl' e1 e2 e1' e2'
  have HX := Lib.hid hX
  have HY := Lib.hid hY
  have HE := Lib.hid hE
  have HC := Lib.hid hcs
  clear hX hY hE hcs
  go_enter Tryz.func88, Tryz.ntmps88
  go_wp2_with fail
  have hX := HX.out
  have hY := HY.out
  have hE := HE.out
  clear HX HY HE
  generalize ((w.alloc (.cells #[.int .i64 k, .bool neg, .int .i64 e, .slice A X.length c] 42)).alloc (.cells #[.int .i64 k', .bool neg', .int .i64 e', .slice A' Y.length c'] 42)) = W at *
  obtain ⟨x0, x1, x2, x3, -⟩ := hX.facts
  obtain ⟨y0, y1, y2, y3, -⟩ := hY.facts
  have x0' := Later.cell x0
  have x1' := Later.cell x1
  have x2' := Later.cell x2
  have x3' := Later.cell x3
  have y0' := Later.cell y0
  have y1' := Later.cell y1
  have y2' := Later.cell y2
  have y3' := Later.cell y3
  refine wp_region_later (by kernel_rfl) (by kernel_rfl) ?_
  repeat (go_big_quiet_step (first
    | (go_at_call 103; (with_reducible refine Calls.later (hx1 _ (h.ext (hE.tr (Later.h _))))))
    | (go_at_call 103; (with_reducible refine Calls.later (hx2 _ (h'.ext (hE.tr (Later.h _))))))))
  refine wpQuiet_nil ?_
  intro wq hw'
  obtain ⟨⟨_, hq⟩, rfl⟩ := hw'
  have hE2 := hE.tr hq
  have hX2 := hX.ext hq
  have hY2 := hY.ext hq
  clear x0 x1 x2 x3 y0 y1 y2 y3 x0' x1' x2' x3' y0' y1' y2' y3'
  obtain ⟨x0, x1, x2, x3, -⟩ := hX2.facts
  obtain ⟨y0, y1, y2, y3, -⟩ := hY2.facts
  rcases HC.out with ⟨e3, rfl⟩ | ⟨e3, ⟨e4, e5, e6, rfl⟩ | ⟨e4, e5, e6, rfl⟩⟩
  · go_wp2_with fail
    refine (hsn _).mono ?_
    rintro z w3 ⟨rfl, rfl⟩
    go_wp2
    go_ret
    exact ⟨rfl, hE2⟩
  · go_wp2_with fail
    go_region_held3 (fun w' => w'.cell? ⟨w.heap.size, 2, none⟩ = some (.int .i64 e) ∧ w'.cell? ⟨w.heap.size, 3, none⟩ = some (.slice A X.length c) ∧ w'.cell? ⟨w.heap.size + 1, 2, none⟩ = some (.int .i64 e') ∧ w'.cell? ⟨w.heap.size + 1, 3, none⟩ = some (.slice A' Y.length c'))
      (first | go_keep | (go_split_ands; refine ⟨?_, ?_, ?_, ?_⟩ <;> first | assumption | (refine Ext.cell (w := wq) ?_ ?_ <;> assumption)))
      (first
        | (go_at_call 105; (with_reducible refine (hlf1 _ (h.ext hE2.drew) e5).mono ?_); rintro z w3 ⟨v, rfl, ho3, hb3⟩; obtain ⟨A3, c3, rfl, hr3⟩ := ho3.rd; have hE3 : Ext wq w3 := (Ext.refl wq).drew.tr hb3)
        | (go_at_call 104; (with_reducible refine (hm1 A3 c3 _ hr3 (h'.ext (hE2.tr hE3)) e6).mono ?_); rintro z w4 ⟨rfl, hb4⟩; have hE4 : Ext wq w4 := hE3.tr hb4))
    go_wp2
    go_ret
    exact ⟨rfl, hE2.tr hE4⟩
  · go_wp2_with fail
    go_region_held3 (fun w' => w'.cell? ⟨w.heap.size, 2, none⟩ = some (.int .i64 e) ∧ w'.cell? ⟨w.heap.size, 3, none⟩ = some (.slice A X.length c) ∧ w'.cell? ⟨w.heap.size + 1, 2, none⟩ = some (.int .i64 e') ∧ w'.cell? ⟨w.heap.size + 1, 3, none⟩ = some (.slice A' Y.length c'))
      (first | go_keep | (go_split_ands; refine ⟨?_, ?_, ?_, ?_⟩ <;> first | assumption | (refine Ext.cell (w := wq) ?_ ?_ <;> assumption)))
      (first
        | (go_at_call 105; (with_reducible refine (hlf2 _ (h'.ext hE2.drew) e5).mono ?_); rintro z w3 ⟨v, rfl, ho3, hb3⟩; obtain ⟨A3, c3, rfl, hr3⟩ := ho3.rd; have hE3 : Ext wq w3 := (Ext.refl wq).drew.tr hb3)
        | (go_at_call 104; (with_reducible refine (hm2 A3 c3 _ (h.ext (hE2.tr hE3)) hr3 e6).mono ?_); rintro z w4 ⟨rfl, hb4⟩; have hE4 : Ext wq w4 := hE3.tr hb4))
    go_wp2
    go_ret
    exact ⟨rfl, hE2.tr hE4⟩
theorem szF_bd (f g : Fl) : -1 ≤ szF f g ∧ szF f g ≤ 1 := by
  unfold szF cmp3 sgn
  (repeat' split) <;> omega
theorem rkF_bd (f : Fl) : -2 ≤ rkF f ∧ rkF f ≤ 2 := by
  unfold rkF rk0
  (repeat' split) <;> omega
set_option maxHeartbeats 2000000 in
set_option maxRecDepth 100000 in
theorem rcmp15_c (f g : Fl) (hf : f.Ok) (hg : g.Ok) (h3 : f.kind ≠ 3) (h3' : g.kind ≠ 3) (hl : (cn f.mag).length ≤ 4096) (hl' : (cn g.mag).length ≤ 4096) (A A' : Option Addr) (c c' : Nat) (w : World) (h : Rd w A c (cn f.mag)) (h' : Rd w A' c' (cn g.mag)) :
    Calls Tryz.prog 60 #[flV f.kind f.neg f.exp (.slice A (cn f.mag).length c), flV g.kind g.neg g.exp (.slice A' (cn g.mag).length c')] w fun z w' => z = .returned (.int .i64 (cmF f g)) ∧ Ext w w' := by
  obtain ⟨hX, hY, hE⟩ := boxesR2 w (.int .i64 f.kind) (.bool f.neg) (.int .i64 f.exp) (.slice A (cn f.mag).length c) (.int .i64 g.kind) (.bool g.neg) (.int .i64 g.exp) (.slice A' (cn g.mag).length c') _ rfl
  have kf := hf.kind
  have kg := hg.kind
  have r1 := fun w => rrank_c f.kind f.exp f.neg A (cn f.mag).length c w (by omega)
  have r2 := fun w => rrank_c g.kind g.exp g.neg A' (cn g.mag).length c' w (by omega)
  rw [show (if f.neg = true then -rk0 f.kind else rk0 f.kind) = rkF f from rfl] at r1
  rw [show (if g.neg = true then -rk0 g.kind else rk0 g.kind) = rkF g from rfl] at r2
  have hsz := fun w h h' => rsize15_c f.kind f.exp g.kind g.exp f.neg g.neg A A' c c' f.mag g.mag w h h' hl hl' hf.lo hf.hi hg.lo hg.hi
  rw [show szF ⟨f.kind, f.neg, f.exp, f.mag⟩ ⟨g.kind, g.neg, g.exp, g.mag⟩ = szF f g from rfl] at hsz
  have hsn := fun w => rsgn15_c (rkF f - rkF g) w
  have b1 := rkF_bd f
  have b2 := rkF_bd g
  have b3 := szF_bd f g
  have w1 : IntKind.i64.wrap (rkF f - rkF g) = rkF f - rkF g := by rw [IntKind.wrap_i64]; omega
  have hcs : ((rkF f != rkF g) = true ∧ cmF f g = sgn (rkF f - rkF g)) ∨ ((rkF f != rkF g) = false ∧ (rkF f != 1) = true ∧ (rkF f != -1) = true ∧ cmF f g = sgn (rkF f - rkF g)) ∨
      ((rkF f != rkF g) = false ∧ (rkF f != 1) = false ∧ decide (rkF f < 0) = false ∧ cmF f g = szF f g) ∨ ((rkF f != rkF g) = false ∧ (rkF f != 1) = true ∧ (rkF f != -1) = false ∧ decide (rkF f < 0) = true ∧ cmF f g = wrap64 (-szF f g)) := by
    unfold cmF
    generalize rkF f = a at *
    generalize rkF g = b at *
    by_cases h1 : a = b
    · by_cases h2 : a = 1
      · exact .inr (.inr (.inl ⟨by simpa using h1, by simpa using h2, by simp; omega, by rw [if_neg (by omega), if_neg (by omega)]⟩))
      · by_cases h4 : a = -1
        · exact .inr (.inr (.inr ⟨by simpa using h1, by simpa using h2, by simpa using h4, by simp; omega, by rw [if_neg (by omega), if_pos (by omega)]; unfold wrap64; omega⟩))
        · exact .inr (.inl ⟨by simpa using h1, by simpa using h2, by simpa using h4, by rw [if_pos (.inr ⟨h2, h4⟩)]⟩)
    · exact .inl ⟨by simpa using h1, by rw [if_pos (.inl h1)]⟩
  clear b1 b2 b3 kf kg
  generalize cmF f g = S at *
  generalize sgn (rkF f - rkF g) = SG at *
  generalize szF f g = SZ at *
  generalize rkF f = a at *
  generalize rkF g = b at *
  generalize cn f.mag = X at *
  generalize cn g.mag = Y at *
  generalize f.kind = fk at *
  generalize f.neg = fn at *
  generalize f.exp = fe at *
  generalize g.kind = gk at *
  generalize g.neg = gn at *
  generalize g.exp = ge at *
  clear hl hl' hf hg h3 h3'
  have HX := Lib.hid hX
  have HY := Lib.hid hY
  have HE := Lib.hid hE
  have HC := Lib.hid hcs
  clear hX hY hE hcs
  go_enter Tryz.func60, Tryz.ntmps60
  go_wp2_with fail
  have hX := HX.out
  have hY := HY.out
  have hE := HE.out
  clear HX HY HE
  generalize ((w.alloc (.cells #[.int .i64 fk, .bool fn, .int .i64 fe, .slice A X.length c] 42)).alloc (.cells #[.int .i64 gk, .bool gn, .int .i64 ge, .slice A' Y.length c'] 42)) = W at *
  obtain ⟨x0, x1, x2, x3, -⟩ := hX.facts
  obtain ⟨y0, y1, y2, y3, -⟩ := hY.facts
  have x0' := Later.cell x0
  have x1' := Later.cell x1
  have x2' := Later.cell x2
  have x3' := Later.cell x3
  have y0' := Later.cell y0
  have y1' := Later.cell y1
  have y2' := Later.cell y2
  have y3' := Later.cell y3
  refine wp_region_later (by kernel_rfl) (by kernel_rfl) ?_
  repeat (go_big_quiet_step (first
    | (go_at_call 86; (with_reducible refine Calls.later (r1 _)))
    | (go_at_call 86; (with_reducible refine Calls.later (r2 _)))))
  refine wpQuiet_nil ?_
  intro wq hw'
  obtain ⟨⟨_, hq⟩, rfl⟩ := hw'
  have hE2 := hE.tr hq
  have hX2 := hX.ext hq
  have hY2 := hY.ext hq
  clear x0 x1 x2 x3 y0 y1 y2 y3 x0' x1' x2' x3' y0' y1' y2' y3'
  obtain ⟨x0, x1, x2, x3, -⟩ := hX2.facts
  obtain ⟨y0, y1, y2, y3, -⟩ := hY2.facts
  rcases HC.out with ⟨e1, rfl⟩ | ⟨e1, e2, e3, rfl⟩ | ⟨e1, e2, e3, rfl⟩ | ⟨e1, e2, e3, e4, rfl⟩
  · go_wp2_with fail
    refine (hsn _).mono ?_
    rintro z w3 ⟨rfl, rfl⟩
    go_wp2
    go_ret
    exact ⟨rfl, hE2⟩
  · go_wp2_with fail
    refine (hsn _).mono ?_
    rintro z w3 ⟨rfl, rfl⟩
    go_wp2
    go_ret
    exact ⟨rfl, hE2⟩
  · go_wp2_with fail
    refine (hsz _ (h.ext hE2) (h'.ext hE2)).mono ?_
    rintro z w3 ⟨rfl, hb3⟩
    go_wp2
    go_ret
    exact ⟨rfl, hE2.tr hb3⟩
  · go_wp2_with fail
    refine (hsz _ (h.ext hE2) (h'.ext hE2)).mono ?_
    rintro z w3 ⟨rfl, hb3⟩
    go_wp2
    go_ret
    exact ⟨rfl, hE2.tr hb3⟩
theorem rcmp15_i {k p : Int} (hR : Rgt k p) {f g : Fl} (hf : FOf k p f) (hg : FOf k p g) (h3 : f.kind ≠ 3) (h3' : g.kind ≠ 3) (A A' : Option Addr) (c c' : Nat) (w : World) (h : Rd w A c (cn f.mag)) (h' : Rd w A' c' (cn g.mag)) :
    Calls Tryz.prog 60 #[flV f.kind f.neg f.exp (.slice A (cn f.mag).length c), flV g.kind g.neg g.exp (.slice A' (cn g.mag).length c')] w fun z w' => z = .returned (.int .i64 (sgn (idx k p f - idx k p g))) ∧ Ext w w' := by
  rw [← cmF_idx hR hf hg h3 h3']
  exact rcmp15_c f g hf.ok hg.ok h3 h3' hf.len hg.len A A' c c' w h h'
end Go.Proofs.YtlnfmngginihfaaGreatDoor
namespace Go.Proofs.YtlnfmngginihfaaGreatDoor
open Go.RowKit
attribute [local go_sem ↓] Go.wp_at_zero Go.wp_at_succ

set_option maxHeartbeats 2000000 in
set_option maxRecDepth 100000 in
theorem rocmp_c (k p : Int) (hR : Rgt k p) (a b : FA) (f g : Fl) (hfc : a.can = some f) (hgc : b.can = some g) (hf : FOf k p f) (hg : FOf k p g) (la : a.xs.length ≤ 4096) (lb : b.xs.length ≤ 4096) (w : World) (ha : Rd w a.A a.c a.xs) (hb : Rd w b.A b.c b.xs) :
    Calls Tryz.prog 37 #[a.v, b.v] w fun z w' => z = .returned (.tuple #[.int .i64 (cmpV k p f g), .bool (cmpB f g)]) ∧ Ext w w' := by
  obtain ⟨hX, hY, hE⟩ := boxesR2 w (.int .i64 a.k) (.bool a.neg) (.int .i64 a.e) (.slice a.A a.xs.length a.c) (.int .i64 b.k) (.bool b.neg) (.int .i64 b.e) (.slice b.A b.xs.length b.c) _ rfl
  have k1 := rcanonical_c a.k a.e a.neg a.A a.c a.xs
  have c1 := fun w h => k1 w h la f hfc
  have k2 := rcanonical_c b.k b.e b.neg b.A b.c b.xs
  have c2 := fun w h => k2 w h lb g hgc
  have hcs := cmp_cases k p f g
  have hm : ∀ A A' c c' w, (f.kind == 3) = false → (g.kind == 3) = false → Rd w A c (cn f.mag) → Rd w A' c' (cn g.mag) → Calls Tryz.prog 60 #[flV f.kind f.neg f.exp (.slice A (cn f.mag).length c), flV g.kind g.neg g.exp (.slice A' (cn g.mag).length c')] w fun z w' => z = .returned (.int .i64 (sgn (idx k p f - idx k p g))) ∧ Ext w w' :=
    fun A A' c c' w h3 h3' h h' => rcmp15_i hR hf hg (by simpa using h3) (by simpa using h3') A A' c c' w h h'
  have e1 : f.kind = a.k := canon_kind hfc
  have e2 : g.kind = b.k := canon_kind hgc
  rw [e1, e2] at hcs
  rw [e1, e2] at hm
  unfold FlR at c1 c2
  rw [e1] at c1
  rw [e2] at c2
  clear k1 k2 hfc hgc la lb hf hg e1 e2
  generalize sgn (idx k p f - idx k p g) = S at *
  generalize cmpV k p f g = V at *
  generalize cmpB f g = Q at *
  generalize cn f.mag = X at *
  generalize cn g.mag = Y at *
  generalize f.neg = fn at *
  generalize f.exp = fe at *
  generalize g.neg = gn at *
  generalize g.exp = ge at *
  clear f g
  obtain ⟨ak, an, ae, aA, ac, axs⟩ := a
  obtain ⟨bk, bn, be, bA, bc, bxs⟩ := b
  simp only at ha hb hX hY hE c1 c2 hcs hm
  have HX := Lib.hid hX
  have HY := Lib.hid hY
  have HE := Lib.hid hE
  have HC := Lib.hid hcs
  clear hX hY hE hcs
  rcases HC.out with ⟨(e1 | ⟨e1, e2⟩), rfl, rfl⟩ | ⟨e1, e2, rfl, rfl⟩
  · go_enter Tryz.func37, Tryz.ntmps37
    go_wp2
    go_ret2
    exact ⟨rfl, HE.out⟩
  · go_enter Tryz.func37, Tryz.ntmps37
    go_wp2
    go_ret2
    exact ⟨rfl, HE.out⟩
  · go_enter Tryz.func37, Tryz.ntmps37
    go_wp2_with fail
    have hX := HX.out
    have hY := HY.out
    have hE := HE.out
    clear HX HY HE
    generalize ((w.alloc (.cells #[.int .i64 ak, .bool an, .int .i64 ae, .slice aA axs.length ac] 42)).alloc (.cells #[.int .i64 bk, .bool bn, .int .i64 be, .slice bA bxs.length bc] 42)) = W at *
    obtain ⟨x0, x1, x2, x3, -⟩ := hX.facts
    obtain ⟨y0, y1, y2, y3, -⟩ := hY.facts
    go_region_held3 (fun w' => w'.cell? ⟨w.heap.size, 0, none⟩ = some (.int .i64 ak) ∧ w'.cell? ⟨w.heap.size, 1, none⟩ = some (.bool an) ∧ w'.cell? ⟨w.heap.size, 2, none⟩ = some (.int .i64 ae) ∧ w'.cell? ⟨w.heap.size, 3, none⟩ = some (.slice aA axs.length ac)
        ∧ w'.cell? ⟨w.heap.size + 1, 0, none⟩ = some (.int .i64 bk) ∧ w'.cell? ⟨w.heap.size + 1, 1, none⟩ = some (.bool bn) ∧ w'.cell? ⟨w.heap.size + 1, 2, none⟩ = some (.int .i64 be) ∧ w'.cell? ⟨w.heap.size + 1, 3, none⟩ = some (.slice bA bxs.length bc))
      (first | go_keep | (go_split_ands; refine ⟨?_, ?_, ?_, ?_, ?_, ?_, ?_, ?_⟩ <;> first | assumption | (refine Ext.cell (w := W) ?_ ?_ <;> assumption)))
      (first
        | (go_at_call 22; (with_reducible refine (c1 _ (ha.ext hE.drew)).mono ?_); rintro z w3 ⟨u, rfl, ⟨v, rfl, ho3⟩, hb3⟩; obtain ⟨A3, c3, rfl, hr3⟩ := ho3.rd; have hE3 : Ext W w3 := (Ext.refl W).drew.tr hb3)
        | (go_at_call 22; (with_reducible refine (c2 _ (hb.ext (hE.tr hE3))).mono ?_); rintro z w4 ⟨u, rfl, ⟨v, rfl, ho4⟩, hb4⟩; obtain ⟨A4, c4, rfl, hr4⟩ := ho4.rd; have hE4 : Ext W w4 := hE3.tr hb4; have hr34 := hr3.ext hb4)
        | (go_at_call 60; (with_reducible refine (hm A3 A4 c3 c4 _ e1 e2 hr34 hr4).mono ?_); rintro z w5 ⟨rfl, hb5⟩; have hE5 : Ext W w5 := hE4.tr hb5))
    go_wp2
    go_ret2
    exact ⟨rfl, hE.tr hE5⟩
set_option maxHeartbeats 2000000 in
set_option maxRecDepth 100000 in
theorem rototal_c (k p : Int) (hR : Rgt k p) (a b : FA) (f g : Fl) (hfc : a.can = some f) (hgc : b.can = some g) (hf : FOf k p f) (hg : FOf k p g) (la : a.xs.length ≤ 4096) (lb : b.xs.length ≤ 4096) (w : World) (ha : Rd w a.A a.c a.xs) (hb : Rd w b.A b.c b.xs) :
    Calls Tryz.prog 21 #[a.v, b.v] w fun z w' => z = .returned (.int .i64 (totF k p f g)) ∧ Ext w w' := by
  obtain ⟨hX, hY, hE⟩ := boxesR2 w (.int .i64 a.k) (.bool a.neg) (.int .i64 a.e) (.slice a.A a.xs.length a.c) (.int .i64 b.k) (.bool b.neg) (.int .i64 b.e) (.slice b.A b.xs.length b.c) _ rfl
  have hcm := fun w h1 h2 => rocmp_c k p hR a b f g hfc hgc hf hg la lb w h1 h2
  have htt : (((f.kind == 3) = true ∧ (g.kind == 3) = true) ∧ totF k p f g = 0) ∨ (((f.kind == 3) = true ∧ (g.kind == 3) = false) ∧ totF k p f g = 1) ∨ (((f.kind == 3) = false ∧ (g.kind == 3) = true) ∧ totF k p f g = -1) ∨
      (((f.kind == 3) = false ∧ (g.kind == 3) = false) ∧ ((((cmpV k p f g != 0) = true ∧ totF k p f g = cmpV k p f g)) ∨ (((cmpV k p f g != 0) = false ∧ (a.neg == b.neg) = true) ∧ totF k p f g = cmpV k p f g) ∨
        (((cmpV k p f g != 0) = false ∧ (a.neg == b.neg) = false ∧ a.neg = true) ∧ totF k p f g = -1) ∨ (((cmpV k p f g != 0) = false ∧ (a.neg == b.neg) = false ∧ a.neg = false) ∧ totF k p f g = 1))) := by
    have n1 : f.neg = a.neg := can_neg hfc
    have n2 : g.neg = b.neg := can_neg hgc
    rw [← n1, ← n2]
    unfold totF cmpV
    by_cases h1 : f.kind = 3 <;> by_cases h2 : g.kind = 3
    · exact .inl ⟨⟨by simpa using h1, by simpa using h2⟩, by rw [if_pos h1, if_pos h2]⟩
    · exact .inr (.inl ⟨⟨by simpa using h1, by simpa using h2⟩, by rw [if_pos h1, if_neg h2]⟩)
    · exact .inr (.inr (.inl ⟨⟨by simpa using h1, by simpa using h2⟩, by rw [if_neg h1, if_pos h2]⟩))
    · refine .inr (.inr (.inr ⟨⟨by simpa using h1, by simpa using h2⟩, ?_⟩))
      rw [if_neg h1, if_neg h2, if_neg (by omega)]
      generalize sgn (idx k p f - idx k p g) = S
      by_cases h3 : S = 0
      · by_cases h4 : f.neg = g.neg
        · exact .inr (.inl ⟨⟨by simpa using h3, by simpa using h4⟩, by rw [if_pos (.inr h4)]⟩)
        · cases hn : f.neg with
          | true => exact .inr (.inr (.inl ⟨⟨by simpa using h3, by rw [hn] at h4; simpa using h4, rfl⟩, by rw [if_neg (by rintro (h | h); exact h h3; exact h4 (by rw [hn, h])), if_pos rfl]⟩))
          | false => exact .inr (.inr (.inr ⟨⟨by simpa using h3, by rw [hn] at h4; simpa using h4, rfl⟩, by rw [if_neg (by rintro (h | h); exact h h3; exact h4 (by rw [hn, h])), if_neg (by simp)]⟩))
      · exact .inl ⟨by simpa using h3, by rw [if_pos (.inl h3)]⟩
  have e1 : f.kind = a.k := canon_kind hfc
  have e2 : g.kind = b.k := canon_kind hgc
  rw [e1, e2] at htt
  clear hfc hgc la lb hf hg e1 e2
  generalize totF k p f g = T at *
  generalize cmpV k p f g = V at *
  generalize cmpB f g = Q at *
  clear f g
  obtain ⟨ak, an, ae, aA, ac, axs⟩ := a
  obtain ⟨bk, bn, be, bA, bc, bxs⟩ := b
  simp only at ha hb hX hY hE hcm htt
  have HX := Lib.hid hX
  have HY := Lib.hid hY
  have HE := Lib.hid hE
  have HT := Lib.hid htt
  clear hX hY hE htt
  rcases HT.out with ⟨⟨e1, e2⟩, rfl⟩ | ⟨⟨e1, e2⟩, rfl⟩ | ⟨⟨e1, e2⟩, rfl⟩ | ⟨⟨e1, e2⟩, e3⟩
  · go_enter Tryz.func21, Tryz.ntmps21
    go_wp2
    go_ret
    exact ⟨rfl, HE.out⟩
  · go_enter Tryz.func21, Tryz.ntmps21
    go_wp2
    go_ret
    exact ⟨rfl, HE.out⟩
  · go_enter Tryz.func21, Tryz.ntmps21
    go_wp2
    go_ret
    exact ⟨rfl, HE.out⟩
  · go_enter Tryz.func21, Tryz.ntmps21
    go_wp2_with fail
    have hX := HX.out
    have hY := HY.out
    have hE := HE.out
    clear HX HY HE
    generalize ((w.alloc (.cells #[.int .i64 ak, .bool an, .int .i64 ae, .slice aA axs.length ac] 42)).alloc (.cells #[.int .i64 bk, .bool bn, .int .i64 be, .slice bA bxs.length bc] 42)) = W at *
    obtain ⟨x0, x1, x2, x3, -⟩ := hX.facts
    obtain ⟨y0, y1, y2, y3, -⟩ := hY.facts
    refine (hcm _ (ha.ext hE) (hb.ext hE)).mono ?_
    rintro z w3 ⟨rfl, hb3⟩
    have hE3 := hE.tr hb3
    clear x0 x1 x2 x3 y0 y1 y2 y3
    obtain ⟨x0, x1, x2, x3, -⟩ := (hX.ext hb3).facts
    obtain ⟨y0, y1, y2, y3, -⟩ := (hY.ext hb3).facts
    rcases e3 with ⟨e3, rfl⟩ | ⟨⟨e3, e4⟩, rfl⟩ | ⟨⟨e3, e4, rfl⟩, rfl⟩ | ⟨⟨e3, e4, rfl⟩, rfl⟩
    all_goals
      go_wp2
      go_ret
      exact ⟨rfl, hE3⟩
end Go.Proofs.YtlnfmngginihfaaGreatDoor
namespace Go.Proofs.YtlnfmngginihfaaGreatDoor
open Go.RowKit
attribute [local go_sem ↓] Go.wp_at_zero Go.wp_at_succ

theorem boxesR3 (w : World) (a b c d a' b' c' d' : Value) : ∀ W, W = (((w.alloc (.cells #[a, b, c, d] 42)).alloc (.cells #[a', b', c', d'] 42)).alloc (.cells #[.int .i64 0, .bool false, .int .i64 0, .slice none 0 0] 42)) →
    Br W w.heap.size a b c d ∧ Br W (w.heap.size + 1) a' b' c' d' ∧ Br W (w.heap.size + 1 + 1) (.int .i64 0) (.bool false) (.int .i64 0) (.slice none 0 0) ∧ Ext w W := by
  rintro W rfl
  obtain ⟨h1, h2, h3⟩ := boxesR2 w a b c d a' b' c' d' _ rfl
  have x3 := Br.new ((w.alloc (.cells #[a, b, c, d] 42)).alloc (.cells #[a', b', c', d'] 42)) (.int .i64 0) (.bool false) (.int .i64 0) (.slice none 0 0)
  rw [World.size_alloc, World.size_alloc] at x3
  exact ⟨h1.ext ((Ext.refl _).al _), h2.ext ((Ext.refl _).al _), x3, h3.al _⟩
theorem cho_least {k p : Int} {f g : Fl} (hR : Rgt k p) (hf : FOf k p f) (hg : FOf k p g) (h1 : f.kind ≠ 3) (h2 : g.kind ≠ 3) : choF k p f g (-1) = if totF k p g f < 0 then g else f := by
  have t1 := tot_key hR hf hg
  have t2 := tot_key hR hg hf
  have hin := key_inj hR hf hg
  unfold choF
  rw [if_neg h1, t1, t2]
  unfold sgn
  by_cases h3 : key k p f = key k p g
  · rw [hin h3]
    simp
  · by_cases h4 : key k p f < key k p g
    · rw [if_pos (.inr (by rw [if_pos (by omega)])), if_neg (by (repeat' split) <;> omega)]
    · rw [if_neg (by rintro (h | h); exact h2 h; (repeat' split at h) <;> omega), if_pos (by rw [if_pos (by omega)]; decide)]
theorem cho_most {k p : Int} {f g : Fl} (hR : Rgt k p) (hf : FOf k p f) (hg : FOf k p g) (h1 : f.kind ≠ 3) (h2 : g.kind ≠ 3) : choF k p f g 1 = if 0 < totF k p g f then g else f := by
  have t1 := tot_key hR hf hg
  have t2 := tot_key hR hg hf
  have hin := key_inj hR hf hg
  unfold choF
  rw [if_neg h1, t1, t2]
  unfold sgn
  by_cases h3 : key k p f = key k p g
  · rw [hin h3]
    simp
  · by_cases h4 : key k p g < key k p f
    · rw [if_pos (.inr (by rw [if_neg (by omega), if_pos (by omega)])), if_neg (by (repeat' split) <;> omega)]
    · rw [if_neg (by rintro (h | h); exact h2 h; (repeat' split at h) <;> omega), if_pos (by rw [if_neg (by omega), if_pos (by omega)]; decide)]
theorem cho_of {k p : Int} {f g : Fl} (side : Int) (hf : FOf k p f) (hg : FOf k p g) : FOf k p (choF k p f g side) := by
  unfold choF
  split
  · exact hg
  · split
    · exact hf
    · exact hg
/-- Is, at a float that is canonical. -/
theorem lis_own (f : Fl) (hok : f.Ok) (hl : (cn f.mag).length ≤ 4096) (A A' : Option Addr) (c c' : Nat) (w : World) (h : Rd w A c (cn f.mag)) (h' : Rd w A' c' (cn f.mag)) :
    Calls Tryz.prog 10 #[flV f.kind f.neg f.exp (.slice A (cn f.mag).length c), flV f.kind f.neg f.exp (.slice A' (cn f.mag).length c')] w fun z w' => z = .returned (.bool true) ∧ Ext w w' := by
  have h1 := lis_c f.kind f.kind f.exp f.exp f.neg f.neg A A' c c' (cn f.mag) (cn f.mag) w h h' hl f (by rw [val_cn]; exact canon_self hok)
  rwa [show decide (f.kind = f.kind ∧ f.neg = f.neg ∧ f.exp = f.exp ∧ cn f.mag = cn f.mag) = true by simp] at h1
end Go.Proofs.YtlnfmngginihfaaGreatDoor
