/- package format: Of, at any rational number. -/
import Derived.Test.YtknafhogaheacaaDoorVI
import Derived.Test.YtknafhogaheacaaDoorV3
import Derived.Test.YtknafhogaheacaaDoorVN
import Derived.Test.YtknafhogaheacaaDoorS2
set_option linter.unusedVariables false
set_option linter.unusedSimpArgs false
namespace Go.Proofs.YtknafhogaheacaaDoor
open Go.RowKit
attribute [local go_sem ↓] Go.wp_at_zero Go.wp_at_succ

/-- DivMod in full. -/
theorem divmod_c (A A1 : Option Addr) (c c1 : Nat) (xs ys : List Nat) (w : World) (h : Rd w A c xs) (h1 : Rd w A1 c1 ys) (hp : 0 < val ys) (hs : xs.length ≤ 100000000) (hs1 : ys.length ≤ 100000000) :
    Calls Tryd.prog 17 #[.slice A xs.length c, .slice A1 ys.length c1] w (DMR w (val xs) (val ys)) := by
  rcases Nat.lt_or_ge (val xs) (val ys) with hlt | hge
  · exact divmod_low A A1 c c1 xs ys w h h1 hlt (by omega)
  · rcases Nat.lt_or_ge (val ys) B with hB | hB
    · exact divmod_word A A1 c c1 xs ys w h h1 hge hp hB (by omega)
    · refine divmod_long A A1 c c1 xs ys w h h1 hge ?_ hs hs1
      refine Nat.le_of_not_lt fun hh => ?_
      have := (cn_len_le (val ys) 1).1 (by omega)
      rw [Nat.pow_one] at this
      omega
set_option maxHeartbeats 2000000 in
set_option maxRecDepth 100000 in
/-- Of, at a denominator 0. -/
theorem of_zden (neg : Bool) (A1 A2 : Option Addr) (c1 c2 : Nat) (xs ds : List Nat) (w : World) (h2 : Rd w A2 c2 ds) (hl1 : xs.length ≤ 4096) (hl2 : ds.length ≤ 4096) (hd : val ds = 0) :
    Calls Tryd.prog 5 #[ratV neg (.slice A1 xs.length c1) (.slice A2 ds.length c2)] w (FErr w 5 ⟨0, false, 0, 0⟩) := by
  obtain ⟨hQ, hY, hE⟩ := boxesOf w neg (.slice A1 xs.length c1) (.slice A2 ds.length c2) _ rfl
  have hz2 := fun w h => zero_c A2 c2 ds w h
  rw [show decide (val ds = 0) = true from decide_eq_true hd] at hz2
  have g1 : decide ((4096 : Int) < (xs.length : Int)) = false := by rw [decide_eq_false_iff_not]; omega
  have g2 : decide ((4096 : Int) < (ds.length : Int)) = false := by rw [decide_eq_false_iff_not]; omega
  have HQ := Lib.hid hQ
  have HY := Lib.hid hY
  have HE := Lib.hid hE
  clear hQ hY hE hd hl1 hl2
  go_enter Tryd.func5, Tryd.ntmps5
  go_wp2_with fail
  have hQ := HQ.out
  have hY := HY.out
  have hE := HE.out
  clear HQ HY HE
  generalize ((w.alloc (.cells #[.bool neg, .slice A1 xs.length c1, .slice A2 ds.length c2] 27)).alloc (.cells #[.int .i64 0, .bool false, .int .i64 0, .slice none 0 0] 31)) = W at *
  obtain ⟨q0, q1, q2, qf⟩ := hQ.facts
  obtain ⟨y0, y1, y2, y3, yf⟩ := hY.facts
  refine (hz2 _ (h2.ext hE)).mono ?_
  rintro z w1 ⟨rfl, n1, rfl⟩
  go_wp2_with fail
  have hE3 := (hE.drewN n1).put (g := w.heap.size + 1) (by omega) (.int .i64 0) (.bool false) (.int .i64 0) (.slice none 0 0)
  have hY3 := (hY.ext ((Ext.refl W).drewN n1)).put (.int .i64 0) (.bool false) (.int .i64 0) (.slice none 0 0)
  obtain ⟨r0, r1, r2, r3, rf⟩ := hY3.facts
  refine bodyPost_ret (v := .tuple #[flV 0 false 0 (.slice none 0 0), .int .i64 5]) (by simp [results, Tryd.results5, go_sem, r0, r1, r2, r3]) rfl ?_
  exact FErr.bad hE3
set_option maxHeartbeats 2000000 in
set_option maxRecDepth 100000 in
/-- Of, at a numerator 0. -/
theorem of_znum (neg : Bool) (A1 A2 : Option Addr) (c1 c2 : Nat) (xs ds : List Nat) (w : World) (h1 : Rd w A1 c1 xs) (h2 : Rd w A2 c2 ds) (hl1 : xs.length ≤ 4096) (hl2 : ds.length ≤ 4096) (hd : 0 < val ds) (hn : val xs = 0) :
    Calls Tryd.prog 5 #[ratV neg (.slice A1 xs.length c1) (.slice A2 ds.length c2)] w (FErr w 0 ⟨0, false, 0, 0⟩) := by
  obtain ⟨hQ, hY, hE⟩ := boxesOf w neg (.slice A1 xs.length c1) (.slice A2 ds.length c2) _ rfl
  have hz2 := fun w h => zero_c A2 c2 ds w h
  have hz1 := fun w h => zero_c A1 c1 xs w h
  rw [show decide (val ds = 0) = false by rw [decide_eq_false_iff_not]; omega] at hz2
  rw [show decide (val xs = 0) = true from decide_eq_true hn] at hz1
  have g1 : decide ((4096 : Int) < (xs.length : Int)) = false := by rw [decide_eq_false_iff_not]; omega
  have g2 : decide ((4096 : Int) < (ds.length : Int)) = false := by rw [decide_eq_false_iff_not]; omega
  have HQ := Lib.hid hQ
  have HY := Lib.hid hY
  have HE := Lib.hid hE
  clear hQ hY hE hd hn hl1 hl2
  go_enter Tryd.func5, Tryd.ntmps5
  go_wp2_with fail
  have hQ := HQ.out
  have hY := HY.out
  have hE := HE.out
  clear HQ HY HE
  generalize ((w.alloc (.cells #[.bool neg, .slice A1 xs.length c1, .slice A2 ds.length c2] 27)).alloc (.cells #[.int .i64 0, .bool false, .int .i64 0, .slice none 0 0] 31)) = W at *
  obtain ⟨q0, q1, q2, qf⟩ := hQ.facts
  obtain ⟨y0, y1, y2, y3, yf⟩ := hY.facts
  refine (hz2 _ (h2.ext hE)).mono ?_
  rintro z w1 ⟨rfl, n1, rfl⟩
  go_wp2_with fail
  refine (hz1 _ (h1.ext (hE.drewN _))).mono ?_
  rintro z w1 ⟨rfl, n2, rfl⟩
  go_wp2_with fail
  have hE3 := (hE.drewN (n1 + n2)).put (g := w.heap.size + 1) (by omega) (.int .i64 0) (.bool false) (.int .i64 0) (.slice none 0 0)
  have hY3 := (hY.ext ((Ext.refl W).drewN (n1 + n2))).put (.int .i64 0) (.bool false) (.int .i64 0) (.slice none 0 0)
  obtain ⟨r0, r1, r2, r3, rf⟩ := hY3.facts
  refine bodyPost_ret (v := .tuple #[flV 0 false 0 (.slice none 0 0), .int .i64 0]) (by simp [results, Tryd.results5, go_sem, r0, r1, r2, r3]) rfl ?_
  exact FErr.bad hE3
set_option maxHeartbeats 4000000 in
set_option maxRecDepth 100000 in
/-- Of, where neither is 0. -/
theorem of_any (neg : Bool) (A1 A2 : Option Addr) (c1 c2 : Nat) (xs ds : List Nat) (w : World) (hT : Tab w) (h1 : Rd w A1 c1 xs) (h2 : Rd w A2 c2 ds) (hl1 : xs.length ≤ 4096) (hl2 : ds.length ≤ 4096) (hd : 0 < val ds) (hn : 0 < val xs) :
    Calls Tryd.prog 5 #[ratV neg (.slice A1 xs.length c1) (.slice A2 ds.length c2)] w (FErr w (if (ofP neg (val xs) (val ds)).isSome = true then 0 else 4) ((ofP neg (val xs) (val ds)).getD ⟨0, false, 0, 0⟩)) := by
  obtain ⟨hQ, hY, hE⟩ := boxesOf w neg (.slice A1 xs.length c1) (.slice A2 ds.length c2) _ rfl
  have hz2 := fun w h => zero_c A2 c2 ds w h
  have hz1 := fun w h => zero_c A1 c1 xs w h
  rw [show decide (val ds = 0) = false by rw [decide_eq_false_iff_not]; omega] at hz2
  rw [show decide (val xs = 0) = false by rw [decide_eq_false_iff_not]; omega] at hz1
  have htr := fun w h hT => trailing_c A2 c2 ds w h (by omega) hT
  have hsh := fun w h => shr_c A2 c2 ds (tz (val ds)) w h (by have := tz_val_le h2.w64 hl2; omega) (by omega)
  have ht0 := tz_val_le h2.w64 hl2
  have hop : 0 < val ds / 2 ^ tz (val ds) := by
    have hh := (tz_div (val ds) hd).2
    rcases Nat.eq_zero_or_pos (val ds / 2 ^ tz (val ds)) with h0 | h0
    · rw [h0] at hh
      omega
    · exact h0
  have hol : (cn (val ds / 2 ^ tz (val ds))).length ≤ 4096 := Nat.le_trans (cn_len_mono (Nat.div_le_self _ _)) (Nat.le_trans (cn_val_le h2.w64) hl2)
  have hnl : (cn (val xs / (val ds / 2 ^ tz (val ds)))).length ≤ 4096 := Nat.le_trans (cn_len_mono (Nat.div_le_self _ _)) (Nat.le_trans (cn_val_le h1.w64) hl1)
  unfold ofP
  generalize tz (val ds) = t at *
  generalize val ds / 2 ^ t = o at *
  have hdm := fun A c w h h' => divmod_c A1 A c1 c xs (cn o) w h h' (by rw [val_cn]; exact hop) (by omega) (by omega)
  rw [val_cn] at hdm
  unfold DMR at hdm
  generalize val xs / o = n' at *
  generalize val xs % o = r at *
  have hz3 := fun (A : Option Addr) c w h => zero_c A c (cn r) w h
  rw [val_cn] at hz3
  have hcn := fun A c w hT h => canonical_c 1 neg (-(t : Int)) A c (cn n') w hT h (by omega)
  rw [val_cn] at hcn
  generalize canon 1 neg (-(t : Int)) n' = cf at *
  have hw1 : IntKind.i64.wrap (-(t : Int)) = -(t : Int) := by rw [IntKind.wrap_i64]; omega
  have g1 : decide ((4096 : Int) < (xs.length : Int)) = false := by rw [decide_eq_false_iff_not]; omega
  have g2 : decide ((4096 : Int) < (ds.length : Int)) = false := by rw [decide_eq_false_iff_not]; omega
  obtain ⟨R, hR⟩ : ∃ R, (if r = 0 then cf else none) = R := ⟨_, rfl⟩
  rw [hR]
  obtain ⟨ec, hec⟩ : ∃ ec : Int, (if R.isSome = true then 0 else 4) = ec := ⟨_, rfl⟩
  rw [hec]
  obtain ⟨ff, hff⟩ : ∃ ff, R.getD ⟨0, false, 0, 0⟩ = ff := ⟨_, rfl⟩
  rw [hff]
  have HR := Lib.hid hR
  have HEC := Lib.hid hec
  have HFF := Lib.hid hff
  have HQ := Lib.hid hQ
  have HY := Lib.hid hY
  have HE := Lib.hid hE
  clear hQ hY hE hn hd hl1 hl2 hop hol hnl hR hec hff
  go_enter Tryd.func5, Tryd.ntmps5
  go_wp2_with fail
  have hQ := HQ.out
  have hY := HY.out
  have hE := HE.out
  clear HQ HY HE
  generalize ((w.alloc (.cells #[.bool neg, .slice A1 xs.length c1, .slice A2 ds.length c2] 27)).alloc (.cells #[.int .i64 0, .bool false, .int .i64 0, .slice none 0 0] 31)) = W at *
  obtain ⟨q0, q1, q2, qf⟩ := hQ.facts
  refine (hz2 _ (h2.ext hE)).mono ?_
  rintro z w1 ⟨rfl, n1, rfl⟩
  go_wp2_with fail
  refine (hz1 _ (h1.ext (hE.drewN _))).mono ?_
  rintro z w1 ⟨rfl, n2, rfl⟩
  go_wp2_with fail
  refine (htr _ (h2.ext (hE.drewN _)) (hT.ext (hE.drewN _))).mono ?_
  rintro z w1 ⟨rfl, n3, rfl⟩
  go_wp2_with fail
  have hE3 := hE.drewN (n1 + n2 + n3)
  have hQ3 := hQ.ext ((Ext.refl W).drewN (n1 + n2 + n3))
  have hY3 := hY.ext ((Ext.refl W).drewN (n1 + n2 + n3))
  clear hE hQ hY q0 q1 q2 qf
  generalize W.drewN (n1 + n2 + n3) = W3 at *
  obtain ⟨q0, q1, q2, qf⟩ := hQ3.facts
  go_region_held3 (fun w' => w'.cell? ⟨w.heap.size, 1, none⟩ = some (.slice A1 xs.length c1) ∧ w'.cell? ⟨w.heap.size, 2, none⟩ = some (.slice A2 ds.length c2))
    (first | go_keep | (go_split_ands; refine ⟨?_, ?_⟩ <;> (refine Ext.cell (w := W3) (by assumption) ?_; assumption)))
    (first
      | (go_at_call 18; (with_reducible refine (hsh _ ?hr).mono ?_); (case hr => exact (h2.ext hE3).drew); rintro z w5 ⟨v, rfl, ho5, hb5⟩; obtain ⟨A5, c5, rfl, hr5⟩ := ho5.rd; have hE5 : Ext W3 w5 := (Ext.refl W3).drew.tr hb5)
      | (go_at_call 17; (with_reducible refine (hdm A5 c5 _ (h1.ext (hE3.tr hE5)) hr5).mono ?_); rintro z w6 ⟨v, v', rfl, ho6, ho6', hb6⟩; obtain ⟨A6, c6, rfl, hr6⟩ := ho6.rd; obtain ⟨A7, c7, rfl, hr7⟩ := ho6'.rd; have hE6 : Ext W3 w6 := hE5.tr hb6))
  have hE6' := hE3.tr hE6
  have hQ6 := hQ3.ext hE6
  have hY6 := hY3.ext hE6
  clear q0 q1 q2 qf
  obtain ⟨q0, q1, q2, qf⟩ := hQ6.facts
  obtain ⟨y0, y1, y2, y3, yf⟩ := hY6.facts
  go_wp2_with fail
  refine (hz3 _ _ _ hr7).mono ?_
  rintro z w7 ⟨rfl, n4, rfl⟩
  by_cases hr0 : r = 0
  rotate_left
  · have hR := HR.out
    rw [if_neg hr0] at hR
    subst hR
    have hff := HFF.out
    have hec := HEC.out
    have hff : (⟨0, false, 0, 0⟩ : Fl) = ff := hff
    have hec : (4 : Int) = ec := hec
    subst hff hec
    rw [decide_eq_false hr0]
    have hE7 := (hE6'.drewN n4).put (g := w.heap.size + 1) (by omega) (.int .i64 0) (.bool false) (.int .i64 0) (.slice none 0 0)
    have hY7 := (hY6.ext ((Ext.refl w6).drewN n4)).put (.int .i64 0) (.bool false) (.int .i64 0) (.slice none 0 0)
    go_wp2_with fail
    obtain ⟨r0, r1, r2, r3, rf⟩ := hY7.facts
    refine bodyPost_ret (v := .tuple #[flV 0 false 0 (.slice none 0 0), .int .i64 4]) (by simp [results, Tryd.results5, go_sem, r0, r1, r2, r3]) rfl ?_
    exact FErr.bad hE7
  have hR := HR.out
  rw [if_pos hr0] at hR
  subst hR
  rw [decide_eq_true hr0]
  clear hr0 HR
  go_wp2_with fail
  refine (hcn _ _ _ (hT.ext (hE6'.drewN _)) (hr6.ext ((Ext.refl w6).drewN _))).mono ?_
  rintro z w8 ⟨u, rfl, hb8, hfl, hfo⟩
  have hE8 := (hE6'.drewN n4).tr hb8
  have hY8 := hY6.ext (((Ext.refl w6).drewN n4).tr hb8)
  have hs6 := hY6.lt
  have hs8 := hb8.size
  cases cf with
  | none =>
    obtain ⟨k8, g8, e8, A8, m8, c8, rfl⟩ := hfo
    have hff : (⟨0, false, 0, 0⟩ : Fl) = ff := HFF.out
    have hec : (4 : Int) = ec := HEC.out
    subst hff hec
    have hAl := (Ext.refl w8).al (.cells #[.int .i64 k8, .bool g8, .int .i64 e8, .slice A8 m8 c8] 31)
    have hE9 := (hE8.tr hAl).put (g := w.heap.size + 1) (by omega) (.int .i64 0) (.bool false) (.int .i64 0) (.slice none 0 0)
    have hY9 := (hY8.ext hAl).put (.int .i64 0) (.bool false) (.int .i64 0) (.slice none 0 0)
    have HY9 := Lib.hid hY9
    have HE9 := Lib.hid hE9
    clear hY9 hE9 q0 q1 q2 qf y0 y1 y2 y3 yf hfl
    obtain ⟨y0, y1, y2, y3, yf⟩ := (hY8.ext hAl).facts
    go_wp2_with fail
    obtain ⟨r0, r1, r2, r3, rf⟩ := HY9.out.facts
    refine bodyPost_ret (v := .tuple #[flV 0 false 0 (.slice none 0 0), .int .i64 4]) (by simp [results, Tryd.results5, go_sem, r0, r1, r2, r3]) rfl ?_
    exact FErr.bad HE9.out
  | some f =>
    have hff : f = ff := HFF.out
    have hec : (0 : Int) = ec := HEC.out
    subst hff hec
    obtain ⟨v, rfl, ho8⟩ := hfl f rfl
    obtain ⟨A8, c8, rfl, hr8⟩ := ho8.rd
    clear hfo hfl
    have hly := hY8.lt
    have hY9 := (hY8.put (.int .i64 f.kind) (.bool f.neg) (.int .i64 f.exp) (.slice A8 (cn f.mag).length c8)).ext ((Ext.refl _).al (.cells #[.int .i64 f.kind, .bool f.neg, .int .i64 f.exp, .slice A8 (cn f.mag).length c8] 31))
    have hE9 := (hE8.put (g := w.heap.size + 1) (by omega) (.int .i64 f.kind) (.bool f.neg) (.int .i64 f.exp) (.slice A8 (cn f.mag).length c8)).al (.cells #[.int .i64 f.kind, .bool f.neg, .int .i64 f.exp, .slice A8 (cn f.mag).length c8] 31)
    have ho9 := ((ho8.putBelow (g := w.heap.size + 1) (by simpa using hs6) (.int .i64 f.kind) (.bool f.neg) (.int .i64 f.exp) (.slice A8 (cn f.mag).length c8)).ext ((Ext.refl _).al (.cells #[.int .i64 f.kind, .bool f.neg, .int .i64 f.exp, .slice A8 (cn f.mag).length c8] 31))).low (b := w.heap.size) (by have := hE6'.size; simpa using this)
    have HY9 := Lib.hid hY9
    have HE9 := Lib.hid hE9
    have HO9 := Lib.hid ho9
    clear hY9 hE9 ho9 q0 q1 q2 qf y0 y1 y2 y3 yf
    obtain ⟨y0, y1, y2, y3, yf⟩ := hY8.facts
    go_wp2_with fail
    obtain ⟨r0, r1, r2, r3, rf⟩ := HY9.out.facts
    refine bodyPost_ret (v := .tuple #[flV f.kind f.neg f.exp (.slice A8 (cn f.mag).length c8), .int .i64 0]) (by simp [results, Tryd.results5, go_sem, r0, r1, r2, r3]) rfl ?_
    exact ⟨_, rfl, ⟨_, rfl, HO9.out⟩, HE9.out⟩
end Go.Proofs.YtknafhogaheacaaDoor
