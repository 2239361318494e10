/- package nat: trim, Trim, Cmp (with compare and slices.Clone). package integer: tidy, Trim, Sign, Cmp. That no number has too many words: nat.large, words.few (over slices.ContainsFunc and IndexFunc); words.checked. -/
import Derived.Test.YtehlmacgjlgjaaaGreatDoorW3
import Derived.Test.YtehlmacgjlgjaaaGreatDoorR1
import Derived.Lib.SliceRun
import Derived.Test.YtehlmacgjlgjaaaGreatDoorU2
import Derived.Test.YtehlmacgjlgjaaaGreatDoorQ0
set_option linter.unusedVariables false
set_option linter.unusedSimpArgs false
namespace Go.Proofs.YtehlmacgjlgjaaaGreatDoor
open Go.RowKit

set_option maxHeartbeats 1000000 in
set_option maxRecDepth 100000 in
theorem ntrim_c (A : Option Addr) (c : Nat) (xs : List Nat) (w : World) (h : Rd w A c xs) :
    Calls Tryz.prog 154 #[.slice A xs.length c] w fun e w' => e = .returned (.slice A (topN xs) c) ∧ ∃ n, w' = w.drewN n := by
  have hl := h.len
  have hc := h.cap
  have ht := topN_le xs
  go_enter Tryz.func154, Tryz.ntmps154
  go_wp2
  go_loopw [3] (fun v wr => ∃ k : Nat, k ≤ xs.length ∧ topN xs ≤ k ∧ v = .int .i64 k ∧ ∃ n, wr = w.drewN n) (fun v _ => (intOf v).toNat)
  case atStart => exact ⟨xs.length, Nat.le_refl _, ht, rfl, 0, rfl⟩
  case round =>
    obtain ⟨k, hk, htk, rfl, n, rfl⟩ := hrel
    by_cases h0 : 0 < k
    · obtain ⟨ad, rfl, hcell⟩ := h.cell (k - 1) (by omega)
      have hidx : ((k : Int) - 1) = ((k - 1 : Nat) : Int) := by omega
      by_cases hz : xs.getD (k - 1) 0 = 0
      · have hne : topN xs ≠ k := fun e => topN_last xs (by omega) (by rw [e]; exact hz)
        rw [hz] at hcell
        go_wp2
        go_roundw
        case rel => exact ⟨k - 1, by omega, by omega, rfl, _, rfl⟩
        case measure => simp [intOf]; omega
      · have hne : topN xs = k := by
          rcases Nat.lt_or_ge (k - 1) (topN xs) with h1 | h1
          · omega
          · exact absurd (topN_zero xs _ h1) hz
        have HN := Lib.hid hne
        clear htk hne
        generalize xs.getD (k - 1) 0 = v at hcell hz
        have hzb : (((v : Nat) : Int) == 0) = false := by rw [beq_eq_false_iff_ne]; omega
        go_wp2
        go_ret
        exact ⟨by rw [HN.out]; rfl, _, rfl⟩
    · obtain rfl : k = 0 := by omega
      have h1 : topN xs = 0 := by omega
      have HN := Lib.hid h1
      clear htk h1
      go_wp2
      go_ret
      exact ⟨by rw [HN.out]; rfl, _, rfl⟩
theorem ntrim_cn (A : Option Addr) (c : Nat) (xs : List Nat) (w : World) (h : Rd w A c xs) :
    Calls Tryz.prog 154 #[.slice A xs.length c] w fun e w' => e = .returned (.slice A (cn (val xs)).length c) ∧ ∃ n, w' = w.drewN n := by
  rw [← topN_eq_len xs h.w64]
  exact ntrim_c A c xs w h
/-- What trim leaves is read as the number's canonical words. -/
theorem Rd.cnv {w : World} {A : Option Addr} {c : Nat} {xs : List Nat} (h : Rd w A c xs) : Rd w A c (cn (val xs)) := by
  have h1 := h.take (topN xs) (topN_le xs) (Nat.le_trans (topN_le xs) h.cap)
  rwa [← cn_topN xs h.w64] at h1
set_option maxHeartbeats 1000000 in
set_option maxRecDepth 100000 in
theorem nclone_c (A : Option Addr) (c : Nat) (xs : List Nat) (w : World) (h : Rd w A c xs) (hs : xs.length ≤ 100000000) :
    Calls Tryz.prog 156 #[.slice A xs.length c] w (Res w xs) := by
  have q34 : ∀ (w : World) (a : Option Addr) (n c n' c' : Nat), (binOp .eql 27 (.slice a n c) (.slice none n' c')).run Tryz.prog w = .ok (.bool a.isNone) w := fun w a n c n' c' => Lib.run_eql_slice_nil w _ _ a n c n' c' Tryz.underlying27
  cases A with
  | none =>
    have e : xs = [] := by
      rcases Nat.eq_zero_or_pos xs.length with h0 | h0
      · exact List.eq_nil_of_length_eq_zero h0
      · obtain ⟨ad, h⟩ := h.addr h0; cases h
    subst e
    go_enter Tryz.func156, Tryz.ntmps156
    go_wp2
    go_ret
    exact ⟨_, rfl, Own.nil _ _, Ext.refl w⟩
  | some ad =>
    go_enter Tryz.func156, Tryz.ntmps156
    go_wp2_with (at_builtin; refine wp_append rfl _ _ _ rfl Tryz.underlying27 w.heap.size _ [] rfl ⟨World.ownsRow_lit _ #[] 0 (by simp) (by simp [maxLen]) rfl, W64.nil⟩ (some ad) xs.length c xs rfl rfl (h.ext ((Ext.refl _).al _)) (by simp) (by simp; omega) ?_; intro v' w' ho hb hat hg)
    go_ret
    exact ⟨_, rfl, ho, Below.trans ((Ext.refl w).al _) hb⟩
set_option maxHeartbeats 1000000 in
set_option maxRecDepth 100000 in
theorem nTrim_c (A : Option Addr) (c : Nat) (xs : List Nat) (w : World) (h : Rd w A c xs) (hs : xs.length ≤ 100000000) :
    Calls Tryz.prog 130 #[.slice A xs.length c] w (Res w (cn (val xs))) := by
  have ht := ntrim_cn A c xs w h
  have hv := h.cnv
  have hl : (cn (val xs)).length ≤ 100000000 := Nat.le_trans (cn_val_le h.w64) hs
  have hcl := fun w h => nclone_c A c (cn (val xs)) w h hl
  generalize cn (val xs) = ys at *
  go_enter Tryz.func130, Tryz.ntmps130
  go_wp2_with fail
  refine ht.mono ?_
  rintro z w1 ⟨rfl, n, rfl⟩
  go_wp2_with fail
  refine (hcl _ (hv.drewN n)).mono ?_
  rintro z w2 ⟨v, rfl, ho, hb⟩
  go_wp2
  go_ret
  exact ⟨_, rfl, ho, ((Ext.refl w).drewN n).tr hb⟩
set_option maxHeartbeats 2000000 in
set_option maxRecDepth 100000 in
theorem ncompare_c (A A' : Option Addr) (c c' : Nat) (m n : Nat) (w : World) (hl : Rd w A c (cn m)) (hl' : Rd w A' c' (cn n)) :
    Calls Tryz.prog 153 #[.slice A (cn m).length c, .slice A' (cn n).length c'] w fun e w' => e = .returned (.int .i64 (cmp3 m n)) ∧ ∃ k, w' = w.drewN k := by
  have e1 := val_cn m
  have e2 := val_cn n
  have hlt1 := fun hh => cn_len_lt_val (m := m) (n := n) hh
  have hlt2 := fun hh => cn_len_lt_val (m := n) (n := m) hh
  generalize cn m = us at *
  generalize cn n = vs at *
  have l1 := hl.len
  have l2 := hl'.len
  rcases Nat.lt_trichotomy us.length vs.length with hlt | heq | hgt
  · have hb : ((us.length : Int) != vs.length) = true := by rw [bne_iff_ne]; omega
    have hm : max (0 : Int) ((us.length : Int) - vs.length) = 0 := by omega
    have HV := Lib.hid (cmp3_lt (hlt1 hlt))
    clear hlt1 hlt2 e1 e2
    go_enter Tryz.func153, Tryz.ntmps153
    go_wp2
    go_ret
    exact ⟨by rw [HV.out]; rfl, 0, rfl⟩
  · have hb : ((us.length : Int) != vs.length) = false := by rw [heq]; simp
    have HE := Lib.hid heq
    have HV1 := Lib.hid e1
    have HV2 := Lib.hid e2
    have hw1 := hl.w64
    clear hlt1 hlt2 e1 e2 heq
    go_enter Tryz.func153, Tryz.ntmps153
    go_wp2
    go_loopw [5] (fun v wr => ∃ i : Nat, i ≤ us.length ∧ v = .int .i64 ((i : Int) - 1) ∧ us.drop i = vs.drop i ∧ ∃ n, wr = w.drewN n) (fun v _ => (intOf v + 1).toNat)
    case atStart => exact ⟨us.length, Nat.le_refl _, rfl, by rw [List.drop_eq_nil_of_le (Nat.le_refl _), List.drop_eq_nil_of_le (by rw [HE.out]; exact Nat.le_refl _)], 0, rfl⟩
    case round =>
      obtain ⟨i, hi, rfl, hdr, nn, rfl⟩ := hrel
      have HD := Lib.hid hdr
      clear hdr
      by_cases h0 : 0 < i
      · obtain ⟨ad, rfl, hc1⟩ := hl.cell (i - 1) (by omega)
        obtain ⟨ad', rfl, hc2⟩ := hl'.cell (i - 1) (by rw [← HE.out]; omega)
        have hidx : ((i : Int) - 1) = ((i - 1 : Nat) : Int) := by omega
        have hd' := fun e => drop_succ_eq (xs := us) (ys := vs) (i - 1) (by omega) (by rw [← HE.out]; omega) (by rw [show i - 1 + 1 = i by omega]; exact HD.out) e
        have hlt := fun hh => val_lt_of us vs (i - 1) hw1 (by omega) (by rw [← HE.out]; omega) (by rw [show i - 1 + 1 = i by omega]; exact HD.out) hh
        have hgt := fun hh => val_lt_of vs us (i - 1) hl'.w64 (by rw [← HE.out]; omega) (by omega) (by rw [show i - 1 + 1 = i by omega]; exact HD.out.symm) hh
        have HLT := Lib.hid hlt
        have HGT := Lib.hid hgt
        have HDD := Lib.hid hd'
        have hii : i - 1 < us.length := by omega
        have hii' : i - 1 < vs.length := by rw [← HE.out]; omega
        clear hlt hgt hd'
        generalize us.getD (i - 1) 0 = x at *
        generalize vs.getD (i - 1) 0 = y at *
        rcases Nat.lt_trichotomy x y with hxy | hxy | hxy
        · have b1 : ((x : Int) != y) = true := by rw [bne_iff_ne]; omega
          have b2 : decide ((x : Int) < y) = true := by simp; omega
          have HV := Lib.hid (cmp3_lt (HLT.out hxy))
          go_wp2
          go_quiet (fail)
          go_wp2
          go_quiet (fail)
          go_wp2
          go_ret
          refine ⟨?_, dn3 _ _ _ _⟩
          rw [show cmp3 m n = -1 from by rw [← HV1.out, ← HV2.out]; exact HV.out]; rfl
        · subst hxy
          have b1 : ((x : Int) != x) = false := by simp
          go_wp2
          go_quiet (fail)
          go_wp2
          go_roundw
          case rel => exact ⟨i - 1, by omega, rfl, HDD.out (by first | rfl | trivial), _, rfl⟩
          case measure => simp [intOf]; omega
        · have b1 : ((x : Int) != y) = true := by rw [bne_iff_ne]; omega
          have b2 : decide ((x : Int) < y) = false := by simp; omega
          have HV := Lib.hid (cmp3_gt (HGT.out hxy))
          go_wp2
          go_quiet (fail)
          go_wp2
          go_quiet (fail)
          go_wp2
          go_ret
          refine ⟨?_, dn3 _ _ _ _⟩
          rw [show cmp3 m n = 1 from by rw [← HV1.out, ← HV2.out]; exact HV.out]; rfl
      · obtain rfl : i = 0 := by omega
        go_wp2
        go_ret
        refine ⟨?_, _, rfl⟩
        have h3 := HD.out
        simp only [List.drop_zero] at h3
        rw [← HV1.out, ← HV2.out, h3, cmp3_eq rfl]
        rfl
  · have hb : ((us.length : Int) != vs.length) = true := by rw [bne_iff_ne]; omega
    obtain ⟨d, hd⟩ : ∃ d : Int, (us.length : Int) - vs.length = d := ⟨_, rfl⟩
    have hm : max (0 : Int) d = d := by omega
    have hm2 : min (1 : Int) d = 1 := by omega
    have hm3 : IntKind.i64.wrap d = d := by rw [IntKind.wrap_i64]; omega
    have HV := Lib.hid (cmp3_gt (hlt2 hgt))
    clear hlt1 hlt2 e1 e2
    go_enter Tryz.func153, Tryz.ntmps153
    go_wp2
    go_ret
    exact ⟨by rw [HV.out]; rfl, 0, rfl⟩
set_option maxHeartbeats 1000000 in
set_option maxRecDepth 100000 in
theorem nCmp_c (A A' : Option Addr) (c c' : Nat) (xs ys : List Nat) (w : World) (h : Rd w A c xs) (h' : Rd w A' c' ys) :
    Calls Tryz.prog 128 #[.slice A xs.length c, .slice A' ys.length c'] w fun e w' => e = .returned (.int .i64 (cmp3 (val xs) (val ys))) ∧ ∃ k, w' = w.drewN k := by
  have t1 := ntrim_cn A c xs w h
  have t2 := fun n => ntrim_cn A' c' ys (w.drewN n) (h'.drewN n)
  have hc := fun k => ncompare_c A A' c c' (val xs) (val ys) (w.drewN k) (h.cnv.drewN k) (h'.cnv.drewN k)
  generalize cmp3 (val xs) (val ys) = z at *
  generalize cn (val xs) = X at *
  generalize cn (val ys) = Y at *
  go_enter Tryz.func128, Tryz.ntmps128
  go_wp2_with fail
  refine t1.mono ?_
  rintro e w1 ⟨rfl, n1, rfl⟩
  go_wp2_with fail
  refine (t2 _).mono ?_
  rintro e w1 ⟨rfl, n2, rfl⟩
  go_wp2_with fail
  refine (hc _).mono ?_
  rintro e w1 ⟨rfl, n3, rfl⟩
  go_wp2
  go_ret
  exact ⟨rfl, _, rfl⟩
end Go.Proofs.YtehlmacgjlgjaaaGreatDoor
namespace Go.Proofs.YtehlmacgjlgjaaaGreatDoor
open Go.RowKit

set_option maxHeartbeats 1000000 in
set_option maxRecDepth 100000 in
theorem itidy_c (neg : Bool) (A : Option Addr) (c : Nat) (xs : List Nat) (w : World) (h : Rd w A c xs) (hs : xs.length ≤ 100000000) :
    Calls Tryz.prog 93 #[.bool neg, .slice A xs.length c] w (IntR w (sg neg (val xs))) := by
  have htr := fun w h => nTrim_c A c xs w h hs
  unfold IntR
  rw [sg_abs, sg_neg]
  have hz := cn_len_zero (val xs)
  have hp : decide (0 < val xs) = decide (0 < (cn (val xs)).length) := by
    by_cases h0 : val xs = 0
    · rw [decide_eq_false (by omega), decide_eq_false (by have := hz.2 h0; simp [this])]
    · have : (cn (val xs)).length ≠ 0 := fun h1 => h0 (hz.1 h1)
      rw [decide_eq_true (by omega), decide_eq_true (by omega)]
  rw [hp]
  clear hz hp
  generalize cn (val xs) = X at *
  have hB := Bi.new w (.bool false) (.slice none 0 0)
  have hA := (Ext.refl w).al (.cells #[.bool false, .slice none 0 0] 64)
  have HB := Lib.hid hB
  have HA := Lib.hid hA
  clear hB hA
  obtain ⟨b, hb⟩ : ∃ b, (neg && decide (0 < X.length)) = b := ⟨_, rfl⟩
  rw [hb]
  have hcase : (neg = false ∧ b = false) ∨ (neg = true ∧ decide (0 < X.length) = b) := by
    cases neg
    · exact .inl ⟨rfl, by simpa using hb.symm⟩
    · exact .inr ⟨rfl, by simpa using hb⟩
  clear hb
  rcases hcase with ⟨rfl, rfl⟩ | ⟨rfl, hq⟩
  all_goals
    go_enter Tryz.func93, Tryz.ntmps93
    go_wp2_with fail
    refine (htr _ (h.ext HA.out)).mono ?_
    rintro z w1 ⟨v, rfl, ho, hb⟩
    obtain ⟨A1, c1, rfl, -⟩ := ho.rd
    have hB1 := HB.out.ext hb
    have hs0 : w.heap.size < (w.alloc (.cells #[.bool false, .slice none 0 0] 64)).heap.size := HB.out.lt
    obtain ⟨b0, b1, bf⟩ := hB1.facts
    go_wp2
    first
      | (have hB2 := hB1.put (.bool false) (.slice A1 X.length c1)
         obtain ⟨r0, r1, rf⟩ := hB2.facts
         refine bodyPost_ret (v := intV false A1 X.length c1) (by simp [results, Tryz.results93, go_sem, r0, r1]) rfl ?_
         exact ⟨_, _, rfl, (ho.puti (g := w.heap.size) hs0 _ _).low (Nat.le_of_lt hs0), (HA.out.tr hb).puti (g := w.heap.size) (Nat.le_refl _) _ _⟩)
      | (have hB2 := hB1.put (.bool b) (.slice A1 X.length c1)
         obtain ⟨r0, r1, rf⟩ := hB2.facts
         refine bodyPost_ret (v := intV b A1 X.length c1) (by simp [results, Tryz.results93, go_sem, r0, r1]) rfl ?_
         exact ⟨_, _, rfl, (ho.puti (g := w.heap.size) hs0 _ _).low (Nat.le_of_lt hs0), (HA.out.tr hb).puti (g := w.heap.size) (Nat.le_refl _) _ _⟩)
set_option maxHeartbeats 1000000 in
set_option maxRecDepth 100000 in
theorem iTrim_c (neg : Bool) (A : Option Addr) (c : Nat) (xs : List Nat) (w : World) (h : Rd w A c xs) (hs : xs.length ≤ 100000000) :
    Calls Tryz.prog 92 #[intV neg A xs.length c] w (IntR w (sg neg (val xs))) := by
  have hmk := fun w h => itidy_c neg A c xs w h hs
  have hB := Bi.new (w.alloc (.cells #[.bool neg, .slice A xs.length c] 64)) (.bool false) (.slice none 0 0)
  have hA := ((Ext.refl w).al (.cells #[.bool neg, .slice A xs.length c] 64)).al (.cells #[.bool false, .slice none 0 0] 64)
  rw [World.size_alloc] at hB
  have hsz := hB.lt
  have HB := Lib.hid hB
  have HA := Lib.hid hA
  generalize sg neg (val xs) = z at *
  clear hB hA
  go_enter Tryz.func92, Tryz.ntmps92
  go_wp2_with fail
  refine (hmk _ (h.ext HA.out)).mono ?_
  rintro e w1 ⟨A1, c1, rfl, ho, hb⟩
  have hB1 := HB.out.ext hb
  obtain ⟨b0, b1, bf⟩ := hB1.facts
  go_wp2
  have hB2 := hB1.put (.bool (decide (z < 0))) (.slice A1 (cn z.natAbs).length c1)
  obtain ⟨r0, r1, rf⟩ := hB2.facts
  refine bodyPost_ret (v := intV (decide (z < 0)) A1 (cn z.natAbs).length c1) (by simp [results, Tryz.results92, go_sem, r0, r1]) rfl ?_
  exact ⟨_, _, rfl, (ho.puti (g := w.heap.size + 1) hsz _ _).low HA.out.size, (HA.out.tr hb).puti (g := w.heap.size + 1) (by omega) _ _⟩
set_option maxHeartbeats 1000000 in
set_option maxRecDepth 100000 in
theorem iSign_c (neg : Bool) (A : Option Addr) (c : Nat) (xs : List Nat) (w : World) (h : Rd w A c xs) (hs : xs.length ≤ 100000000) :
    Calls Tryz.prog 144 #[intV neg A xs.length c] w fun e w' => e = .returned (.int .i64 (sgn (sg neg (val xs)))) ∧ Ext w w' := by
  have htr := fun w h => iTrim_c neg A c xs w h hs
  have hB := Bi.new w (.bool neg) (.slice A xs.length c)
  have hA := (Ext.refl w).al (.cells #[.bool neg, .slice A xs.length c] 64)
  generalize sg neg (val xs) = z at *
  have HB := Lib.hid hB
  have HA := Lib.hid hA
  clear hB hA
  have hl : (((cn z.natAbs).length : Int) == 0) = decide (z = 0) := by
    have hz := cn_len_zero z.natAbs
    by_cases h0 : z = 0
    · subst h0; rw [decide_eq_true rfl]; simp [show cn 0 = [] from digs_zero B]
    · have : (cn z.natAbs).length ≠ 0 := fun h1 => h0 (by have := hz.1 h1; omega)
      rw [decide_eq_false h0, beq_eq_false_iff_ne]; omega
  have hcase : (decide (z < 0) = true ∧ (((cn z.natAbs).length : Int) == 0) = false ∧ sgn z = -1) ∨ (decide (z < 0) = false ∧ (((cn z.natAbs).length : Int) == 0) = false ∧ sgn z = 1) ∨ (decide (z < 0) = false ∧ (((cn z.natAbs).length : Int) == 0) = true ∧ sgn z = 0) := by
    unfold sgn
    rw [hl]
    rcases Int.lt_trichotomy z 0 with h0 | h0 | h0
    · exact .inl ⟨decide_eq_true h0, decide_eq_false (by omega), if_pos h0⟩
    · subst h0; exact .inr (.inr ⟨by decide, by decide, by decide⟩)
    · exact .inr (.inl ⟨decide_eq_false (by omega), decide_eq_false (by omega), by rw [if_neg (by omega), if_pos h0]⟩)
  clear hl
  generalize sgn z = s at *
  unfold IntR at htr
  generalize decide (z < 0) = nb at *
  generalize cn z.natAbs = X at *
  obtain ⟨q, hq⟩ : ∃ q, ((X.length : Int) == 0) = q := ⟨_, rfl⟩
  rw [hq] at hcase
  rcases hcase with ⟨rfl, rfl, rfl⟩ | ⟨rfl, rfl, rfl⟩ | ⟨rfl, rfl, rfl⟩
  all_goals
    go_enter Tryz.func144, Tryz.ntmps144
    go_wp2_with fail
    refine (htr _ (h.ext HA.out)).mono ?_
    rintro e w1 ⟨A1, c1, rfl, ho, hb⟩
    have hB1 := HB.out.ext hb
    obtain ⟨b0, b1, bf⟩ := hB1.facts
    have hE := HA.out.tr hb
    first
      | (have hB2 := hB1.put (.bool true) (.slice A1 X.length c1)
         obtain ⟨r0, r1, rf⟩ := hB2.facts
         go_wp2
         go_ret
         exact ⟨rfl, hE.puti (g := w.heap.size) (Nat.le_refl _) _ _⟩)
      | (have hB2 := hB1.put (.bool false) (.slice A1 X.length c1)
         obtain ⟨r0, r1, rf⟩ := hB2.facts
         go_wp2
         go_ret
         exact ⟨rfl, hE.puti (g := w.heap.size) (Nat.le_refl _) _ _⟩)
theorem sgn_sub {z1 z2 : Int} : (sgn z1 ≠ sgn z2 → sgn z1 < sgn z2 ∧ sgn (z1 - z2) = -1 ∨ sgn z2 < sgn z1 ∧ sgn (z1 - z2) = 1) ∧ (sgn z1 = sgn z2 → (sgn z1 < 0 → cmp3 z2.natAbs z1.natAbs = sgn (z1 - z2)) ∧ (¬ sgn z1 < 0 → cmp3 z1.natAbs z2.natAbs = sgn (z1 - z2))) := by
  unfold sgn cmp3
  constructor
  · intro h
    split at h <;> split at h <;> (try split at h) <;> (try split at h) <;> simp_all <;> omega
  · intro h
    constructor <;> intro h2
    · repeat' split
      all_goals (repeat' split at h)
      all_goals (repeat' split at h2)
      all_goals omega
    · repeat' split
      all_goals (repeat' split at h)
      all_goals (repeat' split at h2)
      all_goals omega
theorem boxesI2' (w : World) (n1 n2 : Bool) (v1 v2 : Value) : ∀ W, W = ((w.alloc (.cells #[.bool n1, v1] 64)).alloc (.cells #[.bool n2, v2] 64)) →
    Bi W w.heap.size (.bool n1) v1 ∧ Bi W (w.heap.size + 1) (.bool n2) v2 ∧ Ext w W := by
  rintro W rfl
  have h1 := (Ext.refl w).al (.cells #[.bool n1, v1] 64)
  have x2 := Bi.new (w.alloc (.cells #[.bool n1, v1] 64)) (.bool n2) v2
  rw [World.size_alloc] at x2
  exact ⟨(Bi.new w _ _).ext ((Ext.refl _).al _), x2, h1.al _⟩
set_option maxHeartbeats 4000000 in
set_option maxRecDepth 100000 in
theorem iCmp_c (n1 n2 : Bool) (A1 A2 : Option Addr) (c1 c2 : Nat) (xs ys : List Nat) (w : World) (h1 : Rd w A1 c1 xs) (h2 : Rd w A2 c2 ys) (hs1 : xs.length ≤ 100000000) (hs2 : ys.length ≤ 100000000) :
    Calls Tryz.prog 119 #[intV n1 A1 xs.length c1, intV n2 A2 ys.length c2] w fun e w' => e = .returned (.int .i64 (sgn (sg n1 (val xs) - sg n2 (val ys)))) ∧ Ext w w' := by
  obtain ⟨hX, hY, hE⟩ := boxesI2' w n1 n2 (.slice A1 xs.length c1) (.slice A2 ys.length c2) _ rfl
  have sa := fun w h => iSign_c n1 A1 c1 xs w h hs1
  have sb := fun w h => iSign_c n2 A2 c2 ys w h hs2
  have ca := fun w h h' => nCmp_c A1 A2 c1 c2 xs ys w h h'
  have cb := fun w h h' => nCmp_c A2 A1 c2 c1 ys xs w h h'
  have hss := @sgn_sub (sg n1 (val xs)) (sg n2 (val ys))
  rw [sg_abs, sg_abs] at hss
  have b1 : -1 ≤ sgn (sg n1 (val xs)) ∧ sgn (sg n1 (val xs)) ≤ 1 := by unfold sgn; split <;> (try split) <;> omega
  have b2 : -1 ≤ sgn (sg n2 (val ys)) ∧ sgn (sg n2 (val ys)) ≤ 1 := by unfold sgn; split <;> (try split) <;> omega
  generalize sgn (sg n1 (val xs) - sg n2 (val ys)) = t at *
  generalize sgn (sg n1 (val xs)) = s1 at *
  generalize sgn (sg n2 (val ys)) = s2 at *
  generalize cmp3 (val xs) (val ys) = k1 at *
  generalize cmp3 (val ys) (val xs) = k2 at *
  have HX := Lib.hid hX
  have HY := Lib.hid hY
  have HE := Lib.hid hE
  clear hX hY hE
  have hcase : (((s1 != s2) = true ∧ max (0 : Int) (s1 - s2) = 0) ∧ t = -1) ∨ (((s1 != s2) = true ∧ max (0 : Int) (s1 - s2) = s1 - s2 ∧ min (1 : Int) (s1 - s2) = 1) ∧ t = 1) ∨ ((s1 != s2) = false ∧ decide (s1 < 0) = true ∧ k2 = t) ∨ ((s1 != s2) = false ∧ decide (s1 < 0) = false ∧ k1 = t) := by
    by_cases he : s1 = s2
    · obtain ⟨p1, p2⟩ := hss.2 he
      by_cases hn : s1 < 0
      · exact .inr (.inr (.inl ⟨by rw [he]; simp, by rw [decide_eq_true_iff]; exact hn, p1 hn⟩))
      · exact .inr (.inr (.inr ⟨by rw [he]; simp, by rw [decide_eq_false_iff_not]; exact hn, p2 hn⟩))
    · rcases hss.1 he with ⟨q1, q2⟩ | ⟨q1, q2⟩
      · exact .inl ⟨⟨by rw [bne_iff_ne]; exact he, by omega⟩, q2⟩
      · exact .inr (.inl ⟨⟨by rw [bne_iff_ne]; exact he, by omega, by omega⟩, q2⟩)
  have hw : IntKind.i64.wrap (s1 - s2) = s1 - s2 := by rw [IntKind.wrap_i64]; omega
  clear hss
  go_enter Tryz.func119, Tryz.ntmps119
  go_wp2_with fail
  have hX := HX.out
  have hY := HY.out
  have hE := HE.out
  generalize ((w.alloc (.cells #[.bool n1, .slice A1 xs.length c1] 64)).alloc (.cells #[.bool n2, .slice A2 ys.length c2] 64)) = W at *
  obtain ⟨x0, x1, -⟩ := hX.facts
  obtain ⟨y0, y1, -⟩ := hY.facts
  have p0 := Later.cell x0
  have p1 := Later.cell x1
  have p2 := Later.cell y0
  have p3 := Later.cell y1
  refine wp_region_later (by kernel_rfl) (by kernel_rfl) ?_
  repeat (go_big_quiet_step (first
    | (go_at_call 144; (with_reducible refine Calls.later (sa _ (h1.ext (hE.tr (Later.h _))))))
    | (go_at_call 144; (with_reducible refine Calls.later (sb _ (h2.ext (hE.tr (Later.h _))))))))
  refine wpQuiet_nil ?_
  intro wq hw'
  obtain ⟨⟨_, hq⟩, rfl⟩ := hw'
  clear p0 p1 p2 p3 x0 x1 y0 y1
  have hEq := hE.tr hq
  obtain ⟨x0, x1, -⟩ := (hX.ext hq).facts
  obtain ⟨y0, y1, -⟩ := (hY.ext hq).facts
  rcases hcase with ⟨⟨g1, g2⟩, rfl⟩ | ⟨⟨g1, g2, g3⟩, rfl⟩ | ⟨g1, g2, rfl⟩ | ⟨g1, g2, rfl⟩
  · go_wp2
    go_ret
    exact ⟨rfl, hEq⟩
  · go_wp2
    go_ret
    exact ⟨rfl, hEq⟩
  · go_wp2_with fail
    refine (cb _ (h2.ext hEq) (h1.ext hEq)).mono ?_
    rintro z w4 ⟨rfl, n, rfl⟩
    go_wp2
    go_ret
    exact ⟨rfl, hEq.drewN n⟩
  · go_wp2_with fail
    refine (ca _ (h1.ext hEq) (h2.ext hEq)).mono ?_
    rintro z w4 ⟨rfl, n, rfl⟩
    go_wp2
    go_ret
    exact ⟨rfl, hEq.drewN n⟩
end Go.Proofs.YtehlmacgjlgjaaaGreatDoor
namespace Go.Proofs.YtehlmacgjlgjaaaGreatDoor
open Go.RowKit

/-- A slice of slices that are not too long. -/
def SlN (w : World) (A : Option Addr) (n : Nat) : Prop := ∀ i, i < n → ∃ ad, A = some ad ∧ ∃ A' m c', w.cell? (ad.add i) = some (.slice A' m c') ∧ m ≤ 4096
theorem SlN.ext {w w' : World} {A : Option Addr} {n : Nat} (h : SlN w A n) (hb : Ext w w') : SlN w' A n := fun i hi => by
  obtain ⟨ad, e, A', m, c', hc, hm⟩ := h i hi
  exact ⟨ad, e, A', m, c', hb.cell hc, hm⟩
/-- Two slices in new memory. -/
theorem SlN.two (w : World) (T : TypeId) (A1 A2 : Option Addr) (n1 c1 n2 c2 : Nat) (h1 : n1 ≤ 4096) (h2 : n2 ≤ 4096) : SlN (w.alloc (.cells #[.slice A1 n1 c1, .slice A2 n2 c2] T)) (some ⟨w.heap.size, 0, none⟩) 2 := fun i hi => by
  have hn := heap_alloc_new w (.cells #[.slice A1 n1 c1, .slice A2 n2 c2] T)
  rcases (show i = 0 ∨ i = 1 by omega) with rfl | rfl
  · exact ⟨_, rfl, A1, n1, c1, by rw [add_zero', cell_of_row _ _ _ _ _ _ hn]; rfl, h1⟩
  · exact ⟨_, rfl, A2, n2, c2, by rw [add_zero', cell_of_row _ _ _ _ _ _ hn]; rfl, h2⟩
theorem nlone_c (A : Option Addr) (n c : Nat) (w : World) (hn : n ≤ 4096) : Calls Tryz.prog 164 #[.slice A n c] w fun e w' => e = .returned (.bool false) ∧ w = w' := by
  have hd : decide ((4096 : Int) < (n : Int)) = false := by rw [decide_eq_false_iff_not]; omega
  go_enter Tryz.func164, Tryz.ntmps164
  go_wp2
  go_ret
  exact ⟨rfl, rfl⟩
set_option maxHeartbeats 1000000 in
set_option maxRecDepth 100000 in
theorem nlidx_c (A : Option Addr) (n c : Nat) (w : World) (hn : n ≤ 1000) (h : SlN w A n) : Calls Tryz.prog 168 #[.slice A n c, .func (.func 164) #[] #[]] w fun e w' => e = .returned (.int .i64 (-1)) ∧ w = w' := by
  go_enter Tryz.func168, Tryz.ntmps168
  go_wp2
  go_loopw [8] (fun v wr => ∃ i : Nat, i ≤ n ∧ v = .int .i64 i ∧ wr = w) (fun v _ => n - (intOf v).toNat)
  case atStart => exact ⟨0, Nat.zero_le _, rfl, rfl⟩
  case round =>
    obtain ⟨i, hi, rfl, rfl⟩ := hrel
    by_cases hlt : i < n
    · obtain ⟨ad, rfl, A', m, c', hc, hm⟩ := h i hlt
      have h1 := fun w => nlone_c A' m c' w hm
      go_wp2_with fail
      refine (h1 _).mono ?_
      rintro z w2 ⟨rfl, rfl⟩
      go_wp2
      go_roundw
      case rel => exact ⟨i + 1, hlt, by go_num, trivial⟩
      case measure => simp [intOf]; omega
    · obtain rfl : i = n := by omega
      go_wp2
      go_ret
      exact ⟨rfl, rfl⟩
set_option maxHeartbeats 1000000 in
set_option maxRecDepth 100000 in
theorem nlcon_c (A : Option Addr) (n c : Nat) (w : World) (hn : n ≤ 1000) (h : SlN w A n) : Calls Tryz.prog 163 #[.slice A n c, .func (.func 164) #[] #[]] w fun e w' => e = .returned (.bool false) ∧ w = w' := by
  have h1 := nlidx_c A n c w hn h
  go_enter Tryz.func163, Tryz.ntmps163
  go_wp2_with fail
  refine h1.mono ?_
  rintro z w2 ⟨rfl, rfl⟩
  go_wp2
  go_ret
  exact ⟨rfl, rfl⟩
theorem nlarge_c (A : Option Addr) (n c : Nat) (w : World) (hn : n ≤ 1000) (h : SlN w A n) : Calls Tryz.prog 150 #[.slice A n c] w fun e w' => e = .returned (.bool false) ∧ w = w' := by
  have h1 := nlcon_c A n c w hn h
  go_enter Tryz.func150, Tryz.ntmps150
  go_wp2_with fail
  refine h1.mono ?_
  rintro z w2 ⟨rfl, rfl⟩
  go_wp2
  go_ret
  exact ⟨rfl, rfl⟩
theorem wfone_c (A : Option Addr) (n c : Nat) (w : World) (hn : n ≤ 4096) : Calls Tryz.prog 171 #[.slice A n c] w fun e w' => e = .returned (.bool false) ∧ w = w' := by
  have hd : decide ((4096 : Int) < (n : Int)) = false := by rw [decide_eq_false_iff_not]; omega
  go_enter Tryz.func171, Tryz.ntmps171
  go_wp2
  go_ret
  exact ⟨rfl, rfl⟩
set_option maxHeartbeats 1000000 in
set_option maxRecDepth 100000 in
theorem wfidx_c (A : Option Addr) (n c : Nat) (w : World) (hn : n ≤ 1000) (h : SlN w A n) : Calls Tryz.prog 172 #[.slice A n c, .func (.func 171) #[] #[]] w fun e w' => e = .returned (.int .i64 (-1)) ∧ w = w' := by
  go_enter Tryz.func172, Tryz.ntmps172
  go_wp2
  go_loopw [8] (fun v wr => ∃ i : Nat, i ≤ n ∧ v = .int .i64 i ∧ wr = w) (fun v _ => n - (intOf v).toNat)
  case atStart => exact ⟨0, Nat.zero_le _, rfl, rfl⟩
  case round =>
    obtain ⟨i, hi, rfl, rfl⟩ := hrel
    by_cases hlt : i < n
    · obtain ⟨ad, rfl, A', m, c', hc, hm⟩ := h i hlt
      have h1 := fun w => wfone_c A' m c' w hm
      go_wp2_with fail
      refine (h1 _).mono ?_
      rintro z w2 ⟨rfl, rfl⟩
      go_wp2
      go_roundw
      case rel => exact ⟨i + 1, hlt, by go_num, trivial⟩
      case measure => simp [intOf]; omega
    · obtain rfl : i = n := by omega
      go_wp2
      go_ret
      exact ⟨rfl, rfl⟩
set_option maxHeartbeats 1000000 in
set_option maxRecDepth 100000 in
theorem wfcon_c (A : Option Addr) (n c : Nat) (w : World) (hn : n ≤ 1000) (h : SlN w A n) : Calls Tryz.prog 170 #[.slice A n c, .func (.func 171) #[] #[]] w fun e w' => e = .returned (.bool false) ∧ w = w' := by
  have h1 := wfidx_c A n c w hn h
  go_enter Tryz.func170, Tryz.ntmps170
  go_wp2_with fail
  refine h1.mono ?_
  rintro z w2 ⟨rfl, rfl⟩
  go_wp2
  go_ret
  exact ⟨rfl, rfl⟩
theorem wfew_c (A : Option Addr) (n c : Nat) (w : World) (hn : n ≤ 1000) (h : SlN w A n) : Calls Tryz.prog 169 #[.slice A n c] w fun e w' => e = .returned (.bool true) ∧ w = w' := by
  have h1 := wfcon_c A n c w hn h
  go_enter Tryz.func169, Tryz.ntmps169
  go_wp2_with fail
  refine h1.mono ?_
  rintro z w2 ⟨rfl, rfl⟩
  go_wp2
  go_ret
  exact ⟨rfl, rfl⟩
set_option maxHeartbeats 1000000 in
set_option maxRecDepth 100000 in
theorem wchecked_c (A1 A2 : Option Addr) (n c1 c2 : Nat) (T : TypeId) (w : World) (hn : n ≤ 4096) : Calls Tryz.prog 165 #[.slice (some ⟨w.heap.size, 0, none⟩) 2 2] (w.alloc (.cells #[.slice A1 n c1, .slice A2 n c2] T)) fun e w' => e = .returned (.int .i64 0) ∧ (w.alloc (.cells #[.slice A1 n c1, .slice A2 n c2] T)) = w' := by
  have hS := SlN.two w T A1 A2 n c1 n c2 hn hn
  have hf := wfew_c (some ⟨w.heap.size, 0, none⟩) 2 2 _ (by omega) hS
  have hh := heap_alloc_new w (.cells #[.slice A1 n c1, .slice A2 n c2] T)
  have x0 : (w.alloc (.cells #[.slice A1 n c1, .slice A2 n c2] T)).cell? ⟨w.heap.size, 0, none⟩ = some (.slice A1 n c1) := by rw [cell_of_row _ _ _ _ _ _ hh]; rfl
  have x1 : (w.alloc (.cells #[.slice A1 n c1, .slice A2 n c2] T)).cell? ⟨w.heap.size, 1, none⟩ = some (.slice A2 n c2) := by rw [cell_of_row _ _ _ _ _ _ hh]; rfl
  generalize w.alloc (.cells #[.slice A1 n c1, .slice A2 n c2] T) = W at *
  generalize w.heap.size = g at *
  have hb : ((n : Int) != (n : Int)) = false := by simp
  go_enter Tryz.func165, Tryz.ntmps165
  go_wp2_with fail
  refine hf.mono ?_
  rintro z w2 ⟨rfl, rfl⟩
  go_wp2
  go_loopw [10] (fun v wr => ∃ i : Nat, i ≤ 2 ∧ v = .int .i64 i ∧ wr = W) (fun v _ => 2 - (intOf v).toNat)
  case atStart => exact ⟨0, by omega, rfl, rfl⟩
  case round =>
    obtain ⟨i, hi, rfl, rfl⟩ := hrel
    rcases (show i = 0 ∨ i = 1 ∨ i = 2 by omega) with rfl | rfl | rfl
    · go_wp2
      go_roundw
      case rel => exact ⟨1, by omega, rfl, trivial⟩
      case measure => simp [intOf]
    · go_wp2
      go_roundw
      case rel => exact ⟨2, by omega, rfl, trivial⟩
      case measure => simp [intOf]
    · go_wp2
      go_ret
      exact ⟨rfl, rfl⟩
end Go.Proofs.YtehlmacgjlgjaaaGreatDoor
