/- package nat: trim, Trim, Cmp (with compare and slices.Clone). package integer: tidy, Trim, Sign, Cmp. That no number has too many words: nat.large, words.few (over slices.ContainsFunc and IndexFunc); words.checked. package words: Sub (with carrying and the closure that takes words away). package nat: Add, Sub. -/
import Derived.Test.YtlnfmngginihfaaGreatDoorW3
import Derived.Test.YtlnfmngginihfaaGreatDoorR1
import Derived.Lib.SliceRun
import Derived.Test.YtlnfmngginihfaaGreatDoorU2
import Derived.Test.YtlnfmngginihfaaGreatDoorB0
import Derived.Test.YtlnfmngginihfaaGreatDoorW5
import Derived.Laws.CopyOwn
set_option linter.unusedVariables false
set_option linter.unusedSimpArgs false
namespace Go.Proofs.YtlnfmngginihfaaGreatDoor
open Go.RowKit

set_option maxHeartbeats 1000000 in
set_option maxRecDepth 100000 in
theorem ntrim_c (A : Option Addr) (c : Nat) (xs : List Nat) (w : World) (h : Rd w A c xs) :
    Calls Tryz.prog 99 #[.slice A xs.length c] w fun e w' => e = .returned (.slice A (topN xs) c) ∧ ∃ n, w' = w.drewN n := by
  have hl := h.len
  have hc := h.cap
  have ht := topN_le xs
  go_enter Tryz.func99, Tryz.ntmps99
  go_wp2
  go_loopw [3] (fun v wr => ∃ k : Nat, k ≤ xs.length ∧ topN xs ≤ k ∧ v = .int .i64 k ∧ ∃ n, wr = w.drewN n) (fun v _ => (intOf v).toNat)
  case atStart => exact ⟨xs.length, Nat.le_refl _, ht, rfl, 0, rfl⟩
  case round =>
    obtain ⟨k, hk, htk, rfl, n, rfl⟩ := hrel
    by_cases h0 : 0 < k
    · obtain ⟨ad, rfl, hcell⟩ := h.cell (k - 1) (by omega)
      have hidx : ((k : Int) - 1) = ((k - 1 : Nat) : Int) := by omega
      by_cases hz : xs.getD (k - 1) 0 = 0
      · have hne : topN xs ≠ k := fun e => topN_last xs (by omega) (by rw [e]; exact hz)
        rw [hz] at hcell
        go_wp2
        go_roundw
        case rel => exact ⟨k - 1, by omega, by omega, rfl, _, rfl⟩
        case measure => simp [intOf]; omega
      · have hne : topN xs = k := by
          rcases Nat.lt_or_ge (k - 1) (topN xs) with h1 | h1
          · omega
          · exact absurd (topN_zero xs _ h1) hz
        have HN := Lib.hid hne
        clear htk hne
        generalize xs.getD (k - 1) 0 = v at hcell hz
        have hzb : (((v : Nat) : Int) == 0) = false := by rw [beq_eq_false_iff_ne]; omega
        go_wp2
        go_ret
        exact ⟨by rw [HN.out]; rfl, _, rfl⟩
    · obtain rfl : k = 0 := by omega
      have h1 : topN xs = 0 := by omega
      have HN := Lib.hid h1
      clear htk h1
      go_wp2
      go_ret
      exact ⟨by rw [HN.out]; rfl, _, rfl⟩
theorem ntrim_cn (A : Option Addr) (c : Nat) (xs : List Nat) (w : World) (h : Rd w A c xs) :
    Calls Tryz.prog 99 #[.slice A xs.length c] w fun e w' => e = .returned (.slice A (cn (val xs)).length c) ∧ ∃ n, w' = w.drewN n := by
  rw [← topN_eq_len xs h.w64]
  exact ntrim_c A c xs w h
/-- What trim leaves is read as the number's canonical words. -/
theorem Rd.cnv {w : World} {A : Option Addr} {c : Nat} {xs : List Nat} (h : Rd w A c xs) : Rd w A c (cn (val xs)) := by
  have h1 := h.take (topN xs) (topN_le xs) (Nat.le_trans (topN_le xs) h.cap)
  rwa [← cn_topN xs h.w64] at h1
set_option maxHeartbeats 1000000 in
set_option maxRecDepth 100000 in
theorem nclone_c (A : Option Addr) (c : Nat) (xs : List Nat) (w : World) (h : Rd w A c xs) (hs : xs.length ≤ 100000000) :
    Calls Tryz.prog 101 #[.slice A xs.length c] w (Res w xs) := by
  have q34 : ∀ (w : World) (a : Option Addr) (n c n' c' : Nat), (binOp .eql 38 (.slice a n c) (.slice none n' c')).run Tryz.prog w = .ok (.bool a.isNone) w := fun w a n c n' c' => Lib.run_eql_slice_nil w _ _ a n c n' c' Tryz.underlying38
  cases A with
  | none =>
    have e : xs = [] := by
      rcases Nat.eq_zero_or_pos xs.length with h0 | h0
      · exact List.eq_nil_of_length_eq_zero h0
      · obtain ⟨ad, h⟩ := h.addr h0; cases h
    subst e
    go_enter Tryz.func101, Tryz.ntmps101
    go_wp2
    go_ret
    exact ⟨_, rfl, Own.nil _ _, Ext.refl w⟩
  | some ad =>
    go_enter Tryz.func101, Tryz.ntmps101
    go_wp2_with (at_builtin; refine wp_append rfl _ _ _ rfl Tryz.underlying38 w.heap.size _ [] rfl ⟨World.ownsRow_lit _ #[] 0 (by simp) (by simp [maxLen]) rfl, W64.nil⟩ (some ad) xs.length c xs rfl rfl (h.ext ((Ext.refl _).al _)) (by simp) (by simp; omega) ?_; intro v' w' ho hb hat hg)
    go_ret
    exact ⟨_, rfl, ho, Below.trans ((Ext.refl w).al _) hb⟩
set_option maxHeartbeats 1000000 in
set_option maxRecDepth 100000 in
theorem nTrim_c (A : Option Addr) (c : Nat) (xs : List Nat) (w : World) (h : Rd w A c xs) (hs : xs.length ≤ 100000000) :
    Calls Tryz.prog 80 #[.slice A xs.length c] w (Res w (cn (val xs))) := by
  have ht := ntrim_cn A c xs w h
  have hv := h.cnv
  have hl : (cn (val xs)).length ≤ 100000000 := Nat.le_trans (cn_val_le h.w64) hs
  have hcl := fun w h => nclone_c A c (cn (val xs)) w h hl
  generalize cn (val xs) = ys at *
  go_enter Tryz.func80, Tryz.ntmps80
  go_wp2_with fail
  refine ht.mono ?_
  rintro z w1 ⟨rfl, n, rfl⟩
  go_wp2_with fail
  refine (hcl _ (hv.drewN n)).mono ?_
  rintro z w2 ⟨v, rfl, ho, hb⟩
  go_wp2
  go_ret
  exact ⟨_, rfl, ho, ((Ext.refl w).drewN n).tr hb⟩
set_option maxHeartbeats 2000000 in
set_option maxRecDepth 100000 in
theorem ncompare_c (A A' : Option Addr) (c c' : Nat) (m n : Nat) (w : World) (hl : Rd w A c (cn m)) (hl' : Rd w A' c' (cn n)) :
    Calls Tryz.prog 98 #[.slice A (cn m).length c, .slice A' (cn n).length c'] w fun e w' => e = .returned (.int .i64 (cmp3 m n)) ∧ ∃ k, w' = w.drewN k := by
  have e1 := val_cn m
  have e2 := val_cn n
  have hlt1 := fun hh => cn_len_lt_val (m := m) (n := n) hh
  have hlt2 := fun hh => cn_len_lt_val (m := n) (n := m) hh
  generalize cn m = us at *
  generalize cn n = vs at *
  have l1 := hl.len
  have l2 := hl'.len
  rcases Nat.lt_trichotomy us.length vs.length with hlt | heq | hgt
  · have hb : ((us.length : Int) != vs.length) = true := by rw [bne_iff_ne]; omega
    have hm : max (0 : Int) ((us.length : Int) - vs.length) = 0 := by omega
    have HV := Lib.hid (cmp3_lt (hlt1 hlt))
    clear hlt1 hlt2 e1 e2
    go_enter Tryz.func98, Tryz.ntmps98
    go_wp2
    go_ret
    exact ⟨by rw [HV.out]; rfl, 0, rfl⟩
  · have hb : ((us.length : Int) != vs.length) = false := by rw [heq]; simp
    have HE := Lib.hid heq
    have HV1 := Lib.hid e1
    have HV2 := Lib.hid e2
    have hw1 := hl.w64
    clear hlt1 hlt2 e1 e2 heq
    go_enter Tryz.func98, Tryz.ntmps98
    go_wp2
    go_loopw [5] (fun v wr => ∃ i : Nat, i ≤ us.length ∧ v = .int .i64 ((i : Int) - 1) ∧ us.drop i = vs.drop i ∧ ∃ n, wr = w.drewN n) (fun v _ => (intOf v + 1).toNat)
    case atStart => exact ⟨us.length, Nat.le_refl _, rfl, by rw [List.drop_eq_nil_of_le (Nat.le_refl _), List.drop_eq_nil_of_le (by rw [HE.out]; exact Nat.le_refl _)], 0, rfl⟩
    case round =>
      obtain ⟨i, hi, rfl, hdr, nn, rfl⟩ := hrel
      have HD := Lib.hid hdr
      clear hdr
      by_cases h0 : 0 < i
      · obtain ⟨ad, rfl, hc1⟩ := hl.cell (i - 1) (by omega)
        obtain ⟨ad', rfl, hc2⟩ := hl'.cell (i - 1) (by rw [← HE.out]; omega)
        have hidx : ((i : Int) - 1) = ((i - 1 : Nat) : Int) := by omega
        have hd' := fun e => drop_succ_eq (xs := us) (ys := vs) (i - 1) (by omega) (by rw [← HE.out]; omega) (by rw [show i - 1 + 1 = i by omega]; exact HD.out) e
        have hlt := fun hh => val_lt_of us vs (i - 1) hw1 (by omega) (by rw [← HE.out]; omega) (by rw [show i - 1 + 1 = i by omega]; exact HD.out) hh
        have hgt := fun hh => val_lt_of vs us (i - 1) hl'.w64 (by rw [← HE.out]; omega) (by omega) (by rw [show i - 1 + 1 = i by omega]; exact HD.out.symm) hh
        have HLT := Lib.hid hlt
        have HGT := Lib.hid hgt
        have HDD := Lib.hid hd'
        have hii : i - 1 < us.length := by omega
        have hii' : i - 1 < vs.length := by rw [← HE.out]; omega
        clear hlt hgt hd'
        generalize us.getD (i - 1) 0 = x at *
        generalize vs.getD (i - 1) 0 = y at *
        rcases Nat.lt_trichotomy x y with hxy | hxy | hxy
        · have b1 : ((x : Int) != y) = true := by rw [bne_iff_ne]; omega
          have b2 : decide ((x : Int) < y) = true := by simp; omega
          have HV := Lib.hid (cmp3_lt (HLT.out hxy))
          go_wp2
          go_quiet (fail)
          go_wp2
          go_quiet (fail)
          go_wp2
          go_ret
          refine ⟨?_, dn3 _ _ _ _⟩
          rw [show cmp3 m n = -1 from by rw [← HV1.out, ← HV2.out]; exact HV.out]; rfl
        · subst hxy
          have b1 : ((x : Int) != x) = false := by simp
          go_wp2
          go_quiet (fail)
          go_wp2
          go_roundw
          case rel => exact ⟨i - 1, by omega, rfl, HDD.out (by first | rfl | trivial), _, rfl⟩
          case measure => simp [intOf]; omega
        · have b1 : ((x : Int) != y) = true := by rw [bne_iff_ne]; omega
          have b2 : decide ((x : Int) < y) = false := by simp; omega
          have HV := Lib.hid (cmp3_gt (HGT.out hxy))
          go_wp2
          go_quiet (fail)
          go_wp2
          go_quiet (fail)
          go_wp2
          go_ret
          refine ⟨?_, dn3 _ _ _ _⟩
          rw [show cmp3 m n = 1 from by rw [← HV1.out, ← HV2.out]; exact HV.out]; rfl
      · obtain rfl : i = 0 := by omega
        go_wp2
        go_ret
        refine ⟨?_, _, rfl⟩
        have h3 := HD.out
        simp only [List.drop_zero] at h3
        rw [← HV1.out, ← HV2.out, h3, cmp3_eq rfl]
        rfl
  · have hb : ((us.length : Int) != vs.length) = true := by rw [bne_iff_ne]; omega
    obtain ⟨d, hd⟩ : ∃ d : Int, (us.length : Int) - vs.length = d := ⟨_, rfl⟩
    have hm : max (0 : Int) d = d := by omega
    have hm2 : min (1 : Int) d = 1 := by omega
    have hm3 : IntKind.i64.wrap d = d := by rw [IntKind.wrap_i64]; omega
    have HV := Lib.hid (cmp3_gt (hlt2 hgt))
    clear hlt1 hlt2 e1 e2
    go_enter Tryz.func98, Tryz.ntmps98
    go_wp2
    go_ret
    exact ⟨by rw [HV.out]; rfl, 0, rfl⟩
set_option maxHeartbeats 1000000 in
set_option maxRecDepth 100000 in
theorem nCmp_c (A A' : Option Addr) (c c' : Nat) (xs ys : List Nat) (w : World) (h : Rd w A c xs) (h' : Rd w A' c' ys) :
    Calls Tryz.prog 78 #[.slice A xs.length c, .slice A' ys.length c'] w fun e w' => e = .returned (.int .i64 (cmp3 (val xs) (val ys))) ∧ ∃ k, w' = w.drewN k := by
  have t1 := ntrim_cn A c xs w h
  have t2 := fun n => ntrim_cn A' c' ys (w.drewN n) (h'.drewN n)
  have hc := fun k => ncompare_c A A' c c' (val xs) (val ys) (w.drewN k) (h.cnv.drewN k) (h'.cnv.drewN k)
  generalize cmp3 (val xs) (val ys) = z at *
  generalize cn (val xs) = X at *
  generalize cn (val ys) = Y at *
  go_enter Tryz.func78, Tryz.ntmps78
  go_wp2_with fail
  refine t1.mono ?_
  rintro e w1 ⟨rfl, n1, rfl⟩
  go_wp2_with fail
  refine (t2 _).mono ?_
  rintro e w1 ⟨rfl, n2, rfl⟩
  go_wp2_with fail
  refine (hc _).mono ?_
  rintro e w1 ⟨rfl, n3, rfl⟩
  go_wp2
  go_ret
  exact ⟨rfl, _, rfl⟩
end Go.Proofs.YtlnfmngginihfaaGreatDoor
namespace Go.Proofs.YtlnfmngginihfaaGreatDoor
open Go.RowKit

set_option maxHeartbeats 1000000 in
set_option maxRecDepth 100000 in
theorem itidy_c (neg : Bool) (A : Option Addr) (c : Nat) (xs : List Nat) (w : World) (h : Rd w A c xs) (hs : xs.length ≤ 100000000) :
    Calls Tryz.prog 50 #[.bool neg, .slice A xs.length c] w (IntR w (sg neg (val xs))) := by
  have htr := fun w h => nTrim_c A c xs w h hs
  unfold IntR
  rw [sg_abs, sg_neg]
  have hz := cn_len_zero (val xs)
  have hp : decide (0 < val xs) = decide (0 < (cn (val xs)).length) := by
    by_cases h0 : val xs = 0
    · rw [decide_eq_false (by omega), decide_eq_false (by have := hz.2 h0; simp [this])]
    · have : (cn (val xs)).length ≠ 0 := fun h1 => h0 (hz.1 h1)
      rw [decide_eq_true (by omega), decide_eq_true (by omega)]
  rw [hp]
  clear hz hp
  generalize cn (val xs) = X at *
  have hB := Bi.new w (.bool false) (.slice none 0 0)
  have hA := (Ext.refl w).al (.cells #[.bool false, .slice none 0 0] 49)
  have HB := Lib.hid hB
  have HA := Lib.hid hA
  clear hB hA
  obtain ⟨b, hb⟩ : ∃ b, (neg && decide (0 < X.length)) = b := ⟨_, rfl⟩
  rw [hb]
  have hcase : (neg = false ∧ b = false) ∨ (neg = true ∧ decide (0 < X.length) = b) := by
    cases neg
    · exact .inl ⟨rfl, by simpa using hb.symm⟩
    · exact .inr ⟨rfl, by simpa using hb⟩
  clear hb
  rcases hcase with ⟨rfl, rfl⟩ | ⟨rfl, hq⟩
  all_goals
    go_enter Tryz.func50, Tryz.ntmps50
    go_wp2_with fail
    refine (htr _ (h.ext HA.out)).mono ?_
    rintro z w1 ⟨v, rfl, ho, hb⟩
    obtain ⟨A1, c1, rfl, -⟩ := ho.rd
    have hB1 := HB.out.ext hb
    have hs0 : w.heap.size < (w.alloc (.cells #[.bool false, .slice none 0 0] 49)).heap.size := HB.out.lt
    obtain ⟨b0, b1, bf⟩ := hB1.facts
    go_wp2
    first
      | (have hB2 := hB1.put (.bool false) (.slice A1 X.length c1)
         obtain ⟨r0, r1, rf⟩ := hB2.facts
         refine bodyPost_ret (v := intV false A1 X.length c1) (by simp [results, Tryz.results50, go_sem, r0, r1]) rfl ?_
         exact ⟨_, _, rfl, (ho.puti (g := w.heap.size) hs0 _ _).low (Nat.le_of_lt hs0), (HA.out.tr hb).puti (g := w.heap.size) (Nat.le_refl _) _ _⟩)
      | (have hB2 := hB1.put (.bool b) (.slice A1 X.length c1)
         obtain ⟨r0, r1, rf⟩ := hB2.facts
         refine bodyPost_ret (v := intV b A1 X.length c1) (by simp [results, Tryz.results50, go_sem, r0, r1]) rfl ?_
         exact ⟨_, _, rfl, (ho.puti (g := w.heap.size) hs0 _ _).low (Nat.le_of_lt hs0), (HA.out.tr hb).puti (g := w.heap.size) (Nat.le_refl _) _ _⟩)
set_option maxHeartbeats 1000000 in
set_option maxRecDepth 100000 in
theorem iTrim_c (neg : Bool) (A : Option Addr) (c : Nat) (xs : List Nat) (w : World) (h : Rd w A c xs) (hs : xs.length ≤ 100000000) :
    Calls Tryz.prog 49 #[intV neg A xs.length c] w (IntR w (sg neg (val xs))) := by
  have hmk := fun w h => itidy_c neg A c xs w h hs
  have hB := Bi.new (w.alloc (.cells #[.bool neg, .slice A xs.length c] 49)) (.bool false) (.slice none 0 0)
  have hA := ((Ext.refl w).al (.cells #[.bool neg, .slice A xs.length c] 49)).al (.cells #[.bool false, .slice none 0 0] 49)
  rw [World.size_alloc] at hB
  have hsz := hB.lt
  have HB := Lib.hid hB
  have HA := Lib.hid hA
  generalize sg neg (val xs) = z at *
  clear hB hA
  go_enter Tryz.func49, Tryz.ntmps49
  go_wp2_with fail
  refine (hmk _ (h.ext HA.out)).mono ?_
  rintro e w1 ⟨A1, c1, rfl, ho, hb⟩
  have hB1 := HB.out.ext hb
  obtain ⟨b0, b1, bf⟩ := hB1.facts
  go_wp2
  have hB2 := hB1.put (.bool (decide (z < 0))) (.slice A1 (cn z.natAbs).length c1)
  obtain ⟨r0, r1, rf⟩ := hB2.facts
  refine bodyPost_ret (v := intV (decide (z < 0)) A1 (cn z.natAbs).length c1) (by simp [results, Tryz.results49, go_sem, r0, r1]) rfl ?_
  exact ⟨_, _, rfl, (ho.puti (g := w.heap.size + 1) hsz _ _).low HA.out.size, (HA.out.tr hb).puti (g := w.heap.size + 1) (by omega) _ _⟩
set_option maxHeartbeats 1000000 in
set_option maxRecDepth 100000 in
theorem iSign_c (neg : Bool) (A : Option Addr) (c : Nat) (xs : List Nat) (w : World) (h : Rd w A c xs) (hs : xs.length ≤ 100000000) :
    Calls Tryz.prog 82 #[intV neg A xs.length c] w fun e w' => e = .returned (.int .i64 (sgn (sg neg (val xs)))) ∧ Ext w w' := by
  have htr := fun w h => iTrim_c neg A c xs w h hs
  have hB := Bi.new w (.bool neg) (.slice A xs.length c)
  have hA := (Ext.refl w).al (.cells #[.bool neg, .slice A xs.length c] 49)
  generalize sg neg (val xs) = z at *
  have HB := Lib.hid hB
  have HA := Lib.hid hA
  clear hB hA
  have hl : (((cn z.natAbs).length : Int) == 0) = decide (z = 0) := by
    have hz := cn_len_zero z.natAbs
    by_cases h0 : z = 0
    · subst h0; rw [decide_eq_true rfl]; simp [show cn 0 = [] from digs_zero B]
    · have : (cn z.natAbs).length ≠ 0 := fun h1 => h0 (by have := hz.1 h1; omega)
      rw [decide_eq_false h0, beq_eq_false_iff_ne]; omega
  have hcase : (decide (z < 0) = true ∧ (((cn z.natAbs).length : Int) == 0) = false ∧ sgn z = -1) ∨ (decide (z < 0) = false ∧ (((cn z.natAbs).length : Int) == 0) = false ∧ sgn z = 1) ∨ (decide (z < 0) = false ∧ (((cn z.natAbs).length : Int) == 0) = true ∧ sgn z = 0) := by
    unfold sgn
    rw [hl]
    rcases Int.lt_trichotomy z 0 with h0 | h0 | h0
    · exact .inl ⟨decide_eq_true h0, decide_eq_false (by omega), if_pos h0⟩
    · subst h0; exact .inr (.inr ⟨by decide, by decide, by decide⟩)
    · exact .inr (.inl ⟨decide_eq_false (by omega), decide_eq_false (by omega), by rw [if_neg (by omega), if_pos h0]⟩)
  clear hl
  generalize sgn z = s at *
  unfold IntR at htr
  generalize decide (z < 0) = nb at *
  generalize cn z.natAbs = X at *
  obtain ⟨q, hq⟩ : ∃ q, ((X.length : Int) == 0) = q := ⟨_, rfl⟩
  rw [hq] at hcase
  rcases hcase with ⟨rfl, rfl, rfl⟩ | ⟨rfl, rfl, rfl⟩ | ⟨rfl, rfl, rfl⟩
  all_goals
    go_enter Tryz.func82, Tryz.ntmps82
    go_wp2_with fail
    refine (htr _ (h.ext HA.out)).mono ?_
    rintro e w1 ⟨A1, c1, rfl, ho, hb⟩
    have hB1 := HB.out.ext hb
    obtain ⟨b0, b1, bf⟩ := hB1.facts
    have hE := HA.out.tr hb
    first
      | (have hB2 := hB1.put (.bool true) (.slice A1 X.length c1)
         obtain ⟨r0, r1, rf⟩ := hB2.facts
         go_wp2
         go_ret
         exact ⟨rfl, hE.puti (g := w.heap.size) (Nat.le_refl _) _ _⟩)
      | (have hB2 := hB1.put (.bool false) (.slice A1 X.length c1)
         obtain ⟨r0, r1, rf⟩ := hB2.facts
         go_wp2
         go_ret
         exact ⟨rfl, hE.puti (g := w.heap.size) (Nat.le_refl _) _ _⟩)
theorem sgn_sub {z1 z2 : Int} : (sgn z1 ≠ sgn z2 → sgn z1 < sgn z2 ∧ sgn (z1 - z2) = -1 ∨ sgn z2 < sgn z1 ∧ sgn (z1 - z2) = 1) ∧ (sgn z1 = sgn z2 → (sgn z1 < 0 → cmp3 z2.natAbs z1.natAbs = sgn (z1 - z2)) ∧ (¬ sgn z1 < 0 → cmp3 z1.natAbs z2.natAbs = sgn (z1 - z2))) := by
  unfold sgn cmp3
  constructor
  · intro h
    split at h <;> split at h <;> (try split at h) <;> (try split at h) <;> simp_all <;> omega
  · intro h
    constructor <;> intro h2
    · repeat' split
      all_goals (repeat' split at h)
      all_goals (repeat' split at h2)
      all_goals omega
    · repeat' split
      all_goals (repeat' split at h)
      all_goals (repeat' split at h2)
      all_goals omega
theorem boxesI2' (w : World) (n1 n2 : Bool) (v1 v2 : Value) : ∀ W, W = ((w.alloc (.cells #[.bool n1, v1] 49)).alloc (.cells #[.bool n2, v2] 49)) →
    Bi W w.heap.size (.bool n1) v1 ∧ Bi W (w.heap.size + 1) (.bool n2) v2 ∧ Ext w W := by
  rintro W rfl
  have h1 := (Ext.refl w).al (.cells #[.bool n1, v1] 49)
  have x2 := Bi.new (w.alloc (.cells #[.bool n1, v1] 49)) (.bool n2) v2
  rw [World.size_alloc] at x2
  exact ⟨(Bi.new w _ _).ext ((Ext.refl _).al _), x2, h1.al _⟩
set_option maxHeartbeats 4000000 in
set_option maxRecDepth 100000 in
theorem iCmp_c (n1 n2 : Bool) (A1 A2 : Option Addr) (c1 c2 : Nat) (xs ys : List Nat) (w : World) (h1 : Rd w A1 c1 xs) (h2 : Rd w A2 c2 ys) (hs1 : xs.length ≤ 100000000) (hs2 : ys.length ≤ 100000000) :
    Calls Tryz.prog 52 #[intV n1 A1 xs.length c1, intV n2 A2 ys.length c2] w fun e w' => e = .returned (.int .i64 (sgn (sg n1 (val xs) - sg n2 (val ys)))) ∧ Ext w w' := by
  obtain ⟨hX, hY, hE⟩ := boxesI2' w n1 n2 (.slice A1 xs.length c1) (.slice A2 ys.length c2) _ rfl
  have sa := fun w h => iSign_c n1 A1 c1 xs w h hs1
  have sb := fun w h => iSign_c n2 A2 c2 ys w h hs2
  have ca := fun w h h' => nCmp_c A1 A2 c1 c2 xs ys w h h'
  have cb := fun w h h' => nCmp_c A2 A1 c2 c1 ys xs w h h'
  have hss := @sgn_sub (sg n1 (val xs)) (sg n2 (val ys))
  rw [sg_abs, sg_abs] at hss
  have b1 : -1 ≤ sgn (sg n1 (val xs)) ∧ sgn (sg n1 (val xs)) ≤ 1 := by unfold sgn; split <;> (try split) <;> omega
  have b2 : -1 ≤ sgn (sg n2 (val ys)) ∧ sgn (sg n2 (val ys)) ≤ 1 := by unfold sgn; split <;> (try split) <;> omega
  generalize sgn (sg n1 (val xs) - sg n2 (val ys)) = t at *
  generalize sgn (sg n1 (val xs)) = s1 at *
  generalize sgn (sg n2 (val ys)) = s2 at *
  generalize cmp3 (val xs) (val ys) = k1 at *
  generalize cmp3 (val ys) (val xs) = k2 at *
  have HX := Lib.hid hX
  have HY := Lib.hid hY
  have HE := Lib.hid hE
  clear hX hY hE
  have hcase : (((s1 != s2) = true ∧ max (0 : Int) (s1 - s2) = 0) ∧ t = -1) ∨ (((s1 != s2) = true ∧ max (0 : Int) (s1 - s2) = s1 - s2 ∧ min (1 : Int) (s1 - s2) = 1) ∧ t = 1) ∨ ((s1 != s2) = false ∧ decide (s1 < 0) = true ∧ k2 = t) ∨ ((s1 != s2) = false ∧ decide (s1 < 0) = false ∧ k1 = t) := by
    by_cases he : s1 = s2
    · obtain ⟨p1, p2⟩ := hss.2 he
      by_cases hn : s1 < 0
      · exact .inr (.inr (.inl ⟨by rw [he]; simp, by rw [decide_eq_true_iff]; exact hn, p1 hn⟩))
      · exact .inr (.inr (.inr ⟨by rw [he]; simp, by rw [decide_eq_false_iff_not]; exact hn, p2 hn⟩))
    · rcases hss.1 he with ⟨q1, q2⟩ | ⟨q1, q2⟩
      · exact .inl ⟨⟨by rw [bne_iff_ne]; exact he, by omega⟩, q2⟩
      · exact .inr (.inl ⟨⟨by rw [bne_iff_ne]; exact he, by omega, by omega⟩, q2⟩)
  have hw : IntKind.i64.wrap (s1 - s2) = s1 - s2 := by rw [IntKind.wrap_i64]; omega
  clear hss
  go_enter Tryz.func52, Tryz.ntmps52
  go_wp2_with fail
  have hX := HX.out
  have hY := HY.out
  have hE := HE.out
  generalize ((w.alloc (.cells #[.bool n1, .slice A1 xs.length c1] 49)).alloc (.cells #[.bool n2, .slice A2 ys.length c2] 49)) = W at *
  obtain ⟨x0, x1, -⟩ := hX.facts
  obtain ⟨y0, y1, -⟩ := hY.facts
  have p0 := Later.cell x0
  have p1 := Later.cell x1
  have p2 := Later.cell y0
  have p3 := Later.cell y1
  refine wp_region_later (by kernel_rfl) (by kernel_rfl) ?_
  repeat (go_big_quiet_step (first
    | (go_at_call 82; (with_reducible refine Calls.later (sa _ (h1.ext (hE.tr (Later.h _))))))
    | (go_at_call 82; (with_reducible refine Calls.later (sb _ (h2.ext (hE.tr (Later.h _))))))))
  refine wpQuiet_nil ?_
  intro wq hw'
  obtain ⟨⟨_, hq⟩, rfl⟩ := hw'
  clear p0 p1 p2 p3 x0 x1 y0 y1
  have hEq := hE.tr hq
  obtain ⟨x0, x1, -⟩ := (hX.ext hq).facts
  obtain ⟨y0, y1, -⟩ := (hY.ext hq).facts
  rcases hcase with ⟨⟨g1, g2⟩, rfl⟩ | ⟨⟨g1, g2, g3⟩, rfl⟩ | ⟨g1, g2, rfl⟩ | ⟨g1, g2, rfl⟩
  · go_wp2
    go_ret
    exact ⟨rfl, hEq⟩
  · go_wp2
    go_ret
    exact ⟨rfl, hEq⟩
  · go_wp2_with fail
    refine (cb _ (h2.ext hEq) (h1.ext hEq)).mono ?_
    rintro z w4 ⟨rfl, n, rfl⟩
    go_wp2
    go_ret
    exact ⟨rfl, hEq.drewN n⟩
  · go_wp2_with fail
    refine (ca _ (h1.ext hEq) (h2.ext hEq)).mono ?_
    rintro z w4 ⟨rfl, n, rfl⟩
    go_wp2
    go_ret
    exact ⟨rfl, hEq.drewN n⟩
end Go.Proofs.YtlnfmngginihfaaGreatDoor
namespace Go.Proofs.YtlnfmngginihfaaGreatDoor
open Go.RowKit

/-- A slice of slices that are not too long. -/
def SlN (w : World) (A : Option Addr) (n : Nat) : Prop := ∀ i, i < n → ∃ ad, A = some ad ∧ ∃ A' m c', w.cell? (ad.add i) = some (.slice A' m c') ∧ m ≤ 4096
theorem SlN.ext {w w' : World} {A : Option Addr} {n : Nat} (h : SlN w A n) (hb : Ext w w') : SlN w' A n := fun i hi => by
  obtain ⟨ad, e, A', m, c', hc, hm⟩ := h i hi
  exact ⟨ad, e, A', m, c', hb.cell hc, hm⟩
/-- Two slices in new memory. -/
theorem SlN.two (w : World) (T : TypeId) (A1 A2 : Option Addr) (n1 c1 n2 c2 : Nat) (h1 : n1 ≤ 4096) (h2 : n2 ≤ 4096) : SlN (w.alloc (.cells #[.slice A1 n1 c1, .slice A2 n2 c2] T)) (some ⟨w.heap.size, 0, none⟩) 2 := fun i hi => by
  have hn := heap_alloc_new w (.cells #[.slice A1 n1 c1, .slice A2 n2 c2] T)
  rcases (show i = 0 ∨ i = 1 by omega) with rfl | rfl
  · exact ⟨_, rfl, A1, n1, c1, by rw [add_zero', cell_of_row _ _ _ _ _ _ hn]; rfl, h1⟩
  · exact ⟨_, rfl, A2, n2, c2, by rw [add_zero', cell_of_row _ _ _ _ _ _ hn]; rfl, h2⟩
theorem nlone_c (A : Option Addr) (n c : Nat) (w : World) (hn : n ≤ 4096) : Calls Tryz.prog 110 #[.slice A n c] w fun e w' => e = .returned (.bool false) ∧ w = w' := by
  have hd : decide ((4096 : Int) < (n : Int)) = false := by rw [decide_eq_false_iff_not]; omega
  go_enter Tryz.func110, Tryz.ntmps110
  go_wp2
  go_ret
  exact ⟨rfl, rfl⟩
set_option maxHeartbeats 1000000 in
set_option maxRecDepth 100000 in
theorem nlidx_c (A : Option Addr) (n c : Nat) (w : World) (hn : n ≤ 1000) (h : SlN w A n) : Calls Tryz.prog 118 #[.slice A n c, .func (.func 110) #[] #[]] w fun e w' => e = .returned (.int .i64 (-1)) ∧ w = w' := by
  go_enter Tryz.func118, Tryz.ntmps118
  go_wp2
  go_loopw [8] (fun v wr => ∃ i : Nat, i ≤ n ∧ v = .int .i64 i ∧ wr = w) (fun v _ => n - (intOf v).toNat)
  case atStart => exact ⟨0, Nat.zero_le _, rfl, rfl⟩
  case round =>
    obtain ⟨i, hi, rfl, rfl⟩ := hrel
    by_cases hlt : i < n
    · obtain ⟨ad, rfl, A', m, c', hc, hm⟩ := h i hlt
      have h1 := fun w => nlone_c A' m c' w hm
      go_wp2_with fail
      refine (h1 _).mono ?_
      rintro z w2 ⟨rfl, rfl⟩
      go_wp2
      go_roundw
      case rel => exact ⟨i + 1, hlt, by go_num, trivial⟩
      case measure => simp [intOf]; omega
    · obtain rfl : i = n := by omega
      go_wp2
      go_ret
      exact ⟨rfl, rfl⟩
set_option maxHeartbeats 1000000 in
set_option maxRecDepth 100000 in
theorem nlcon_c (A : Option Addr) (n c : Nat) (w : World) (hn : n ≤ 1000) (h : SlN w A n) : Calls Tryz.prog 109 #[.slice A n c, .func (.func 110) #[] #[]] w fun e w' => e = .returned (.bool false) ∧ w = w' := by
  have h1 := nlidx_c A n c w hn h
  go_enter Tryz.func109, Tryz.ntmps109
  go_wp2_with fail
  refine h1.mono ?_
  rintro z w2 ⟨rfl, rfl⟩
  go_wp2
  go_ret
  exact ⟨rfl, rfl⟩
theorem nlarge_c (A : Option Addr) (n c : Nat) (w : World) (hn : n ≤ 1000) (h : SlN w A n) : Calls Tryz.prog 95 #[.slice A n c] w fun e w' => e = .returned (.bool false) ∧ w = w' := by
  have h1 := nlcon_c A n c w hn h
  go_enter Tryz.func95, Tryz.ntmps95
  go_wp2_with fail
  refine h1.mono ?_
  rintro z w2 ⟨rfl, rfl⟩
  go_wp2
  go_ret
  exact ⟨rfl, rfl⟩
theorem wfone_c (A : Option Addr) (n c : Nat) (w : World) (hn : n ≤ 4096) : Calls Tryz.prog 125 #[.slice A n c] w fun e w' => e = .returned (.bool false) ∧ w = w' := by
  have hd : decide ((4096 : Int) < (n : Int)) = false := by rw [decide_eq_false_iff_not]; omega
  go_enter Tryz.func125, Tryz.ntmps125
  go_wp2
  go_ret
  exact ⟨rfl, rfl⟩
set_option maxHeartbeats 1000000 in
set_option maxRecDepth 100000 in
theorem wfidx_c (A : Option Addr) (n c : Nat) (w : World) (hn : n ≤ 1000) (h : SlN w A n) : Calls Tryz.prog 126 #[.slice A n c, .func (.func 125) #[] #[]] w fun e w' => e = .returned (.int .i64 (-1)) ∧ w = w' := by
  go_enter Tryz.func126, Tryz.ntmps126
  go_wp2
  go_loopw [8] (fun v wr => ∃ i : Nat, i ≤ n ∧ v = .int .i64 i ∧ wr = w) (fun v _ => n - (intOf v).toNat)
  case atStart => exact ⟨0, Nat.zero_le _, rfl, rfl⟩
  case round =>
    obtain ⟨i, hi, rfl, rfl⟩ := hrel
    by_cases hlt : i < n
    · obtain ⟨ad, rfl, A', m, c', hc, hm⟩ := h i hlt
      have h1 := fun w => wfone_c A' m c' w hm
      go_wp2_with fail
      refine (h1 _).mono ?_
      rintro z w2 ⟨rfl, rfl⟩
      go_wp2
      go_roundw
      case rel => exact ⟨i + 1, hlt, by go_num, trivial⟩
      case measure => simp [intOf]; omega
    · obtain rfl : i = n := by omega
      go_wp2
      go_ret
      exact ⟨rfl, rfl⟩
set_option maxHeartbeats 1000000 in
set_option maxRecDepth 100000 in
theorem wfcon_c (A : Option Addr) (n c : Nat) (w : World) (hn : n ≤ 1000) (h : SlN w A n) : Calls Tryz.prog 124 #[.slice A n c, .func (.func 125) #[] #[]] w fun e w' => e = .returned (.bool false) ∧ w = w' := by
  have h1 := wfidx_c A n c w hn h
  go_enter Tryz.func124, Tryz.ntmps124
  go_wp2_with fail
  refine h1.mono ?_
  rintro z w2 ⟨rfl, rfl⟩
  go_wp2
  go_ret
  exact ⟨rfl, rfl⟩
theorem wfew_c (A : Option Addr) (n c : Nat) (w : World) (hn : n ≤ 1000) (h : SlN w A n) : Calls Tryz.prog 119 #[.slice A n c] w fun e w' => e = .returned (.bool true) ∧ w = w' := by
  have h1 := wfcon_c A n c w hn h
  go_enter Tryz.func119, Tryz.ntmps119
  go_wp2_with fail
  refine h1.mono ?_
  rintro z w2 ⟨rfl, rfl⟩
  go_wp2
  go_ret
  exact ⟨rfl, rfl⟩
set_option maxHeartbeats 1000000 in
set_option maxRecDepth 100000 in
theorem wchecked_c (A1 A2 : Option Addr) (n c1 c2 : Nat) (T : TypeId) (w : World) (hn : n ≤ 4096) : Calls Tryz.prog 111 #[.slice (some ⟨w.heap.size, 0, none⟩) 2 2] (w.alloc (.cells #[.slice A1 n c1, .slice A2 n c2] T)) fun e w' => e = .returned (.int .i64 0) ∧ (w.alloc (.cells #[.slice A1 n c1, .slice A2 n c2] T)) = w' := by
  have hS := SlN.two w T A1 A2 n c1 n c2 hn hn
  have hf := wfew_c (some ⟨w.heap.size, 0, none⟩) 2 2 _ (by omega) hS
  have hh := heap_alloc_new w (.cells #[.slice A1 n c1, .slice A2 n c2] T)
  have x0 : (w.alloc (.cells #[.slice A1 n c1, .slice A2 n c2] T)).cell? ⟨w.heap.size, 0, none⟩ = some (.slice A1 n c1) := by rw [cell_of_row _ _ _ _ _ _ hh]; rfl
  have x1 : (w.alloc (.cells #[.slice A1 n c1, .slice A2 n c2] T)).cell? ⟨w.heap.size, 1, none⟩ = some (.slice A2 n c2) := by rw [cell_of_row _ _ _ _ _ _ hh]; rfl
  generalize w.alloc (.cells #[.slice A1 n c1, .slice A2 n c2] T) = W at *
  generalize w.heap.size = g at *
  have hb : ((n : Int) != (n : Int)) = false := by simp
  go_enter Tryz.func111, Tryz.ntmps111
  go_wp2_with fail
  refine hf.mono ?_
  rintro z w2 ⟨rfl, rfl⟩
  go_wp2
  go_loopw [10] (fun v wr => ∃ i : Nat, i ≤ 2 ∧ v = .int .i64 i ∧ wr = W) (fun v _ => 2 - (intOf v).toNat)
  case atStart => exact ⟨0, by omega, rfl, rfl⟩
  case round =>
    obtain ⟨i, hi, rfl, rfl⟩ := hrel
    rcases (show i = 0 ∨ i = 1 ∨ i = 2 by omega) with rfl | rfl | rfl
    · go_wp2
      go_roundw
      case rel => exact ⟨1, by omega, rfl, trivial⟩
      case measure => simp [intOf]
    · go_wp2
      go_roundw
      case rel => exact ⟨2, by omega, rfl, trivial⟩
      case measure => simp [intOf]
    · go_wp2
      go_ret
      exact ⟨rfl, rfl⟩
end Go.Proofs.YtlnfmngginihfaaGreatDoor
namespace Go.Proofs.YtlnfmngginihfaaGreatDoor
open Go.RowKit

/-- A box of two words. -/
structure Bp (w : World) (g : Nat) (a b : Value) : Prop where
  h : w.heap[g]? = some (.cells #[a, b] 139 (0, 0))
theorem Bp.ext {w w' : World} {g : Nat} {a b : Value} (x : Bp w g a b) (h : Ext w w') : Bp w' g a b := ⟨(h.block g (Array.getElem?_eq_some_iff.1 x.h).1).trans x.h⟩
theorem Bp.facts {w : World} {g : Nat} {a b : Value} (x : Bp w g a b) : w.cell? ⟨g, 0, none⟩ = some a ∧ w.cell? ⟨g, 1, none⟩ = some b ∧ (∀ i, w.frozen? ⟨g, i, none⟩ = false) := by
  have h := x.h
  refine ⟨?_, ?_, fun i => by simp [World.frozen?, h]⟩ <;> rw [cell_of_row w g _ _ _ _ h] <;> rfl
theorem Bp.new (w : World) (a b : Value) : Bp (w.alloc (.cells #[a, b] 139)) w.heap.size a b := ⟨heap_alloc_new w _⟩
theorem Bp.put {w : World} {g : Nat} {a b : Value} (x : Bp w g a b) (a' b' : Value) : Bp ((w.setCell ⟨g, 0, none⟩ a').setCell ⟨g, 1, none⟩ b') g a' b' := by
  have h := x.h
  constructor
  simp [World.setCell, Array.getElem?_modify, h]
theorem Bp.lt {w : World} {g : Nat} {a b : Value} (x : Bp w g a b) : g < w.heap.size := (Array.getElem?_eq_some_iff.1 x.h).1
set_option maxHeartbeats 1000000 in
set_option maxRecDepth 100000 in
theorem wsub1_c (bx bY : Nat) (adx ady : Addr) (cx cy n : Nat) (i x y bw : Nat) (hb : bw ≤ 1) (hi : i < n) (w : World) (h1 : w.cell? ⟨bx, 0, none⟩ = some (.slice (some adx) n cx)) (h2 : w.cell? ⟨bY, 0, none⟩ = some (.slice (some ady) n cy))
    (hx : w.cell? (adx.add i) = some (.int .u64 (x : Int))) (hy : w.cell? (ady.add i) = some (.int .u64 (y : Int))) :
    Calls Tryz.prog 113 #[.int .i64 i, .int .u64 bw, .pointer (some ⟨bx, 0, none⟩), .pointer (some ⟨bY, 0, none⟩)] w fun z w' => z = .returned (.agg #[.int .u64 (((x + B - y - bw) % B : Nat) : Int), .int .u64 ((brw x y bw : Nat) : Int)]) ∧ Ext w w' := by
  have hP := Bp.new w (.int .u64 0) (.int .u64 0)
  have hA := (Ext.refl w).al (.cells #[.int .u64 0, .int .u64 0] 139)
  have ha := run_s64 x y bw hb
  generalize (x + B - y - bw) % B = d at *
  generalize brw x y bw = e at *
  have q1 := hA.cell h1
  have q2 := hA.cell h2
  have q3 := hA.cell hx
  have q4 := hA.cell hy
  have HP := Lib.hid hP
  have HA := Lib.hid hA
  have g0 : (0 : Int) ≤ (i : Int) := by omega
  have g1 : (i : Int) < (n : Int) := by omega
  clear hP hA h1 h2 hx hy
  go_enter Tryz.func113, Tryz.ntmps113
  go_wp2_with fail
  generalize w.alloc (.cells #[.int .u64 0, .int .u64 0] 139) = W at *
  go_quiet (simp only [ha])
  rename_i nq
  have hP := (HP.out.ext ((Ext.refl W).drewN nq))
  have hA := HA.out.drewN nq
  obtain ⟨p0, p1, pf⟩ := hP.facts
  have hR := hP.put (.int .u64 (d : Int)) (.int .u64 (e : Int))
  have hE := (hA.set (g := w.heap.size) (Nat.le_refl _) 0 (.int .u64 (d : Int))).set (g := w.heap.size) (Nat.le_refl _) 1 (.int .u64 (e : Int))
  have HR := Lib.hid hR
  have HE := Lib.hid hE
  clear hR hE
  go_wp2
  obtain ⟨r0, r1, -⟩ := HR.out.facts
  refine bodyPost_ret (v := .agg #[.int .u64 (d : Int), .int .u64 (e : Int)]) (by simp [results, Tryz.results113, go_sem, r0, r1]) rfl ?_
  exact ⟨rfl, HE.out⟩
section
variable {ops : Array Oper} {rest : List Oper} {o : Oper} {a : Act} {Q : Exit → Act → World → Prop} {w : World}
/-- 'make([]uint64, 0, n)': a new row of no words. -/
theorem wp_make0 (hg : o.guard = none) (l c : Operand) (t : TypeId) (hop : o.op = Op.makeSlice t l c) (ht : Tryz.prog.underlying t = some (.slice 45)) (n : Nat) (N : Int) (hl : a.eval l = .int .i64 0) (hc : a.eval c = .int .i64 N) (hN : N = (n : Int))
    (hn : n ≤ 1099511627776) (hK : ∀ v w', Own w' w.heap.size v [] → Ext w w' → wpList Tryz.prog ops Q rest (a.put o.dst v) w') :
    wpList Tryz.prog ops Q (o :: rest) a w := by
  obtain ⟨i, h2, h3, h4, h5⟩ := info_parts info64
  obtain ⟨w', hr, ho, hgr⟩ := run_make_own (P := Tryz.prog) (w := w) w.heap.size t 45 i _ 1 ht h2 h3 h4 .i64 .i64 n (by rw [h5]; omega) (by simp only [maxLen]; omega) (Nat.le_refl _)
  subst hN
  refine wpList_plain hg fun K hK' => ?_
  unfold Oper.wp
  simp [execOp, hop, hl, hc, hr, Result.andThen]
  exact hK' _ _ (hK _ _ ⟨by simpa [enc] using ho, W64.nil⟩ ((Below.refl _ w).grown hgr (Nat.le_refl _) (by simp)))
end
theorem grown_cell {w w' : World} {row : Option Nat} (h : w.grownBy w' row) {b i : Nat} {v : Value} (hb : b < w.heap.size) (hn : ∀ k, row = some k → k < b) (hc : w.cell? ⟨b, i, none⟩ = some v) : w'.cell? ⟨b, i, none⟩ = some v := by
  rw [← hc]
  exact World.cell?_of_block (w := w) (h.block b hb (fun e => by have := hn b e.symm; omega))
theorem minus_step' {X Y o : List Nat} {i bw : Nat} (hX : W64 X) (hY : W64 Y) (hc : bw ≤ 1) (hl : o.length = i) (hv : val o + val (Y.take i) = val (X.take i) + B ^ i * bw) :
    val (o ++ [(X.getD i 0 + B - Y.getD i 0 - bw) % B]) + val (Y.take (i + 1)) = val (X.take (i + 1)) + B ^ (i + 1) * brw (X.getD i 0) (Y.getD i 0) bw := by
  rw [show val (o ++ [(X.getD i 0 + B - Y.getD i 0 - bw) % B]) = _ from valb_snoc B o _, hl, val_take_past X i, val_take_past Y i]
  have e := borrow_step (hX.get i) (hY.get i) hc
  generalize brw (X.getD i 0) (Y.getD i 0) bw = q at *
  generalize (X.getD i 0 + B - Y.getD i 0 - bw) % B = r at *
  have e2 : B ^ i * (r + Y.getD i 0 + bw) = B ^ i * (X.getD i 0 + B * q) := by rw [e]
  rw [Nat.pow_succ, Nat.mul_assoc]
  simp only [Nat.mul_add] at e2
  show valb B o + _ + _ = _
  have hv' : valb B o + val (Y.take i) = val (X.take i) + B ^ i * bw := hv
  omega
set_option maxHeartbeats 4000000 in
set_option maxRecDepth 100000 in
theorem wcarry_c (bx bY : Nat) (A A' : Option Addr) (cx cy : Nat) (X Y : List Nat) (w : World) (h : Rd w A cx X) (h' : Rd w A' cy Y) (hl : X.length = Y.length) (hs : X.length ≤ 1000000)
    (h1 : w.cell? ⟨bx, 0, none⟩ = some (.slice A X.length cx)) (h2 : w.cell? ⟨bY, 0, none⟩ = some (.slice A' X.length cy)) :
    Calls Tryz.prog 112 #[.slice A X.length cx, .int .u64 0, .func (.func 113) #[] #[.pointer (some ⟨bx, 0, none⟩), .pointer (some ⟨bY, 0, none⟩)]] w fun z w' =>
      ∃ v o bw, z = .returned (.tuple #[v, .int .u64 ((bw : Nat) : Int)]) ∧ o.length = X.length ∧ bw ≤ 1 ∧ val o + val Y = val X + B ^ X.length * bw ∧ Own w' w.heap.size v o ∧ Ext w w' := by
  have HL := Lib.hid hl
  clear hl
  go_enter Tryz.func112, Tryz.ntmps112
  go_wp2_with (at_make; refine wp_make0 rfl _ _ _ rfl Tryz.underlying37 X.length _ rfl rfl rfl (by omega) ?_; intro v0 w1 ho1 hb1)
  have HO := Lib.hid ho1
  have HB := Lib.hid hb1
  clear ho1 hb1
  go_loopw [1, 8, 16] (fun v1 v8 v16 wr => ∃ (i bw : Nat) (o : List Nat), i ≤ X.length ∧ v16 = .int .i64 i ∧ v1 = .int .u64 bw ∧ bw ≤ 1 ∧ o.length = i ∧ val o + val (Y.take i) = val (X.take i) + B ^ i * bw ∧ Own wr w.heap.size v8 o ∧ Ext w wr) (fun _ _ v _ => X.length - (intOf v).toNat)
  case atStart => exact ⟨0, 0, [], Nat.zero_le _, rfl, rfl, by omega, rfl, by simp [val, valb], HO.out, HB.out⟩
  case round =>
    clear HO HB
    obtain ⟨i, bw, o, hi, rfl, rfl, hbw, hol, hv, hO, hE⟩ := hrel
    by_cases hlt : i < X.length
    · obtain ⟨adx, rfl, hx⟩ := h.cell i hlt
      obtain ⟨ady, rfl, hy⟩ := h'.cell i (by rw [← HL.out]; exact hlt)
      have hst := minus_step' h.w64 h'.w64 hbw hol hv
      have hc := fun w h1 h2 hx hy => wsub1_c bx bY adx ady cx cy X.length i (X.getD i 0) (Y.getD i 0) bw hbw hlt w h1 h2 hx hy
      have hdB := mod_B_lt (X.getD i 0 + B - Y.getD i 0 - bw)
      have hbq := brw_le (X.getD i 0) (Y.getD i 0) bw
      generalize (X.getD i 0 + B - Y.getD i 0 - bw) % B = d at *
      generalize brw (X.getD i 0) (Y.getD i 0) bw = q at *
      have HS := Lib.hid (And.intro hst (And.intro hol hbq))
      have HO := Lib.hid hO
      have HE := Lib.hid hE
      have hol2 : o.length ≤ 1000000 := by omega
      have HBL := Lib.hid (show ∀ k, u8.ownBlock = some k → k < wr.heap.size from fun k hk => (hO.own.lt k hk).2)
      have hc' := hc wr (hE.cell h1) (hE.cell h2) (hE.cell hx) (hE.cell hy)
      clear hst hol hv hO hE hc hx hy hbq
      go_wp2_with fail
      refine hc'.mono ?_
      rintro z w2 ⟨rfl, hb2⟩
      have hP := Bp.new w2 (.int .u64 (d : Int)) (.int .u64 (q : Int))
      have hA := (Ext.refl w2).al (.cells #[.int .u64 (d : Int), .int .u64 (q : Int)] 139)
      go_wp2_with fail
      have hE3 := (HE.out.tr hb2).tr hA
      have hO3 := (HO.out.ext hb2).ext hA
      generalize w2.alloc (.cells #[.int .u64 (d : Int), .int .u64 (q : Int)] 139) = W at *
      obtain ⟨p0, p1, -⟩ := hP.facts
      have hlp := hP.lt
      go_region_held3 (fun w' => w'.cell? ⟨w2.heap.size, 0, none⟩ = some (.int .u64 (d : Int)) ∧ w'.cell? ⟨w2.heap.size, 1, none⟩ = some (.int .u64 (q : Int)))
        (first | go_keep | (go_split_ands; refine ⟨?_, ?_⟩ <;> first | assumption | (refine Ext.cell (w := W) ?_ ?_ <;> assumption)))
        ((refine st_append rfl _ _ _ rfl Tryz.underlying37 w.heap.size _ o rfl ((hO3.ext ((Ext.refl _).al _)).drew) (some ⟨W.heap.size, 0, none⟩) 1 1 [d] rfl rfl (Rd.new1 W d hdB).drew ?hb ?hl ?_; (case hb => have := hE3.size; simp; omega); (case hl => simp; omega); intro v' w4 ho4 hb4 hat hg4; have hE4 : Ext w w4 := Below.trans ((hE3.al _).drew) hb4; have z0 : w4.cell? ⟨w2.heap.size, 0, none⟩ = some (.int .u64 (d : Int)) := grown_cell hg4 (by simp; omega) (fun k hk => by have h1 := HBL.out k hk; have h2 := hb2.size; omega) ((((Ext.refl W).al (.cells #[.int .u64 (d : Int)] 45)).drew).cell p0); have z1 : w4.cell? ⟨w2.heap.size, 1, none⟩ = some (.int .u64 (q : Int)) := grown_cell hg4 (by simp; omega) (fun k hk => by have h1 := HBL.out k hk; have h2 := hb2.size; omega) ((((Ext.refl W).al (.cells #[.int .u64 (d : Int)] 45)).drew).cell p1)))
      have HO4 := Lib.hid ho4
      have HE4 := Lib.hid hE4
      clear ho4 hE4 hb4 hat hg4 z0 z1 p0 p1
      go_wp2
      go_roundw
      case rel => exact ⟨i + 1, q, _, hlt, by go_num, rfl, HS.out.2.2, by rw [List.length_append, HS.out.2.1]; rfl, HS.out.1, HO4.out, HE4.out⟩
      case measure => simp [intOf]; omega
    · obtain rfl : i = X.length := by omega
      rw [List.take_length, List.take_of_length_le (by rw [HL.out]; exact Nat.le_refl _)] at hv
      have HS := Lib.hid (And.intro hol (And.intro hbw hv))
      have HO := Lib.hid hO
      have HE := Lib.hid hE
      clear hol hbw hv hO hE
      go_wp2
      go_ret2
      exact ⟨_, o, bw, rfl, HS.out.1, HS.out.2.1, HS.out.2.2, HO.out, HE.out⟩
/-- A box of a slice. -/
structure Bl (w : World) (g : Nat) (a : Value) : Prop where
  h : w.heap[g]? = some (.cells #[a] 37 (0, 0))
theorem Bl.ext {w w' : World} {g : Nat} {a : Value} (x : Bl w g a) (h : Ext w w') : Bl w' g a := ⟨(h.block g (Array.getElem?_eq_some_iff.1 x.h).1).trans x.h⟩
theorem Bl.cell {w : World} {g : Nat} {a : Value} (x : Bl w g a) : w.cell? ⟨g, 0, none⟩ = some a := by rw [cell_of_row w g _ _ _ _ x.h]; rfl
theorem Bl.new (w : World) (a : Value) : Bl (w.alloc (.cells #[a] 37)) w.heap.size a := ⟨heap_alloc_new w _⟩
theorem Bl.lt {w : World} {g : Nat} {a : Value} (x : Bl w g a) : g < w.heap.size := (Array.getElem?_eq_some_iff.1 x.h).1
set_option maxHeartbeats 2000000 in
set_option maxRecDepth 100000 in
theorem wsub_c (A A' : Option Addr) (cx cy : Nat) (X Y : List Nat) (w : World) (h : Rd w A cx X) (h' : Rd w A' cy Y) (hl : X.length = Y.length) (hs : X.length ≤ 4096) :
    Calls Tryz.prog 100 #[.slice A X.length cx, .slice A' X.length cy, .int .u64 0] w fun z w' =>
      ∃ v o bw, z = .returned (.tuple #[v, .int .u64 ((bw : Nat) : Int), .int .i64 0]) ∧ o.length = X.length ∧ bw ≤ 1 ∧ val o + val Y = val X + B ^ X.length * bw ∧ Own w' w.heap.size v o ∧ Ext w w' := by
  have h1 := Bl.new w (.slice A X.length cx)
  have h2 := Bl.new (w.alloc (.cells #[.slice A X.length cx] 37)) (.slice A' X.length cy)
  rw [World.size_alloc] at h2
  have hE := ((Ext.refl w).al (.cells #[.slice A X.length cx] 37)).al (.cells #[.slice A' X.length cy] 37)
  replace h1 := h1.ext ((Ext.refl _).al (.cells #[.slice A' X.length cy] 37))
  have hca := fun w h h' h1 h2 => wcarry_c w.heap.size (w.heap.size + 1) A A' cx cy X Y w h h' hl (by omega) h1 h2
  have hmf : ∀ (fn : Fn) (first cap : Array Value) (w : World), (Instr.makeFunc fn first cap).run Tryz.prog w = .ok (.func fn first cap) w := fun _ _ _ _ => rfl
  have hcb := fun (g g' : Nat) w h h' h1 h2 => wcarry_c g g' A A' cx cy X Y w h h' hl (by omega) h1 h2
  have hck := fun T w => wchecked_c A A' X.length cx cy T w hs
  have HL := Lib.hid hl
  have H1 := Lib.hid h1
  have H2 := Lib.hid h2
  have HE := Lib.hid hE
  clear hl h1 h2 hE hca
  go_enter Tryz.func100, Tryz.ntmps100
  go_wp2_with fail
  have h1 := H1.out
  have h2 := H2.out
  have hE := HE.out
  have hck2 := hck 37 ((w.alloc (.cells #[.slice A X.length cx] 37)).alloc (.cells #[.slice A' X.length cy] 37))
  rw [World.size_alloc, World.size_alloc] at hck2
  generalize (w.alloc (.cells #[.slice A X.length cx] 37)).alloc (.cells #[.slice A' X.length cy] 37) = W at *
  refine hck2.mono ?_
  rintro z w4 ⟨rfl, rfl⟩
  have hA := (Ext.refl W).al (.cells #[.slice A X.length cx, .slice A' X.length cy] 37)
  have h3 := (h1.ext hA).cell
  have h4 := (h2.ext hA).cell
  have hE4 := hE.tr hA
  generalize W.alloc (.cells #[.slice A X.length cx, .slice A' X.length cy] 37) = V at *
  go_wp2_with fail
  refine (hcb _ _ _ (h.ext hE4) (h'.ext hE4) h3 h4).mono ?_
  rintro z w5 ⟨v, o, bw, rfl, q1, q2, q3, ho, hb⟩
  have HQ := Lib.hid (And.intro q1 (And.intro q2 q3))
  clear q1 q2 q3
  go_wp2
  refine bodyPost_ret (v := .tuple #[v, .int .u64 (bw : Int), .int .i64 0]) (by simp [results, Tryz.results100, go_sem]) rfl ?_
  exact ⟨v, o, bw, rfl, HQ.out.1, HQ.out.2.1, HQ.out.2.2, ho.low hE4.size, hE4.tr hb⟩
end Go.Proofs.YtlnfmngginihfaaGreatDoor
namespace Go.Proofs.YtlnfmngginihfaaGreatDoor
open Go.RowKit

/-- A number's canonical words, somewhere. -/
def NatS (w : World) (n : Nat) (e : Ending) (w' : World) : Prop := ∃ A c, e = .returned (.slice A (cn n).length c) ∧ Rd w' A c (cn n) ∧ Ext w w'
def NatSE (w : World) (n : Nat) (e : Ending) (w' : World) : Prop := ∃ A c, e = .returned (.tuple #[.slice A (cn n).length c, .int .i64 0]) ∧ Rd w' A c (cn n) ∧ Ext w w'
theorem plus_step' {X Y o : List Nat} {i cy : Nat} (hl : o.length = i) (hv : val o + B ^ i * cy = val (X.take i) + val (Y.take i)) :
    val (o ++ [(X.getD i 0 + Y.getD i 0 + cy) % B]) + B ^ (i + 1) * ((X.getD i 0 + Y.getD i 0 + cy) / B) = val (X.take (i + 1)) + val (Y.take (i + 1)) := by
  rw [show val (o ++ [(X.getD i 0 + Y.getD i 0 + cy) % B]) = _ from valb_snoc B o _, hl, val_take_past X i, val_take_past Y i]
  have e := carry_step (X.getD i 0) (Y.getD i 0) cy
  generalize (X.getD i 0 + Y.getD i 0 + cy) / B = q at *
  generalize (X.getD i 0 + Y.getD i 0 + cy) % B = r at *
  have e2 : B ^ i * (r + B * q) = B ^ i * (X.getD i 0 + Y.getD i 0 + cy) := by rw [e]
  rw [Nat.pow_succ, Nat.mul_assoc]
  simp only [Nat.mul_add] at e2
  have hv' : valb B o + B ^ i * cy = val (X.take i) + val (Y.take i) := hv
  show valb B o + _ + _ = _
  omega
set_option maxHeartbeats 4000000 in
set_option maxRecDepth 100000 in
theorem naddcore_c (sw : Bool) (A A' : Option Addr) (c c' : Nat) (X Y : List Nat) (w : World) (h : Rd w A c X) (h' : Rd w A' c' Y) (hle : Y.length ≤ X.length) (hsw : sw = true → Y.length < X.length) (hs : X.length ≤ 1000000) :
    Calls Tryz.prog 97 (if sw = true then #[.slice A' Y.length c', .slice A X.length c] else #[.slice A X.length c, .slice A' Y.length c']) w (NatS w (val X + val Y)) := by
  obtain ⟨V, hV⟩ : ∃ V, val X + val Y = V := ⟨_, rfl⟩
  rw [hV]
  have HVV := Lib.hid hV
  clear hV
  have hd0 : sw = true → decide ((Y.length : Int) < (X.length : Int)) = true := fun e => by rw [decide_eq_true_iff]; have := hsw e; omega
  have hd1 : sw = false → decide ((X.length : Int) < (Y.length : Int)) = false := fun e => by rw [decide_eq_false_iff_not]; omega
  cases sw
  all_goals
    simp only [if_true, if_false, Bool.false_eq_true, true_implies, reduceCtorEq, false_implies] at hd0 hd1 ⊢
    go_enter Tryz.func97, Tryz.ntmps97
    go_wp2_with (at_make; refine wp_make0 rfl _ _ _ rfl Tryz.underlying38 (X.length + 1) _ rfl rfl (by simp) (by omega) ?_; intro v0 w1 ho1 hb1)
    have HO := Lib.hid ho1
    have HB := Lib.hid hb1
    clear ho1 hb1 hd0 hd1 hsw
    go_loopw [5, 6, 24] (fun v5 v6 v24 wr => ∃ (i cy : Nat) (o : List Nat), i ≤ X.length ∧ v24 = .int .i64 i ∧ v6 = .int .u64 cy ∧ cy ≤ 1 ∧ o.length = i ∧ val o + B ^ i * cy = val (X.take i) + val (Y.take i) ∧ Own wr w.heap.size v5 o ∧ Ext w wr) (fun _ _ v _ => X.length - (intOf v).toNat)
    case atStart => exact ⟨0, 0, [], Nat.zero_le _, rfl, rfl, by omega, rfl, by simp [val, valb], HO.out, HB.out⟩
    case round =>
      clear HO HB
      obtain ⟨i, cy, o, hi, rfl, rfl, hcy, hol, hv, hO, hE⟩ := hrel
      by_cases hlt : i < X.length
      · obtain ⟨adx, rfl, hx⟩ := h.cell i hlt
        have hx1 := hE.cell hx
        have hst := plus_step' (X := X) (Y := Y) hol hv
        have hdB := mod_B_lt (X.getD i 0 + Y.getD i 0 + cy)
        have hcl := carry_le (h.w64.get i) (h'.w64.get i) hcy
        have ha := run_a64 (X.getD i 0) (Y.getD i 0) cy hcy
        have HST := Lib.hid (And.intro hst (And.intro hol hcl))
        have HO := Lib.hid hO
        have HE := Lib.hid hE
        have hol2 : o.length ≤ 1000000 := by omega
        clear hst hol hv hcl hx
        obtain ⟨y, hyy⟩ : ∃ y, Y.getD i 0 = y := ⟨_, rfl⟩
        have hyc : ∀ hl2 : i < Y.length, ∃ ady, A' = some ady ∧ wr.cell? (ady.add i) = some (.int .u64 (y : Int)) := fun hl2 => by
          obtain ⟨ady, e, hy⟩ := h'.cell i hl2
          rw [hyy] at hy
          exact ⟨ady, e, hE.cell hy⟩
        have hy0 : ¬ i < Y.length → y = 0 := fun hl2 => by rw [← hyy, List.getD_eq_getElem?_getD, List.getElem?_eq_none (by omega)]; rfl
        rw [hyy] at ha hdB HST
        generalize X.getD i 0 = x at *
        clear hyy hO
        by_cases hlt2 : i < Y.length
        · obtain ⟨ady, rfl, hy⟩ := hyc hlt2
          clear hyc hy0 hE
          generalize hd : (x + y + cy) % B = d at *
          generalize hq : (x + y + cy) / B = q at *
          clear hd hq
          go_wp2_with (first
            | simp only [ha]
            | (at_builtin; refine wp_append rfl _ _ _ rfl Tryz.underlying38 w.heap.size _ o rfl (HO.out.ext ((Ext.refl _).al _)) (some ⟨wr.heap.size, 0, none⟩) 1 1 [d] rfl rfl (Rd.new1 wr d hdB) ?hb ?hl ?_; (case hb => have := HE.out.size; simp; omega); (case hl => simp; omega); intro v' w4 ho4 hb4 hat hg4; have hE4 : Ext w w4 := (HE.out.al _).trans hb4; clear hat hg4))
          go_roundw
          case rel => exact ⟨i + 1, q, _, hlt, by go_num, rfl, HST.out.2.2, by rw [List.length_append, HST.out.2.1]; rfl, HST.out.1, ho4, hE4⟩
          case measure => simp [intOf]; omega
        · obtain rfl := hy0 hlt2
          have ha0 : ∀ w, (callFunc 68 #[.int .u64 (x : Int), .int .u64 0, .int .u64 (cy : Int)]).run Tryz.prog w = _ := ha
          clear ha hyc hy0 hE
          generalize hd : (x + 0 + cy) % B = d at *
          generalize hq : (x + 0 + cy) / B = q at *
          clear hd hq
          go_wp2_with (first
            | simp only [ha0]
            | (at_builtin; refine wp_append rfl _ _ _ rfl Tryz.underlying38 w.heap.size _ o rfl (HO.out.ext ((Ext.refl _).al _)) (some ⟨wr.heap.size, 0, none⟩) 1 1 [d] rfl rfl (Rd.new1 wr d hdB) ?hb ?hl ?_; (case hb => have := HE.out.size; simp; omega); (case hl => simp; omega); intro v' w4 ho4 hb4 hat hg4; have hE4 : Ext w w4 := (HE.out.al _).trans hb4; clear hat hg4))
          go_roundw
          case rel => exact ⟨i + 1, q, _, hlt, by go_num, rfl, HST.out.2.2, by rw [List.length_append, HST.out.2.1]; rfl, HST.out.1, ho4, hE4⟩
          case measure => simp [intOf]; omega
      · obtain rfl : i = X.length := by omega
        rw [List.take_length, List.take_of_length_le hle] at hv
        have hcB : cy < B := by have := two_le_B; omega
        have hval : val (o ++ [cy]) = V := by
          rw [show val (o ++ [cy]) = _ from valb_snoc B o cy, hol, ← HVV.out, ← hv]
        have HVL := Lib.hid hval
        have hol2 : o.length ≤ 1000000 := by omega
        have HO := Lib.hid hO
        have HE := Lib.hid hE
        clear hval hol hv hO hE
        go_wp2_with (at_builtin; refine wp_append rfl _ _ _ rfl Tryz.underlying38 w.heap.size _ o rfl (HO.out.ext ((Ext.refl _).al _)) (some ⟨wr.heap.size, 0, none⟩) 1 1 [cy] rfl rfl (Rd.new1 wr cy hcB) ?hb ?hl ?_; (case hb => have := HE.out.size; simp; omega); (case hl => simp; omega); intro v' w4 ho4 hb4 hat hg4; have hE4 : Ext w w4 := (HE.out.al _).trans hb4; clear hat hg4 hb4; obtain ⟨A4, c4, rfl, hr4⟩ := ho4.rd; generalize hxs : o ++ [cy] = zs at *)
        have ht := ntrim_cn A4 c4 zs w4 hr4
        have hcv := hr4.cnv
        rw [HVL.out] at ht hcv
        refine ht.mono ?_
        rintro z w5 ⟨rfl, n5, rfl⟩
        go_wp2
        go_ret
        exact ⟨_, _, rfl, hcv.drewN n5, hE4.drewN n5⟩
theorem nadd_c (A A' : Option Addr) (c c' : Nat) (xs ys : List Nat) (w : World) (h : Rd w A c xs) (h' : Rd w A' c' ys) (hs : xs.length ≤ 1000000) (hs' : ys.length ≤ 1000000) :
    Calls Tryz.prog 97 #[.slice A xs.length c, .slice A' ys.length c'] w (NatS w (val xs + val ys)) := by
  rcases Nat.lt_or_ge xs.length ys.length with hlt | hge
  · have := naddcore_c true A' A c' c ys xs w h' h (by omega) (fun _ => hlt) hs'
    rwa [if_pos rfl, Nat.add_comm] at this
  · have := naddcore_c false A A' c c' xs ys w h h' hge (by simp) hs
    rwa [if_neg (by simp)] at this
set_option maxHeartbeats 1000000 in
set_option maxRecDepth 100000 in
theorem nfit_c (A : Option Addr) (c : Nat) (n : Nat) (w : World) (h : Rd w A c (cn n)) (hl : (cn n).length ≤ 4096) : Calls Tryz.prog 96 #[.slice A (cn n).length c] w (NatSE w n) := by
  have ht := ntrim_cn A c (cn n) w h
  rw [val_cn] at ht
  have hd : decide ((4096 : Int) < ((cn n).length : Int)) = false := by rw [decide_eq_false_iff_not]; omega
  unfold NatSE
  generalize cn n = X at *
  go_enter Tryz.func96, Tryz.ntmps96
  go_wp2_with fail
  refine ht.mono ?_
  rintro z w5 ⟨rfl, n5, rfl⟩
  go_wp2
  go_ret2
  exact ⟨_, _, rfl, h.drewN n5, (Ext.refl w).drewN n5⟩
set_option maxHeartbeats 1000000 in
set_option maxRecDepth 100000 in
theorem nAdd_c (A A' : Option Addr) (c c' : Nat) (xs ys : List Nat) (w : World) (h : Rd w A c xs) (h' : Rd w A' c' ys) (hs : xs.length ≤ 4096) (hs' : ys.length ≤ 4096) (hf : (cn (val xs + val ys)).length ≤ 4096) :
    Calls Tryz.prog 77 #[.slice A xs.length c, .slice A' ys.length c'] w (NatSE w (val xs + val ys)) := by
  have hS := SlN.two w 38 A A' xs.length c ys.length c' hs hs'
  have hlg := nlarge_c (some ⟨w.heap.size, 0, none⟩) 2 2 _ (by omega) hS
  have hA := (Ext.refl w).al (.cells #[.slice A xs.length c, .slice A' ys.length c'] 38)
  have had := fun w h h' => nadd_c A A' c c' xs ys w h h' (by omega) (by omega)
  have hfi := fun A c w h => nfit_c A c (val xs + val ys) w h hf
  unfold NatSE at hfi ⊢
  generalize val xs + val ys = V at *
  clear hS
  go_enter Tryz.func77, Tryz.ntmps77
  go_wp2_with fail
  generalize w.alloc (.cells #[.slice A xs.length c, .slice A' ys.length c'] 38) = W at *
  refine hlg.mono ?_
  rintro z w2 ⟨rfl, rfl⟩
  go_wp2_with fail
  refine (had _ (h.ext hA) (h'.ext hA)).mono ?_
  rintro z w3 ⟨A3, c3, rfl, hr3, hb3⟩
  go_wp2_with fail
  refine (hfi _ _ _ hr3).mono ?_
  rintro z w4 ⟨A4, c4, rfl, hr4, hb4⟩
  go_wp2
  go_ret2
  exact ⟨_, _, rfl, hr4, (hA.tr hb3).tr hb4⟩
section
variable {ops : Array Oper} {rest : List Oper} {o : Oper} {a : Act} {Q : Exit → Act → World → Prop} {w : World}
/-- 'copy(z, y)' into a new row of zeros. -/
theorem wp_copyz (hg : o.guard = none) (d s : Operand) (t t' : TypeId) (hop : o.op = .call { callee := .builtin .copy, args := #[d, s], argTypes := #[t, t'] }) (ht : Tryz.prog.underlying t = some (.slice 45)) (g n : Nat) (hd : a.eval d = .slice (some ⟨g, 0, none⟩) n n)
    (hb : Bk w g (List.replicate n 0)) (A : Option Addr) (m c : Nat) (ys : List Nat) (hm : ys.length = m) (hs : a.eval s = .slice A m c) (hr : Rd w A c ys) (hle : ys.length ≤ n) (base : Nat) (hbase : base ≤ g)
    (hK : ∀ w', Bk w' g (ys ++ List.replicate (n - ys.length) 0) → Below base w w' → wpList Tryz.prog ops Q rest (a.put o.dst (goInt ys.length)) w') :
    wpList Tryz.prog ops Q (o :: rest) a w := by
  subst hm
  obtain ⟨i, h2, h3, h4, h5⟩ := info_parts info64
  have el : (enc ys).length = ys.length := enc_len ys
  refine wpList_copy_splice (B := base) (w0 := w) hg d s t t' hop 45 ht (by rw [h2]; simp [h4]) (some ⟨g, 0, none⟩) A n n ys.length c hd hs g 0 (enc (List.replicate n 0)) 45 hb.h (enc ys) (by rw [el]; exact (Nat.min_eq_left hle).symm) ?_ (by rw [enc_len, enc_len]; simp; omega) (enc_one ys) (Below.refl _ _) hbase ?_
  · intro hp
    rw [el] at hp
    obtain ⟨ad, rfl⟩ := hr.addr hp
    refine ⟨rfl, ad, rfl, fun j v hj => ?_⟩
    have hjl : j < ys.length := by have := (List.getElem?_eq_some_iff.1 hj).1; rwa [el] at this
    rw [enc_get ys j hjl] at hj
    rw [← hj]
    exact hr.get j hjl
  · intro w' hw' hbl
    rw [el]
    refine hK w' ⟨?_, ?_⟩ hbl
    · have h1 := hw'.out
      have e : splice (enc (List.replicate n 0)) 0 (enc ys) = enc (ys ++ List.replicate (n - ys.length) 0) := by
        unfold splice
        rw [List.take_zero, List.nil_append, el, Nat.zero_add]
        simp [enc, List.map_append, List.map_replicate]
      rw [e] at h1
      exact h1
    · intro x hx
      rcases List.mem_append.1 hx with h1 | h1
      · exact hr.w64 x h1
      · rw [List.eq_of_mem_replicate h1]; exact B_pos
end
set_option maxHeartbeats 2000000 in
set_option maxRecDepth 100000 in
theorem nSub_c (A A' : Option Addr) (c c' : Nat) (xs ys : List Nat) (w : World) (h : Rd w A c xs) (h' : Rd w A' c' ys) (hle : val ys ≤ val xs) (hs : xs.length ≤ 4096) (hs' : ys.length ≤ 4096) :
    Calls Tryz.prog 79 #[.slice A xs.length c, .slice A' ys.length c'] w (NatSE w (val xs - val ys)) := by
  have hS := SlN.two w 38 A A' xs.length c ys.length c' hs hs'
  have hlg := nlarge_c (some ⟨w.heap.size, 0, none⟩) 2 2 _ (by omega) hS
  have hA := (Ext.refl w).al (.cells #[.slice A xs.length c, .slice A' ys.length c'] 38)
  have t1 := fun w h => ntrim_cn A c xs w h
  have t2 := fun w h => ntrim_cn A' c' ys w h
  have hcm := fun w h h' => ncompare_c A A' c c' (val xs) (val ys) w h h'
  have rx := h.cnv
  have ry := h'.cnv
  have hxl : (cn (val xs)).length ≤ 4096 := Nat.le_trans (cn_val_le h.w64) hs
  have hlen := cn_len_mono hle
  have e1 := val_cn (val xs)
  have e2 := val_cn (val ys)
  have hc0 : ¬ cmp3 (val xs) (val ys) < 0 := by
    rcases Nat.eq_or_lt_of_le hle with e | e
    · rw [cmp3_eq e.symm]; omega
    · rw [cmp3_gt e]; omega
  unfold NatSE
  generalize val xs = m at *
  generalize val ys = n at *
  generalize cmp3 m n = k at *
  have hdk : decide (k < 0) = false := by rw [decide_eq_false_iff_not]; exact hc0
  have hws := fun (A2 : Option Addr) (c2 : Nat) w h h' => wsub_c A A2 c c2 (cn m) (cn n ++ List.replicate ((cn m).length - (cn n).length) 0) w h h' (by simp; omega) hxl
  have hE1 := Lib.hid (show val (cn n ++ List.replicate ((cn m).length - (cn n).length) 0) = n by rw [show val (cn n ++ List.replicate ((cn m).length - (cn n).length) 0) = val (cn n) from valb_pad B (cn n) _, e2])
  have hE2 := Lib.hid e1
  have hlz : (cn n ++ List.replicate ((cn m).length - (cn n).length) 0).length = (cn m).length := by simp; omega
  have HLZ := Lib.hid hlz
  clear hS e1 e2 hc0 hlz
  obtain ⟨D, hD⟩ : ∃ D, m - n = D := ⟨_, rfl⟩
  rw [hD]
  have HD := Lib.hid hD
  have HLE := Lib.hid hle
  clear hD hle
  generalize cn m = X at *
  generalize hZ : cn n ++ List.replicate (X.length - (cn n).length) 0 = Z at *
  have HZ := Lib.hid hZ
  clear hZ
  generalize cn n = Y at *
  go_enter Tryz.func79, Tryz.ntmps79
  go_wp2_with fail
  generalize w.alloc (.cells #[.slice A xs.length c, .slice A' ys.length c'] 38) = W at *
  refine hlg.mono ?_
  rintro z w2 ⟨rfl, rfl⟩
  go_wp2_with fail
  refine (t1 _ (h.ext hA)).mono ?_
  rintro z w2 ⟨rfl, n2, rfl⟩
  have hAd := fun q => hA.drewN q
  go_wp2_with fail
  refine (t2 _ (h'.ext (hAd _))).mono ?_
  rintro z w3 ⟨rfl, n3, rfl⟩
  go_wp2_with fail
  refine (hcm _ (rx.ext (hAd _)) (ry.ext (hAd _))).mono ?_
  rintro z w4 ⟨rfl, n4, rfl⟩
  have hE4 := hAd (n2 + n3 + n4)
  have ryw := ry.ext hE4
  have rxw := rx.ext hE4
  go_wp2_with (first
    | (at_make; refine wp_make rfl _ _ _ rfl Tryz.underlying38 X.length _ rfl rfl rfl (by omega) ?_; intro g w5 hg hbk hb5)
    | (with_reducible refine wp_copyz rfl (.tmp 25) (.tmp 26) 38 38 rfl Tryz.underlying38 g X.length rfl hbk A' Y.length c' Y rfl rfl (ryw.ext hb5) hlen (W.drewN (n2 + n3 + n4)).heap.size hg ?_; intro w6 hb6 hbl6; have hE6 : Ext (W.drewN (n2 + n3 + n4)) w6 := hb5.trans hbl6; rw [HZ.out] at hb6; clear hbl6 hbk))
  have hrz : Rd w6 (some ⟨g, 0, none⟩) X.length Z := hb6.rd (by rw [HLZ.out]; omega) (by rw [HLZ.out]; omega)
  refine (hws _ _ _ (rxw.ext hE6) hrz).mono ?_
  rintro z w7 ⟨v, o, bw, rfl, q1, q2, q3, ho7, hb7⟩
  obtain ⟨A7, c7, rfl, hr7⟩ := ho7.rd
  have hvo : val o = D := by
    have hlt := val_lt hr7.w64
    rw [q1] at hlt
    rw [hE1.out, hE2.out] at q3
    have h1 := HLE.out
    have h2 := HD.out
    rcases Nat.eq_zero_or_pos bw with hz | hz
    · rw [hz, Nat.mul_zero] at q3; omega
    · rw [show bw = 1 by omega, Nat.mul_one] at q3
      have hX2 := val_lt rxw.w64
      rw [hE2.out] at hX2
      omega
  have ht := ntrim_cn A7 c7 o w7 hr7
  have hcv := hr7.cnv
  rw [hvo] at ht hcv
  clear q1 q2 q3 hvo hws
  go_wp2_with fail
  refine ht.mono ?_
  rintro z w8 ⟨rfl, n8, rfl⟩
  go_wp2
  go_ret2
  exact ⟨_, _, rfl, hcv.drewN n8, ((hE4.tr hE6).tr hb7).drewN n8⟩
end Go.Proofs.YtlnfmngginihfaaGreatDoor
