/- package wide: Word, Zero, Len, Cmp, Trailing. package wide: Cmp, Trailing, Bit. -/
import Derived.Test.YtehlmacgjlgjaaaGreatDoorW1
set_option linter.unusedVariables false
set_option linter.unusedSimpArgs false
namespace Go.Proofs.YtehlmacgjlgjaaaGreatDoor
open Go.RowKit

theorem Rd.new1 (w : World) (x : Nat) (hx : x < B) : Rd (w.alloc (.cells #[.int .u64 (x : Int)] 60)) (some ⟨w.heap.size, 0, none⟩) 1 [x] :=
  Bk.rd (xs := [x]) ⟨heap_alloc_new w _, W64.cons hx W64.nil⟩ (by simp) (by simp)
theorem val_one (x : Nat) : val [x] = x := by simp [val, valb]
set_option maxHeartbeats 400000 in
theorem word_c (x : Nat) (w : World) (hx : x < B) : Calls Tryz.prog 131 #[.int .u64 (x : Int)] w (Res w (cn x)) := by
  go_enter Tryz.func131, Tryz.ntmps131
  go_wp2_with (go_at_call 98; refine (trim_c _ _ [x] _ (Rd.new1 w x hx) (by simp)).mono ?_; rintro e w1 ⟨v, rfl, ho, hb⟩)
  go_ret
  rw [val_one] at ho
  exact ⟨_, rfl, ho.low (by simp), ((Ext.refl w).al _).tr hb⟩

set_option maxHeartbeats 400000 in
theorem zero_c (A : Option Addr) (c : Nat) (xs : List Nat) (w : World) (h : Rd w A c xs) :
    Calls Tryz.prog 79 #[.slice A xs.length c] w fun e w' => e = .returned (.bool (decide (val xs = 0))) ∧ ∃ n, w' = w.drewN n := by
  have h1 := view_c A c xs w h
  have hl := h.len
  have hl2 := cn_val_le h.w64
  have hz := cn_len_zero (val xs)
  generalize cn (val xs) = ys at h1 hl2 hz
  by_cases h0 : ys.length = 0
  · have e := List.eq_nil_of_length_eq_zero h0
    subst e
    have hv : decide (val xs = 0) = true := by simpa using hz.1 rfl
    have HV := Lib.hid hv
    clear hz h0 hv
    go_enter Tryz.func79, Tryz.ntmps79
    go_wp2_with (go_at_call 60; refine h1.mono ?_; rintro e w1 ⟨rfl, n, rfl⟩)
    go_ret
    exact ⟨by rw [HV.out]; rfl, _, rfl⟩
  · have hv : decide (val xs = 0) = false := by simpa using fun e => h0 (hz.2 e)
    have HV := Lib.hid hv
    have hb : ((ys.length : Int) == 0) = false := by rw [beq_eq_false_iff_ne]; omega
    clear hz h0 hv
    go_enter Tryz.func79, Tryz.ntmps79
    go_wp2_with (go_at_call 60; refine h1.mono ?_; rintro e w1 ⟨rfl, n, rfl⟩)
    go_ret
    exact ⟨by rw [HV.out]; rfl, _, rfl⟩

set_option maxHeartbeats 400000 in
theorem len_c (A : Option Addr) (c : Nat) (xs : List Nat) (w : World) (h : Rd w A c xs) (hs : xs.length ≤ 1099511627776) :
    Calls Tryz.prog 28 #[.slice A xs.length c] w fun e w' => e = .returned (.int .i64 (bl (val xs))) ∧ ∃ n, w' = w.drewN n := by
  have h1 := view_c A c xs w h
  have hl2 := cn_val_le h.w64
  have hv := h.view
  have hz := cn_len_zero (val xs)
  have hbl := bl_cn (val xs)
  have hw := W64.cn (val xs)
  generalize cn (val xs) = ys at h1 hl2 hz hbl hv hw
  by_cases h0 : ys.length = 0
  · have e := List.eq_nil_of_length_eq_zero h0
    subst e
    have e := hz.1 rfl
    have HV := Lib.hid e
    clear hz h0 hbl e
    go_enter Tryz.func28, Tryz.ntmps28
    go_wp2_with (go_at_call 60; refine h1.mono ?_; rintro e w1 ⟨rfl, n, rfl⟩)
    go_ret
    exact ⟨by rw [HV.out]; rfl, _, rfl⟩
  · have hb : ((ys.length : Int) == 0) = false := by rw [beq_eq_false_iff_ne]; omega
    have hp : 0 < val xs := by omega
    have e := hbl hp
    have HV := Lib.hid e
    clear hz hbl hp e
    obtain ⟨ad, rfl, hc⟩ := hv.cell (ys.length - 1) (by omega)
    have hx : ys.getD (ys.length - 1) 0 < B := hw.get _
    have hb64 := bl_lt_word hx
    generalize ys.getD (ys.length - 1) 0 = x at hc hx HV hb64
    have hidx : ((ys.length : Int) - 1) = ((ys.length - 1 : Nat) : Int) := by omega
    go_enter Tryz.func28, Tryz.ntmps28
    go_wp2_with (first
      | (go_at_call 60; refine h1.mono ?_; rintro e w1 ⟨rfl, n, rfl⟩)
      | (go_at_call 61; refine (len64 x _ hx).mono ?_; rintro e w1 ⟨rfl, rfl⟩))
    go_ret
    exact ⟨by rw [HV.out]; exact congrArg (fun z => Ending.returned (Value.int .i64 z)) (by omega), _, rfl⟩
end Go.Proofs.YtehlmacgjlgjaaaGreatDoor
namespace Go.Proofs.YtehlmacgjlgjaaaGreatDoor
open Go.RowKit

theorem dn2 (w : World) (a b : Nat) : ∃ n, (w.drewN a).drewN b = w.drewN n := ⟨_, World.drewN_drewN ..⟩
theorem dn3 (w : World) (a b c : Nat) : ∃ n, ((w.drewN a).drewN b).drewN c = w.drewN n := ⟨_, (World.drewN_drewN ..).trans (World.drewN_drewN ..)⟩
theorem drop_succ_eq {xs ys : List Nat} (i : Nat) (hx : i < xs.length) (hy : i < ys.length) (h : xs.drop (i + 1) = ys.drop (i + 1)) (e : xs.getD i 0 = ys.getD i 0) : xs.drop i = ys.drop i := by
  rw [List.drop_eq_getElem_cons hx, List.drop_eq_getElem_cons hy, h]
  rw [List.getD_eq_getElem?_getD, List.getD_eq_getElem?_getD, List.getElem?_eq_getElem hx, List.getElem?_eq_getElem hy] at e
  rw [show xs[i] = ys[i] from e]
set_option maxHeartbeats 1000000 in
theorem cmp_c (A A' : Option Addr) (c c' : Nat) (xs ys : List Nat) (w : World) (h : Rd w A c xs) (h' : Rd w A' c' ys) :
    Calls Tryz.prog 39 #[.slice A xs.length c, .slice A' ys.length c'] w fun e w' => e = .returned (.int .i64 (cmp3 (val xs) (val ys))) ∧ ∃ n, w' = w.drewN n := by
  have h1 := view_c A c xs w h
  have h2 := fun n => view_c A' c' ys (w.drewN n) (h'.drewN n)
  have hl := h.view
  have hl' := h'.view
  have e1 := val_cn (val xs)
  have e2 := val_cn (val ys)
  have hlt1 := fun hh => cn_len_lt_val (m := val xs) (n := val ys) hh
  have hlt2 := fun hh => cn_len_lt_val (m := val ys) (n := val xs) hh
  generalize val xs = m at *
  generalize val ys = n at *
  generalize cn m = us at *
  generalize cn n = vs at *
  have l1 := hl.len
  have l2 := hl'.len
  rcases Nat.lt_trichotomy us.length vs.length with hlt | heq | hgt
  · have hb : ((us.length : Int) != vs.length) = true := by rw [bne_iff_ne]; omega
    have hd : decide ((us.length : Int) < vs.length) = true := by simp; omega
    have HV := Lib.hid (cmp3_lt (hlt1 hlt))
    clear hlt1 hlt2 e1 e2
    go_enter Tryz.func39, Tryz.ntmps39
    go_wp2_with fail
    refine h1.mono ?_; rintro e w1 ⟨rfl, k, rfl⟩
    go_wp2_with fail
    refine (h2 _).mono ?_; rintro e w1 ⟨rfl, k', rfl⟩
    go_wp2
    go_ret
    exact ⟨by rw [HV.out]; rfl, _, rfl⟩
  · have hb : ((us.length : Int) != vs.length) = false := by rw [heq]; simp
    have HE := Lib.hid heq
    have HV1 := Lib.hid e1
    have HV2 := Lib.hid e2
    have hw1 := hl.w64
    clear hlt1 hlt2 e1 e2 heq
    go_enter Tryz.func39, Tryz.ntmps39
    go_wp2_with fail
    refine h1.mono ?_; rintro e w1 ⟨rfl, k, rfl⟩
    go_wp2_with fail
    refine (h2 _).mono ?_; rintro e w1 ⟨rfl, k', rfl⟩
    go_wp2
    go_loopw [5] (fun v wr => ∃ i : Nat, i ≤ us.length ∧ v = .int .i64 ((i : Int) - 1) ∧ us.drop i = vs.drop i ∧ ∃ n, wr = w.drewN n) (fun v _ => (intOf v + 1).toNat)
    case atStart => exact ⟨us.length, Nat.le_refl _, rfl, by rw [List.drop_eq_nil_of_le (Nat.le_refl _), List.drop_eq_nil_of_le (by rw [HE.out]; exact Nat.le_refl _)], _, rfl⟩
    case round =>
      obtain ⟨i, hi, rfl, hdr, nn, rfl⟩ := hrel
      have HD := Lib.hid hdr
      clear hdr
      by_cases h0 : 0 < i
      · obtain ⟨ad, rfl, hc1⟩ := hl.cell (i - 1) (by omega)
        obtain ⟨ad', rfl, hc2⟩ := hl'.cell (i - 1) (by rw [← HE.out]; omega)
        have hidx : ((i : Int) - 1) = ((i - 1 : Nat) : Int) := by omega
        have hd' := fun e => drop_succ_eq (xs := us) (ys := vs) (i - 1) (by omega) (by rw [← HE.out]; omega) (by rw [show i - 1 + 1 = i by omega]; exact HD.out) e
        have hlt := fun hh => val_lt_of us vs (i - 1) hw1 (by omega) (by rw [← HE.out]; omega) (by rw [show i - 1 + 1 = i by omega]; exact HD.out) hh
        have hgt := fun hh => val_lt_of vs us (i - 1) hl'.w64 (by rw [← HE.out]; omega) (by omega) (by rw [show i - 1 + 1 = i by omega]; exact HD.out.symm) hh
        have HLT := Lib.hid hlt
        have HGT := Lib.hid hgt
        have HDD := Lib.hid hd'
        have hii : i - 1 < us.length := by omega
        have hii' : i - 1 < vs.length := by rw [← HE.out]; omega
        clear hlt hgt hd'
        generalize us.getD (i - 1) 0 = x at *
        generalize vs.getD (i - 1) 0 = y at *
        rcases Nat.lt_trichotomy x y with hxy | hxy | hxy
        · have b1 : ((x : Int) != y) = true := by rw [bne_iff_ne]; omega
          have b2 : decide ((x : Int) < y) = true := by simp; omega
          have HV := Lib.hid (cmp3_lt (HLT.out hxy))
          go_wp2
          go_quiet (fail)
          go_wp2
          go_quiet (fail)
          go_wp2
          go_ret
          refine ⟨?_, dn3 _ _ _ _⟩
          rw [show cmp3 m n = -1 from by rw [← HV1.out, ← HV2.out]; exact HV.out]; rfl
        · subst hxy
          have b1 : ((x : Int) != x) = false := by simp
          go_wp2
          go_quiet (fail)
          go_wp2
          go_roundw
          case rel => exact ⟨i - 1, by omega, rfl, HDD.out (by first | rfl | trivial), _, rfl⟩
          case measure => simp [intOf]; omega
        · have b1 : ((x : Int) != y) = true := by rw [bne_iff_ne]; omega
          have b2 : decide ((x : Int) < y) = false := by simp; omega
          have HV := Lib.hid (cmp3_gt (HGT.out hxy))
          go_wp2
          go_quiet (fail)
          go_wp2
          go_quiet (fail)
          go_wp2
          go_ret
          refine ⟨?_, dn3 _ _ _ _⟩
          rw [show cmp3 m n = 1 from by rw [← HV1.out, ← HV2.out]; exact HV.out]; rfl
      · obtain rfl : i = 0 := by omega
        go_wp2
        go_ret
        refine ⟨?_, _, rfl⟩
        have h3 := HD.out
        simp only [List.drop_zero] at h3
        rw [← HV1.out, ← HV2.out, h3, cmp3_eq rfl]
        rfl
  · have hb : ((us.length : Int) != vs.length) = true := by rw [bne_iff_ne]; omega
    have hd : decide ((us.length : Int) < vs.length) = false := by simp; omega
    have HV := Lib.hid (cmp3_gt (hlt2 hgt))
    clear hlt1 hlt2 e1 e2
    go_enter Tryz.func39, Tryz.ntmps39
    go_wp2_with fail
    refine h1.mono ?_; rintro e w1 ⟨rfl, k, rfl⟩
    go_wp2_with fail
    refine (h2 _).mono ?_; rintro e w1 ⟨rfl, k', rfl⟩
    go_wp2
    go_ret
    exact ⟨by rw [HV.out]; rfl, _, rfl⟩

set_option maxHeartbeats 400000 in
theorem trailing_c (A : Option Addr) (c : Nat) (xs : List Nat) (w : World) (h : Rd w A c xs) (hs : xs.length ≤ 1099511627776) (hT : Tab w) :
    Calls Tryz.prog 80 #[.slice A xs.length c] w fun e w' => e = .returned (.int .i64 (tz (val xs))) ∧ ∃ n, w' = w.drewN n := by
  have hw := h.w64
  go_enter Tryz.func80, Tryz.ntmps80
  go_wp2
  go_loopw [7] (fun v wr => ∃ i : Nat, i ≤ xs.length ∧ v = .int .i64 i ∧ (∀ j, j < i → xs.getD j 0 = 0) ∧ ∃ n, wr = w.drewN n) (fun v _ => xs.length - (intOf v).toNat)
  case atStart => exact ⟨0, Nat.zero_le _, rfl, fun j hj => absurd hj (by omega), 0, rfl⟩
  case round =>
    obtain ⟨i, hi, rfl, h0, n, rfl⟩ := hrel
    have H0 := Lib.hid h0
    clear h0
    by_cases hlt : i < xs.length
    · obtain ⟨ad, rfl, hc⟩ := h.cell i hlt
      have hx : xs.getD i 0 < B := hw.get i
      by_cases hz : xs.getD i 0 = 0
      · have h1 : ∀ j, j < i + 1 → xs.getD j 0 = 0 := fun j hj => by
          rcases Nat.lt_or_ge j i with h2 | h2
          · exact H0.out j h2
          · rw [show j = i by omega]; exact hz
        have H1 := Lib.hid h1
        clear h1
        rw [hz] at hc
        clear hz hx
        go_wp2
        go_roundw
        case rel => exact ⟨i + 1, hlt, by go_num, H1.out, _, rfl⟩
        case measure => simp [intOf]; omega
      · have ht := tz_words xs i hlt H0.out (by omega) hx
        have HT := Lib.hid ht
        clear ht
        have hb64 := bl_lt_word hx
        have htb := tz_lt_bl _ (show 0 < xs.getD i 0 by omega)
        generalize xs.getD i 0 = x at *
        have b1 : ((x : Int) != 0) = true := by rw [bne_iff_ne]; omega
        go_wp2_with (go_at_call 118; refine (tz64 x _ (by omega) hx (hT.ext ((Ext.refl w).drewN n))).mono ?_; rintro e w1 ⟨rfl, rfl⟩)
        go_ret
        exact ⟨by rw [HT.out]; exact congrArg (fun z => Ending.returned (Value.int .i64 z)) (by omega), _, rfl⟩
    · have e : i = xs.length := by omega
      have hv : tz (val xs) = 0 := by
        have : val xs = 0 := valb_zero_of B xs (fun x hx => by
          obtain ⟨j, hj, rfl⟩ := List.mem_iff_getElem.1 hx
          have := H0.out j (by omega)
          rw [List.getD_eq_getElem?_getD, List.getElem?_eq_getElem hj] at this
          simpa using this)
        rw [this, tz_zero]
      have HV := Lib.hid hv
      clear hv
      go_wp2
      go_ret
      exact ⟨by rw [HV.out]; rfl, _, rfl⟩

theorem bit_word (x i : Nat) : ((x / 2 ^ i) &&& 1 = 1) = (x.testBit i = true) := by
  rw [Nat.testBit_eq_decide_div_mod_eq]
  simp [Nat.and_one_is_mod]
theorem testBit_words (xs : List Nat) (h : W64 xs) (i : Nat) : (val xs).testBit i = (xs.getD (i / 64) 0).testBit (i % 64) := by
  have e1 := valb_drop_div B B_pos xs h (i / 64)
  have e2 : val (xs.drop (i / 64)) = xs.getD (i / 64) 0 + B * val (xs.drop (i / 64 + 1)) := by
    rcases Nat.lt_or_ge (i / 64) xs.length with hlt | hge
    · rw [List.drop_eq_getElem_cons hlt, List.getD_eq_getElem?_getD, List.getElem?_eq_getElem hlt]; rfl
    · rw [List.drop_eq_nil_of_le hge, List.drop_eq_nil_of_le (by omega), List.getD_eq_getElem?_getD, List.getElem?_eq_none hge]; rfl
  have e3 : val xs / B ^ (i / 64) = xs.getD (i / 64) 0 + B * val (xs.drop (i / 64 + 1)) := by rw [← e2]; exact e1.symm
  have h5 : (val xs).testBit i = (val xs / B ^ (i / 64)).testBit (i % 64) := by
    rw [B_two, ← Nat.pow_mul, Nat.testBit_div_two_pow, show i % 64 + 64 * (i / 64) = i by omega]
  rw [h5, e3, B_two, Nat.add_comm, Nat.mul_comm, ← Nat.shiftLeft_eq, Nat.shiftLeft_add_eq_or_of_lt (by rw [← B_two]; exact h.get _), Nat.testBit_or, Nat.testBit_shiftLeft]
  have := Nat.mod_lt i (show 64 > 0 by omega)
  simp only [show decide (i % 64 ≥ 64) = false by simp; omega, Bool.false_and, Bool.false_or]
end Go.Proofs.YtehlmacgjlgjaaaGreatDoor
