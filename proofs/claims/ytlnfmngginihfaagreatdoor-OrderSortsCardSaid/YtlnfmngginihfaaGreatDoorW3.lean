/- package wide: view, Trim, Word, Zero, Len, Cmp, Trailing, Add, Sub: what each call hands back, by the numbers' values. package wide: Word, Zero, Len, Cmp, Trailing. package wide: Cmp, Trailing, Bit. -/
import Derived.Test.YtlnfmngginihfaaGreatDoorBits
set_option linter.unusedVariables false
set_option linter.unusedSimpArgs false
namespace Go.Proofs.YtlnfmngginihfaaGreatDoor
open Go.RowKit

theorem Rd.view {w : World} {A : Option Addr} {c : Nat} {xs : List Nat} (h : Rd w A c xs) : Rd w A (cn (val xs)).length (cn (val xs)) := by
  rw [cn_topN xs h.w64]
  have := topN_le xs
  exact h.take _ this (by rw [List.length_take]; omega)
theorem cn_val_le {xs : List Nat} (h : W64 xs) : (cn (val xs)).length ≤ xs.length := by rw [← topN_eq_len xs h]; exact topN_le xs
set_option maxHeartbeats 400000 in
theorem view_c (A : Option Addr) (c : Nat) (xs : List Nat) (w : World) (h : Rd w A c xs) :
    Calls Tryz.prog 70 #[.slice A xs.length c] w fun e w' => e = .returned (.slice A (cn (val xs)).length (cn (val xs)).length) ∧ ∃ n, w' = w.drewN n := by
  have hl := h.len
  have hc := h.cap
  rw [← topN_eq_len xs h.w64]
  have ht := topN_le xs
  go_enter Tryz.func70, Tryz.ntmps70
  go_wp2
  go_loopw [3] (fun v wr => ∃ k : Nat, k ≤ xs.length ∧ topN xs ≤ k ∧ v = .int .i64 k ∧ ∃ n, wr = w.drewN n) (fun v _ => (intOf v).toNat)
  case atStart => exact ⟨xs.length, Nat.le_refl _, ht, rfl, 0, rfl⟩
  case round =>
    obtain ⟨k, hk, htk, rfl, n, rfl⟩ := hrel
    by_cases h0 : 0 < k
    · obtain ⟨ad, rfl, hcell⟩ := h.cell (k - 1) (by omega)
      have hidx : ((k : Int) - 1) = ((k - 1 : Nat) : Int) := by omega
      by_cases hz : xs.getD (k - 1) 0 = 0
      · have hne : topN xs ≠ k := fun e => topN_last xs (by omega) (by rw [e]; exact hz)
        rw [hz] at hcell
        go_wp2
        go_roundw
        case rel => exact ⟨k - 1, by omega, by omega, rfl, _, rfl⟩
        case measure => simp [intOf]; omega
      · have hne : topN xs = k := by
          rcases Nat.lt_or_ge (k - 1) (topN xs) with h1 | h1
          · omega
          · exact absurd (topN_zero xs _ h1) hz
        have HN := Lib.hid hne
        clear htk hne
        generalize xs.getD (k - 1) 0 = v at hcell hz
        have hzb : (((v : Nat) : Int) == 0) = false := by rw [beq_eq_false_iff_ne]; omega
        go_wp2
        go_ret
        exact ⟨by rw [HN.out]; rfl, _, rfl⟩
    · obtain rfl : k = 0 := by omega
      have h1 : topN xs = 0 := by omega
      have HN := Lib.hid h1
      clear htk h1
      go_wp2
      go_ret
      exact ⟨by rw [HN.out]; rfl, _, rfl⟩

theorem small_len {xs : List Nat} (h : xs.length ≤ 9223372036854775807) (k : Nat) (_ : k ≤ xs.length) : (k : Int) ≤ 9223372036854775807 := by omega
set_option maxHeartbeats 400000 in
theorem trim_c (A : Option Addr) (c : Nat) (xs : List Nat) (w : World) (h : Rd w A c xs) (hs : xs.length ≤ 1099511627776) :
    Calls Tryz.prog 69 #[.slice A xs.length c] w (Res w (cn (val xs))) := by
  have hv := h.view
  have hl := cn_val_le h.w64
  have h1 := view_c A c xs w h
  generalize cn (val xs) = ys at hv hl h1
  by_cases h0 : ys.length = 0
  · have e := List.eq_nil_of_length_eq_zero h0
    subst e
    go_enter Tryz.func69, Tryz.ntmps69
    go_wp2_with (go_at_call 70; refine h1.mono ?_; rintro e w1 ⟨rfl, n, rfl⟩)
    go_ret
    exact ⟨_, rfl, Own.nil _ _, (Ext.refl w).drewN n⟩
  · have h0' : 0 < ys.length := by omega
    go_enter Tryz.func69, Tryz.ntmps69
    go_wp2_with (first
      | (go_at_call 70; refine h1.mono ?_; rintro e w1 ⟨rfl, n, rfl⟩)
      | (at_builtin; refine wp_append rfl _ _ _ rfl Tryz.underlying38 w.heap.size _ [] rfl ⟨World.ownsRow_lit _ #[] 0 (by simp) (by simp [maxLen]) rfl, W64.nil⟩ A ys.length ys.length ys rfl rfl ((hv.drewN n).ext ((Ext.refl _).al _)) (by simp) (by simp; omega) ?_; intro v' w' ho hb hat hg))
    go_ret
    exact ⟨_, rfl, ho, Below.trans (((Ext.refl w).drewN n).al _) hb⟩
end Go.Proofs.YtlnfmngginihfaaGreatDoor
namespace Go.Proofs.YtlnfmngginihfaaGreatDoor
open Go.RowKit

theorem Rd.new1 (w : World) (x : Nat) (hx : x < B) : Rd (w.alloc (.cells #[.int .u64 (x : Int)] 45)) (some ⟨w.heap.size, 0, none⟩) 1 [x] :=
  Bk.rd (xs := [x]) ⟨heap_alloc_new w _, W64.cons hx W64.nil⟩ (by simp) (by simp)
theorem val_one (x : Nat) : val [x] = x := by simp [val, valb]
set_option maxHeartbeats 400000 in
theorem word_c (x : Nat) (w : World) (hx : x < B) : Calls Tryz.prog 81 #[.int .u64 (x : Int)] w (Res w (cn x)) := by
  go_enter Tryz.func81, Tryz.ntmps81
  go_wp2_with (go_at_call 69; refine (trim_c _ _ [x] _ (Rd.new1 w x hx) (by simp)).mono ?_; rintro e w1 ⟨v, rfl, ho, hb⟩)
  go_ret
  rw [val_one] at ho
  exact ⟨_, rfl, ho.low (by simp), ((Ext.refl w).al _).tr hb⟩

set_option maxHeartbeats 400000 in
theorem zero_c (A : Option Addr) (c : Nat) (xs : List Nat) (w : World) (h : Rd w A c xs) :
    Calls Tryz.prog 74 #[.slice A xs.length c] w fun e w' => e = .returned (.bool (decide (val xs = 0))) ∧ ∃ n, w' = w.drewN n := by
  have h1 := view_c A c xs w h
  have hl := h.len
  have hl2 := cn_val_le h.w64
  have hz := cn_len_zero (val xs)
  generalize cn (val xs) = ys at h1 hl2 hz
  by_cases h0 : ys.length = 0
  · have e := List.eq_nil_of_length_eq_zero h0
    subst e
    have hv : decide (val xs = 0) = true := by simpa using hz.1 rfl
    have HV := Lib.hid hv
    clear hz h0 hv
    go_enter Tryz.func74, Tryz.ntmps74
    go_wp2_with (go_at_call 70; refine h1.mono ?_; rintro e w1 ⟨rfl, n, rfl⟩)
    go_ret
    exact ⟨by rw [HV.out]; rfl, _, rfl⟩
  · have hv : decide (val xs = 0) = false := by simpa using fun e => h0 (hz.2 e)
    have HV := Lib.hid hv
    have hb : ((ys.length : Int) == 0) = false := by rw [beq_eq_false_iff_ne]; omega
    clear hz h0 hv
    go_enter Tryz.func74, Tryz.ntmps74
    go_wp2_with (go_at_call 70; refine h1.mono ?_; rintro e w1 ⟨rfl, n, rfl⟩)
    go_ret
    exact ⟨by rw [HV.out]; rfl, _, rfl⟩

set_option maxHeartbeats 400000 in
theorem len_c (A : Option Addr) (c : Nat) (xs : List Nat) (w : World) (h : Rd w A c xs) (hs : xs.length ≤ 1099511627776) :
    Calls Tryz.prog 65 #[.slice A xs.length c] w fun e w' => e = .returned (.int .i64 (bl (val xs))) ∧ ∃ n, w' = w.drewN n := by
  have h1 := view_c A c xs w h
  have hl2 := cn_val_le h.w64
  have hv := h.view
  have hz := cn_len_zero (val xs)
  have hbl := bl_cn (val xs)
  have hw := W64.cn (val xs)
  generalize cn (val xs) = ys at h1 hl2 hz hbl hv hw
  by_cases h0 : ys.length = 0
  · have e := List.eq_nil_of_length_eq_zero h0
    subst e
    have e := hz.1 rfl
    have HV := Lib.hid e
    clear hz h0 hbl e
    go_enter Tryz.func65, Tryz.ntmps65
    go_wp2_with (go_at_call 70; refine h1.mono ?_; rintro e w1 ⟨rfl, n, rfl⟩)
    go_ret
    exact ⟨by rw [HV.out]; rfl, _, rfl⟩
  · have hb : ((ys.length : Int) == 0) = false := by rw [beq_eq_false_iff_ne]; omega
    have hp : 0 < val xs := by omega
    have e := hbl hp
    have HV := Lib.hid e
    clear hz hbl hp e
    obtain ⟨ad, rfl, hc⟩ := hv.cell (ys.length - 1) (by omega)
    have hx : ys.getD (ys.length - 1) 0 < B := hw.get _
    have hb64 := bl_lt_word hx
    generalize ys.getD (ys.length - 1) 0 = x at hc hx HV hb64
    have hidx : ((ys.length : Int) - 1) = ((ys.length - 1 : Nat) : Int) := by omega
    go_enter Tryz.func65, Tryz.ntmps65
    go_wp2_with (first
      | (go_at_call 70; refine h1.mono ?_; rintro e w1 ⟨rfl, n, rfl⟩)
      | (go_at_call 93; refine (len64 x _ hx).mono ?_; rintro e w1 ⟨rfl, rfl⟩))
    go_ret
    exact ⟨by rw [HV.out]; exact congrArg (fun z => Ending.returned (Value.int .i64 z)) (by omega), _, rfl⟩
end Go.Proofs.YtlnfmngginihfaaGreatDoor
namespace Go.Proofs.YtlnfmngginihfaaGreatDoor
open Go.RowKit

theorem dn2 (w : World) (a b : Nat) : ∃ n, (w.drewN a).drewN b = w.drewN n := ⟨_, World.drewN_drewN ..⟩
theorem dn3 (w : World) (a b c : Nat) : ∃ n, ((w.drewN a).drewN b).drewN c = w.drewN n := ⟨_, (World.drewN_drewN ..).trans (World.drewN_drewN ..)⟩
theorem drop_succ_eq {xs ys : List Nat} (i : Nat) (hx : i < xs.length) (hy : i < ys.length) (h : xs.drop (i + 1) = ys.drop (i + 1)) (e : xs.getD i 0 = ys.getD i 0) : xs.drop i = ys.drop i := by
  rw [List.drop_eq_getElem_cons hx, List.drop_eq_getElem_cons hy, h]
  rw [List.getD_eq_getElem?_getD, List.getD_eq_getElem?_getD, List.getElem?_eq_getElem hx, List.getElem?_eq_getElem hy] at e
  rw [show xs[i] = ys[i] from e]
set_option maxHeartbeats 400000 in
theorem trailing_c (A : Option Addr) (c : Nat) (xs : List Nat) (w : World) (h : Rd w A c xs) (hs : xs.length ≤ 1099511627776) (hT : Tab w) :
    Calls Tryz.prog 92 #[.slice A xs.length c] w fun e w' => e = .returned (.int .i64 (tz (val xs))) ∧ ∃ n, w' = w.drewN n := by
  have hw := h.w64
  go_enter Tryz.func92, Tryz.ntmps92
  go_wp2
  go_loopw [7] (fun v wr => ∃ i : Nat, i ≤ xs.length ∧ v = .int .i64 i ∧ (∀ j, j < i → xs.getD j 0 = 0) ∧ ∃ n, wr = w.drewN n) (fun v _ => xs.length - (intOf v).toNat)
  case atStart => exact ⟨0, Nat.zero_le _, rfl, fun j hj => absurd hj (by omega), 0, rfl⟩
  case round =>
    obtain ⟨i, hi, rfl, h0, n, rfl⟩ := hrel
    have H0 := Lib.hid h0
    clear h0
    by_cases hlt : i < xs.length
    · obtain ⟨ad, rfl, hc⟩ := h.cell i hlt
      have hx : xs.getD i 0 < B := hw.get i
      by_cases hz : xs.getD i 0 = 0
      · have h1 : ∀ j, j < i + 1 → xs.getD j 0 = 0 := fun j hj => by
          rcases Nat.lt_or_ge j i with h2 | h2
          · exact H0.out j h2
          · rw [show j = i by omega]; exact hz
        have H1 := Lib.hid h1
        clear h1
        rw [hz] at hc
        clear hz hx
        go_wp2
        go_roundw
        case rel => exact ⟨i + 1, hlt, by go_num, H1.out, _, rfl⟩
        case measure => simp [intOf]; omega
      · have ht := tz_words xs i hlt H0.out (by omega) hx
        have HT := Lib.hid ht
        clear ht
        have hb64 := bl_lt_word hx
        have htb := tz_lt_bl _ (show 0 < xs.getD i 0 by omega)
        generalize xs.getD i 0 = x at *
        have b1 : ((x : Int) != 0) = true := by rw [bne_iff_ne]; omega
        go_wp2_with (go_at_call 108; refine (tz64 x _ (by omega) hx (hT.ext ((Ext.refl w).drewN n))).mono ?_; rintro e w1 ⟨rfl, rfl⟩)
        go_ret
        exact ⟨by rw [HT.out]; exact congrArg (fun z => Ending.returned (Value.int .i64 z)) (by omega), _, rfl⟩
    · have e : i = xs.length := by omega
      have hv : tz (val xs) = 0 := by
        have : val xs = 0 := valb_zero_of B xs (fun x hx => by
          obtain ⟨j, hj, rfl⟩ := List.mem_iff_getElem.1 hx
          have := H0.out j (by omega)
          rw [List.getD_eq_getElem?_getD, List.getElem?_eq_getElem hj] at this
          simpa using this)
        rw [this, tz_zero]
      have HV := Lib.hid hv
      clear hv
      go_wp2
      go_ret
      exact ⟨by rw [HV.out]; rfl, _, rfl⟩

theorem bit_word (x i : Nat) : ((x / 2 ^ i) &&& 1 = 1) = (x.testBit i = true) := by
  rw [Nat.testBit_eq_decide_div_mod_eq]
  simp [Nat.and_one_is_mod]
theorem testBit_words (xs : List Nat) (h : W64 xs) (i : Nat) : (val xs).testBit i = (xs.getD (i / 64) 0).testBit (i % 64) := by
  have e1 := valb_drop_div B B_pos xs h (i / 64)
  have e2 : val (xs.drop (i / 64)) = xs.getD (i / 64) 0 + B * val (xs.drop (i / 64 + 1)) := by
    rcases Nat.lt_or_ge (i / 64) xs.length with hlt | hge
    · rw [List.drop_eq_getElem_cons hlt, List.getD_eq_getElem?_getD, List.getElem?_eq_getElem hlt]; rfl
    · rw [List.drop_eq_nil_of_le hge, List.drop_eq_nil_of_le (by omega), List.getD_eq_getElem?_getD, List.getElem?_eq_none hge]; rfl
  have e3 : val xs / B ^ (i / 64) = xs.getD (i / 64) 0 + B * val (xs.drop (i / 64 + 1)) := by rw [← e2]; exact e1.symm
  have h5 : (val xs).testBit i = (val xs / B ^ (i / 64)).testBit (i % 64) := by
    rw [B_two, ← Nat.pow_mul, Nat.testBit_div_two_pow, show i % 64 + 64 * (i / 64) = i by omega]
  rw [h5, e3, B_two, Nat.add_comm, Nat.mul_comm, ← Nat.shiftLeft_eq, Nat.shiftLeft_add_eq_or_of_lt (by rw [← B_two]; exact h.get _), Nat.testBit_or, Nat.testBit_shiftLeft]
  have := Nat.mod_lt i (show 64 > 0 by omega)
  simp only [show decide (i % 64 ≥ 64) = false by simp; omega, Bool.false_and, Bool.false_or]
end Go.Proofs.YtlnfmngginihfaaGreatDoor
