/- package wide: Word, Zero, Len, Cmp, Trailing. -/
import Derived.Test.YtgkojhhodncpbaaDoorW1
set_option linter.unusedVariables false
set_option linter.unusedSimpArgs false
namespace Go.Proofs.YtgkojhhodncpbaaDoor
open Go.RowKit

theorem Rd.new1 (w : World) (x : Nat) (hx : x < B) : Rd (w.alloc (.cells #[.int .u64 (x : Int)] 70)) (some ⟨w.heap.size, 0, none⟩) 1 [x] :=
  Bk.rd (xs := [x]) ⟨heap_alloc_new w _, W64.cons hx W64.nil⟩ (by simp) (by simp)
theorem val_one (x : Nat) : val [x] = x := by simp [val, valb]
set_option maxHeartbeats 400000 in
theorem word_c (x : Nat) (w : World) (hx : x < B) : Calls Tryd.prog 79 #[.int .u64 (x : Int)] w (Res w (cn x)) := by
  go_enter Tryd.func79, Tryd.ntmps79
  go_wp2_with (go_at_call 94; refine (trim_c _ _ [x] _ (Rd.new1 w x hx) (by simp)).mono ?_; rintro e w1 ⟨v, rfl, ho, hb⟩)
  go_ret
  rw [val_one] at ho
  exact ⟨_, rfl, ho.low (by simp), ((Ext.refl w).al _).tr hb⟩

set_option maxHeartbeats 400000 in
theorem zero_c (A : Option Addr) (c : Nat) (xs : List Nat) (w : World) (h : Rd w A c xs) :
    Calls Tryd.prog 69 #[.slice A xs.length c] w fun e w' => e = .returned (.bool (decide (val xs = 0))) ∧ ∃ n, w' = w.drewN n := by
  have h1 := view_c A c xs w h
  have hl := h.len
  have hl2 := cn_val_le h.w64
  have hz := cn_len_zero (val xs)
  generalize cn (val xs) = ys at h1 hl2 hz
  by_cases h0 : ys.length = 0
  · have e := List.eq_nil_of_length_eq_zero h0
    subst e
    have hv : decide (val xs = 0) = true := by simpa using hz.1 rfl
    have HV := Lib.hid hv
    clear hz h0 hv
    go_enter Tryd.func69, Tryd.ntmps69
    go_wp2_with (go_at_call 92; refine h1.mono ?_; rintro e w1 ⟨rfl, n, rfl⟩)
    go_ret
    exact ⟨by rw [HV.out]; rfl, _, rfl⟩
  · have hv : decide (val xs = 0) = false := by simpa using fun e => h0 (hz.2 e)
    have HV := Lib.hid hv
    have hb : ((ys.length : Int) == 0) = false := by rw [beq_eq_false_iff_ne]; omega
    clear hz h0 hv
    go_enter Tryd.func69, Tryd.ntmps69
    go_wp2_with (go_at_call 92; refine h1.mono ?_; rintro e w1 ⟨rfl, n, rfl⟩)
    go_ret
    exact ⟨by rw [HV.out]; rfl, _, rfl⟩

set_option maxHeartbeats 400000 in
theorem len_c (A : Option Addr) (c : Nat) (xs : List Nat) (w : World) (h : Rd w A c xs) (hs : xs.length ≤ 1099511627776) :
    Calls Tryd.prog 59 #[.slice A xs.length c] w fun e w' => e = .returned (.int .i64 (bl (val xs))) ∧ ∃ n, w' = w.drewN n := by
  have h1 := view_c A c xs w h
  have hl2 := cn_val_le h.w64
  have hv := h.view
  have hz := cn_len_zero (val xs)
  have hbl := bl_cn (val xs)
  have hw := W64.cn (val xs)
  generalize cn (val xs) = ys at h1 hl2 hz hbl hv hw
  by_cases h0 : ys.length = 0
  · have e := List.eq_nil_of_length_eq_zero h0
    subst e
    have e := hz.1 rfl
    have HV := Lib.hid e
    clear hz h0 hbl e
    go_enter Tryd.func59, Tryd.ntmps59
    go_wp2_with (go_at_call 92; refine h1.mono ?_; rintro e w1 ⟨rfl, n, rfl⟩)
    go_ret
    exact ⟨by rw [HV.out]; rfl, _, rfl⟩
  · have hb : ((ys.length : Int) == 0) = false := by rw [beq_eq_false_iff_ne]; omega
    have hp : 0 < val xs := by omega
    have e := hbl hp
    have HV := Lib.hid e
    clear hz hbl hp e
    obtain ⟨ad, rfl, hc⟩ := hv.cell (ys.length - 1) (by omega)
    have hx : ys.getD (ys.length - 1) 0 < B := hw.get _
    have hb64 := bl_lt_word hx
    generalize ys.getD (ys.length - 1) 0 = x at hc hx HV hb64
    have hidx : ((ys.length : Int) - 1) = ((ys.length - 1 : Nat) : Int) := by omega
    go_enter Tryd.func59, Tryd.ntmps59
    go_wp2_with (first
      | (go_at_call 92; refine h1.mono ?_; rintro e w1 ⟨rfl, n, rfl⟩)
      | (go_at_call 100; refine (len64 x _ hx).mono ?_; rintro e w1 ⟨rfl, rfl⟩))
    go_ret
    exact ⟨by rw [HV.out]; exact congrArg (fun z => Ending.returned (Value.int .i64 z)) (by omega), _, rfl⟩
end Go.Proofs.YtgkojhhodncpbaaDoor
