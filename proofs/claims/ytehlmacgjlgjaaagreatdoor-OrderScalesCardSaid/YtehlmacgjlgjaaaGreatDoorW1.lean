/- package wide: view, Trim, Word, Zero, Len, Cmp, Trailing, Add, Sub: what each call hands back, by the numbers' values. -/
import Derived.Test.YtehlmacgjlgjaaaGreatDoorBits
set_option linter.unusedVariables false
set_option linter.unusedSimpArgs false
namespace Go.Proofs.YtehlmacgjlgjaaaGreatDoor
open Go.RowKit

theorem Rd.view {w : World} {A : Option Addr} {c : Nat} {xs : List Nat} (h : Rd w A c xs) : Rd w A (cn (val xs)).length (cn (val xs)) := by
  rw [cn_topN xs h.w64]
  have := topN_le xs
  exact h.take _ this (by rw [List.length_take]; omega)
theorem cn_val_le {xs : List Nat} (h : W64 xs) : (cn (val xs)).length ≤ xs.length := by rw [← topN_eq_len xs h]; exact topN_le xs
set_option maxHeartbeats 400000 in
theorem view_c (A : Option Addr) (c : Nat) (xs : List Nat) (w : World) (h : Rd w A c xs) :
    Calls Tryz.prog 60 #[.slice A xs.length c] w fun e w' => e = .returned (.slice A (cn (val xs)).length (cn (val xs)).length) ∧ ∃ n, w' = w.drewN n := by
  have hl := h.len
  have hc := h.cap
  rw [← topN_eq_len xs h.w64]
  have ht := topN_le xs
  go_enter Tryz.func60, Tryz.ntmps60
  go_wp2
  go_loopw [3] (fun v wr => ∃ k : Nat, k ≤ xs.length ∧ topN xs ≤ k ∧ v = .int .i64 k ∧ ∃ n, wr = w.drewN n) (fun v _ => (intOf v).toNat)
  case atStart => exact ⟨xs.length, Nat.le_refl _, ht, rfl, 0, rfl⟩
  case round =>
    obtain ⟨k, hk, htk, rfl, n, rfl⟩ := hrel
    by_cases h0 : 0 < k
    · obtain ⟨ad, rfl, hcell⟩ := h.cell (k - 1) (by omega)
      have hidx : ((k : Int) - 1) = ((k - 1 : Nat) : Int) := by omega
      by_cases hz : xs.getD (k - 1) 0 = 0
      · have hne : topN xs ≠ k := fun e => topN_last xs (by omega) (by rw [e]; exact hz)
        rw [hz] at hcell
        go_wp2
        go_roundw
        case rel => exact ⟨k - 1, by omega, by omega, rfl, _, rfl⟩
        case measure => simp [intOf]; omega
      · have hne : topN xs = k := by
          rcases Nat.lt_or_ge (k - 1) (topN xs) with h1 | h1
          · omega
          · exact absurd (topN_zero xs _ h1) hz
        have HN := Lib.hid hne
        clear htk hne
        generalize xs.getD (k - 1) 0 = v at hcell hz
        have hzb : (((v : Nat) : Int) == 0) = false := by rw [beq_eq_false_iff_ne]; omega
        go_wp2
        go_ret
        exact ⟨by rw [HN.out]; rfl, _, rfl⟩
    · obtain rfl : k = 0 := by omega
      have h1 : topN xs = 0 := by omega
      have HN := Lib.hid h1
      clear htk h1
      go_wp2
      go_ret
      exact ⟨by rw [HN.out]; rfl, _, rfl⟩

theorem small_len {xs : List Nat} (h : xs.length ≤ 9223372036854775807) (k : Nat) (_ : k ≤ xs.length) : (k : Int) ≤ 9223372036854775807 := by omega
set_option maxHeartbeats 400000 in
theorem trim_c (A : Option Addr) (c : Nat) (xs : List Nat) (w : World) (h : Rd w A c xs) (hs : xs.length ≤ 1099511627776) :
    Calls Tryz.prog 98 #[.slice A xs.length c] w (Res w (cn (val xs))) := by
  have hv := h.view
  have hl := cn_val_le h.w64
  have h1 := view_c A c xs w h
  generalize cn (val xs) = ys at hv hl h1
  by_cases h0 : ys.length = 0
  · have e := List.eq_nil_of_length_eq_zero h0
    subst e
    go_enter Tryz.func98, Tryz.ntmps98
    go_wp2_with (go_at_call 60; refine h1.mono ?_; rintro e w1 ⟨rfl, n, rfl⟩)
    go_ret
    exact ⟨_, rfl, Own.nil _ _, (Ext.refl w).drewN n⟩
  · have h0' : 0 < ys.length := by omega
    go_enter Tryz.func98, Tryz.ntmps98
    go_wp2_with (first
      | (go_at_call 60; refine h1.mono ?_; rintro e w1 ⟨rfl, n, rfl⟩)
      | (at_builtin; refine wp_append rfl _ _ _ rfl Tryz.underlying27 w.heap.size _ [] rfl ⟨World.ownsRow_lit _ #[] 0 (by simp) (by simp [maxLen]) rfl, W64.nil⟩ A ys.length ys.length ys rfl rfl ((hv.drewN n).ext ((Ext.refl _).al _)) (by simp) (by simp; omega) ?_; intro v' w' ho hb hat hg))
    go_ret
    exact ⟨_, rfl, ho, Below.trans (((Ext.refl w).drewN n).al _) hb⟩

end Go.Proofs.YtehlmacgjlgjaaaGreatDoor
