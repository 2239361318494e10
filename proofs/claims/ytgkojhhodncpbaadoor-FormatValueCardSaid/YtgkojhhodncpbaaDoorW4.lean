/- package wide: Add, Sub. -/
import Derived.Test.YtgkojhhodncpbaaDoorW3
set_option linter.unusedVariables false
set_option linter.unusedSimpArgs false
namespace Go.Proofs.YtgkojhhodncpbaaDoor
open Go.RowKit

/-- What holds at the head of the round of a sum with a carry. -/
def AddI (w : World) (g : Nat) (X Y : List Nat) (v6 v22 : Value) (wr : World) : Prop := ∃ (i cy : Nat) (o : List Nat), i ≤ X.length ∧ v22 = .int .i64 i ∧ v6 = .int .u64 cy ∧ cy ≤ 1 ∧ Bk wr g o ∧
  o.length = X.length + 1 ∧ val o + B ^ i * cy = val (X.take i) + val (Y.take i) ∧ (∀ j, i ≤ j → o.getD j 0 = 0) ∧ Ext w wr
theorem val_take_past (xs : List Nat) (k : Nat) : val (xs.take (k + 1)) = val (xs.take k) + B ^ k * xs.getD k 0 := by
  rcases Nat.lt_or_ge k xs.length with h | h
  · exact valb_take B xs k h
  · rw [List.take_of_length_le (by omega), List.take_of_length_le h, List.getD_eq_getElem?_getD, List.getElem?_eq_none h]; simp
theorem AddI.step {w wr : World} {g : Nat} {X Y : List Nat} {i cy : Nat} {o : List Nat} (hi : i < X.length) (hc : cy ≤ 1) (hX : W64 X) (hY : W64 Y) (hb : Bk wr g o) (hl : o.length = X.length + 1)
    (hv : val o + B ^ i * cy = val (X.take i) + val (Y.take i)) (h0 : ∀ j, i ≤ j → o.getD j 0 = 0) (he : Ext w wr) (hg : w.heap.size ≤ g) (x y : Nat) (hx : X.getD i 0 = x) (hy : Y.getD i 0 = y) (v22 : Value) (h22 : v22 = .int .i64 ((i + 1 : Nat) : Int)) :
    AddI w g X Y (.int .u64 (((x + y + cy) / B : Nat) : Int)) v22 (wr.setCell ⟨g, i, none⟩ (.int .u64 (((x + y + cy) % B : Nat) : Int))) := by
  subst hx hy
  refine ⟨i + 1, _, _, hi, h22, rfl, carry_le (hX.get i) (hY.get i) hc, hb.set i _ (mod_B_lt _), by rw [List.length_set]; exact hl, ?_, fun j hj => ?_, he.set hg _ _⟩
  · rw [val_set_zero o i _ (by omega) (h0 i (Nat.le_refl _)), val_take_past X i, val_take_past Y i]
    have e := carry_step (X.getD i 0) (Y.getD i 0) cy
    generalize (X.getD i 0 + Y.getD i 0 + cy) / B = q at *
    generalize (X.getD i 0 + Y.getD i 0 + cy) % B = r at *
    have e2 : B ^ i * (r + B * q) = B ^ i * (X.getD i 0 + Y.getD i 0 + cy) := by rw [e]
    rw [Nat.pow_succ, Nat.mul_assoc]
    simp only [Nat.mul_add] at e2
    omega
  · rw [getD_set o i j _ (by omega), if_neg (by omega)]; exact h0 j (by omega)
set_option maxHeartbeats 1000000 in
set_option maxRecDepth 100000 in
theorem add_core (sw : Bool) (A A' : Option Addr) (c c' : Nat) (X Y : List Nat) (w : World) (h : Rd w A c X) (h' : Rd w A' c' Y) (hlen : Y.length ≤ X.length) (hsw : sw = true → Y.length < X.length) (hs : X.length ≤ 1000000000) :
    Calls Tryd.prog 70 (if sw = true then #[.slice A' Y.length c', .slice A X.length c] else #[.slice A X.length c, .slice A' Y.length c']) w (Res w (cn (val X + val Y))) := by
  have hX := h.w64
  have hY := h'.w64
  have hb : decide (X.length < Y.length) = false := by simp; omega
  have hb2 : sw = true → decide (Y.length < X.length) = true := fun e => by have := hsw e; simp; omega
  clear hsw
  cases sw
  all_goals
    first | (replace hb2 := hb2 rfl) | clear hb2
    simp only [Bool.false_eq_true, ↓reduceIte]
    go_enter Tryd.func70, Tryd.ntmps70
    go_wp2_with (at_make; refine wp_make rfl _ _ _ rfl Tryd.underlying34 (X.length + 1) _ rfl rfl (by omega) (by omega) ?_; intro g w1 hg hbk hb1)
    have HBK := Lib.hid hbk
    have HG := Lib.hid hg
    clear hbk hg
    go_loopw [6, 22] (fun v6 v22 wr => AddI w g X Y v6 v22 wr) (fun _ v _ => X.length - (intOf v).toNat)
    case atStart => exact ⟨0, 0, _, Nat.zero_le _, rfl, rfl, by omega, HBK.out, by simp, by rw [show val (List.replicate (X.length + 1) 0) = 0 from valb_zeros _ _]; simp [val, valb], fun j _ => getD_replicate _ _, hb1⟩
    case round =>
      obtain ⟨i, cy, o, hi, rfl, rfl, hc, hbk, hl, hv, h0, he⟩ := hrel
      have HV := Lib.hid hv
      have H0 := Lib.hid h0
      have HL := Lib.hid hl
      clear hv h0 hl
      by_cases hlt : i < X.length
      · have hcell := hbk.cell i (by rw [HL.out]; omega)
        rw [H0.out i (Nat.le_refl _)] at hcell
        have hfz := hbk.frozen i
        obtain ⟨ad, rfl, hx⟩ := h.cell i hlt
        have hx' := he.cell hx
        clear hx
        obtain ⟨x, hx⟩ : ∃ x, X.getD i 0 = x := ⟨_, rfl⟩
        obtain ⟨y, hy⟩ : ∃ y, Y.getD i 0 = y := ⟨_, rfl⟩
        have hstep := fun v22 h22 => AddI.step hlt hc hX hY hbk HL.out HV.out H0.out he HG.out x y hx hy v22 h22
        have HS := Lib.hid hstep
        have ha := run_a64 x y cy hc
        rw [hx] at hx'
        clear hstep hx hc
        by_cases hlt2 : i < Y.length
        · obtain ⟨ad', rfl, hyc⟩ := h'.cell i hlt2
          have hy' := he.cell hyc
          rw [hy] at hy'
          clear hyc hy
          go_wp2_with (simp only [ha])
          go_roundw
          case rel => exact HS.out _ (by go_num)
          case measure => simp [intOf]; omega
        · have y0 : y = 0 := by rw [← hy, List.getD_eq_getElem?_getD, List.getElem?_eq_none (by omega)]; rfl
          subst y0
          clear hy
          have ha0 : ∀ w, (callFunc 110 #[.int .u64 (x : Int), .int .u64 0, .int .u64 (cy : Int)]).run Tryd.prog w = _ := ha
          clear ha
          go_wp2_with (simp only [ha0])
          go_roundw
          case rel => exact HS.out _ (by go_num)
          case measure => simp [intOf]; omega
      · obtain rfl : i = X.length := by omega
        have hcell := hbk.cell X.length (by rw [HL.out]; omega)
        rw [H0.out _ (Nat.le_refl _)] at hcell
        have hfz := hbk.frozen X.length
        have hcB : cy < B := by have := two_le_B; omega
        have hb2 := hbk.set X.length cy hcB
        have hval : val (o.set X.length cy) = val X + val Y := by
          have e := val_set_zero o X.length cy (by rw [HL.out]; omega) (H0.out _ (Nat.le_refl _))
          have e2 := HV.out
          rw [List.take_length, List.take_of_length_le hlen] at e2
          omega
        have hrd : Rd _ _ (X.length + 1) (o.set X.length cy) := hb2.rd (by rw [List.length_set, HL.out]; omega) (by rw [List.length_set, HL.out]; omega)
        have htr := trim_c _ _ _ _ hrd (by rw [List.length_set, HL.out]; omega)
        rw [List.length_set, HL.out, hval] at htr
        have HT := Lib.hid htr
        clear hrd hval htr hb2
        go_wp2_with (go_at_call 94; refine HT.out.mono ?_; rintro e w2 ⟨v, rfl, ho, hb2⟩)
        go_ret
        have he2 := he.set HG.out X.length (.int .u64 (cy : Int))
        exact ⟨_, rfl, ho.low he2.size, he2.tr hb2⟩
theorem add_c (A A' : Option Addr) (c c' : Nat) (xs ys : List Nat) (w : World) (h : Rd w A c xs) (h' : Rd w A' c' ys) (hs : xs.length ≤ 1000000000) (hs' : ys.length ≤ 1000000000) :
    Calls Tryd.prog 70 #[.slice A xs.length c, .slice A' ys.length c'] w (Res w (cn (val xs + val ys))) := by
  rcases Nat.lt_or_ge xs.length ys.length with hlt | hge
  · have := add_core true A' A c' c ys xs w h' h (by omega) (fun _ => hlt) hs'
    rw [Nat.add_comm]; exact this
  · exact add_core false A A' c c' xs ys w h h' hge (fun e => by cases e) hs
end Go.Proofs.YtgkojhhodncpbaaDoor
