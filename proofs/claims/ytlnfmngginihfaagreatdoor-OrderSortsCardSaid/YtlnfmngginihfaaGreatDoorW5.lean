/- package wide: Add, Sub. package wide: Sub, Bit. -/
import Derived.Test.YtlnfmngginihfaaGreatDoorW3
set_option linter.unusedVariables false
set_option linter.unusedSimpArgs false
namespace Go.Proofs.YtlnfmngginihfaaGreatDoor
open Go.RowKit

/-- What holds at the head of the round of a sum with a carry. -/
def AddI (w : World) (g : Nat) (X Y : List Nat) (v6 v22 : Value) (wr : World) : Prop := ∃ (i cy : Nat) (o : List Nat), i ≤ X.length ∧ v22 = .int .i64 i ∧ v6 = .int .u64 cy ∧ cy ≤ 1 ∧ Bk wr g o ∧
  o.length = X.length + 1 ∧ val o + B ^ i * cy = val (X.take i) + val (Y.take i) ∧ (∀ j, i ≤ j → o.getD j 0 = 0) ∧ Ext w wr
theorem val_take_past (xs : List Nat) (k : Nat) : val (xs.take (k + 1)) = val (xs.take k) + B ^ k * xs.getD k 0 := by
  rcases Nat.lt_or_ge k xs.length with h | h
  · exact valb_take B xs k h
  · rw [List.take_of_length_le (by omega), List.take_of_length_le h, List.getD_eq_getElem?_getD, List.getElem?_eq_none h]; simp
theorem AddI.step {w wr : World} {g : Nat} {X Y : List Nat} {i cy : Nat} {o : List Nat} (hi : i < X.length) (hc : cy ≤ 1) (hX : W64 X) (hY : W64 Y) (hb : Bk wr g o) (hl : o.length = X.length + 1)
    (hv : val o + B ^ i * cy = val (X.take i) + val (Y.take i)) (h0 : ∀ j, i ≤ j → o.getD j 0 = 0) (he : Ext w wr) (hg : w.heap.size ≤ g) (x y : Nat) (hx : X.getD i 0 = x) (hy : Y.getD i 0 = y) (v22 : Value) (h22 : v22 = .int .i64 ((i + 1 : Nat) : Int)) :
    AddI w g X Y (.int .u64 (((x + y + cy) / B : Nat) : Int)) v22 (wr.setCell ⟨g, i, none⟩ (.int .u64 (((x + y + cy) % B : Nat) : Int))) := by
  subst hx hy
  refine ⟨i + 1, _, _, hi, h22, rfl, carry_le (hX.get i) (hY.get i) hc, hb.set i _ (mod_B_lt _), by rw [List.length_set]; exact hl, ?_, fun j hj => ?_, he.set hg _ _⟩
  · rw [val_set_zero o i _ (by omega) (h0 i (Nat.le_refl _)), val_take_past X i, val_take_past Y i]
    have e := carry_step (X.getD i 0) (Y.getD i 0) cy
    generalize (X.getD i 0 + Y.getD i 0 + cy) / B = q at *
    generalize (X.getD i 0 + Y.getD i 0 + cy) % B = r at *
    have e2 : B ^ i * (r + B * q) = B ^ i * (X.getD i 0 + Y.getD i 0 + cy) := by rw [e]
    rw [Nat.pow_succ, Nat.mul_assoc]
    simp only [Nat.mul_add] at e2
    omega
  · rw [getD_set o i j _ (by omega), if_neg (by omega)]; exact h0 j (by omega)
set_option maxHeartbeats 1000000 in
set_option maxRecDepth 100000 in
theorem add_core (sw : Bool) (A A' : Option Addr) (c c' : Nat) (X Y : List Nat) (w : World) (h : Rd w A c X) (h' : Rd w A' c' Y) (hlen : Y.length ≤ X.length) (hsw : sw = true → Y.length < X.length) (hs : X.length ≤ 1000000000) :
    Calls Tryz.prog 44 (if sw = true then #[.slice A' Y.length c', .slice A X.length c] else #[.slice A X.length c, .slice A' Y.length c']) w (Res w (cn (val X + val Y))) := by
  have hX := h.w64
  have hY := h'.w64
  have hb : decide (X.length < Y.length) = false := by simp; omega
  have hb2 : sw = true → decide (Y.length < X.length) = true := fun e => by have := hsw e; simp; omega
  clear hsw
  cases sw
  all_goals
    first | (replace hb2 := hb2 rfl) | clear hb2
    simp only [Bool.false_eq_true, ↓reduceIte]
    go_enter Tryz.func44, Tryz.ntmps44
    go_wp2_with (at_make; refine wp_make rfl _ _ _ rfl Tryz.underlying38 (X.length + 1) _ rfl rfl (by omega) (by omega) ?_; intro g w1 hg hbk hb1)
    have HBK := Lib.hid hbk
    have HG := Lib.hid hg
    clear hbk hg
    go_loopw [6, 22] (fun v6 v22 wr => AddI w g X Y v6 v22 wr) (fun _ v _ => X.length - (intOf v).toNat)
    case atStart => exact ⟨0, 0, _, Nat.zero_le _, rfl, rfl, by omega, HBK.out, by simp, by rw [show val (List.replicate (X.length + 1) 0) = 0 from valb_zeros _ _]; simp [val, valb], fun j _ => getD_replicate _ _, hb1⟩
    case round =>
      obtain ⟨i, cy, o, hi, rfl, rfl, hc, hbk, hl, hv, h0, he⟩ := hrel
      have HV := Lib.hid hv
      have H0 := Lib.hid h0
      have HL := Lib.hid hl
      clear hv h0 hl
      by_cases hlt : i < X.length
      · have hcell := hbk.cell i (by rw [HL.out]; omega)
        rw [H0.out i (Nat.le_refl _)] at hcell
        have hfz := hbk.frozen i
        obtain ⟨ad, rfl, hx⟩ := h.cell i hlt
        have hx' := he.cell hx
        clear hx
        obtain ⟨x, hx⟩ : ∃ x, X.getD i 0 = x := ⟨_, rfl⟩
        obtain ⟨y, hy⟩ : ∃ y, Y.getD i 0 = y := ⟨_, rfl⟩
        have hstep := fun v22 h22 => AddI.step hlt hc hX hY hbk HL.out HV.out H0.out he HG.out x y hx hy v22 h22
        have HS := Lib.hid hstep
        have ha := run_a64 x y cy hc
        rw [hx] at hx'
        clear hstep hx hc
        by_cases hlt2 : i < Y.length
        · obtain ⟨ad', rfl, hyc⟩ := h'.cell i hlt2
          have hy' := he.cell hyc
          rw [hy] at hy'
          clear hyc hy
          go_wp2_with (simp only [ha])
          go_roundw
          case rel => exact HS.out _ (by go_num)
          case measure => simp [intOf]; omega
        · have y0 : y = 0 := by rw [← hy, List.getD_eq_getElem?_getD, List.getElem?_eq_none (by omega)]; rfl
          subst y0
          clear hy
          have ha0 : ∀ w, (callFunc 68 #[.int .u64 (x : Int), .int .u64 0, .int .u64 (cy : Int)]).run Tryz.prog w = _ := ha
          clear ha
          go_wp2_with (simp only [ha0])
          go_roundw
          case rel => exact HS.out _ (by go_num)
          case measure => simp [intOf]; omega
      · obtain rfl : i = X.length := by omega
        have hcell := hbk.cell X.length (by rw [HL.out]; omega)
        rw [H0.out _ (Nat.le_refl _)] at hcell
        have hfz := hbk.frozen X.length
        have hcB : cy < B := by have := two_le_B; omega
        have hb2 := hbk.set X.length cy hcB
        have hval : val (o.set X.length cy) = val X + val Y := by
          have e := val_set_zero o X.length cy (by rw [HL.out]; omega) (H0.out _ (Nat.le_refl _))
          have e2 := HV.out
          rw [List.take_length, List.take_of_length_le hlen] at e2
          omega
        have hrd : Rd _ _ (X.length + 1) (o.set X.length cy) := hb2.rd (by rw [List.length_set, HL.out]; omega) (by rw [List.length_set, HL.out]; omega)
        have htr := trim_c _ _ _ _ hrd (by rw [List.length_set, HL.out]; omega)
        rw [List.length_set, HL.out, hval] at htr
        have HT := Lib.hid htr
        clear hrd hval htr hb2
        go_wp2_with (go_at_call 69; refine HT.out.mono ?_; rintro e w2 ⟨v, rfl, ho, hb2⟩)
        go_ret
        have he2 := he.set HG.out X.length (.int .u64 (cy : Int))
        exact ⟨_, rfl, ho.low he2.size, he2.tr hb2⟩
theorem add_c (A A' : Option Addr) (c c' : Nat) (xs ys : List Nat) (w : World) (h : Rd w A c xs) (h' : Rd w A' c' ys) (hs : xs.length ≤ 1000000000) (hs' : ys.length ≤ 1000000000) :
    Calls Tryz.prog 44 #[.slice A xs.length c, .slice A' ys.length c'] w (Res w (cn (val xs + val ys))) := by
  rcases Nat.lt_or_ge xs.length ys.length with hlt | hge
  · have := add_core true A' A c' c ys xs w h' h (by omega) (fun _ => hlt) hs'
    rw [Nat.add_comm]; exact this
  · exact add_core false A A' c c' xs ys w h h' hge (fun e => by cases e) hs
end Go.Proofs.YtlnfmngginihfaaGreatDoor
namespace Go.Proofs.YtlnfmngginihfaaGreatDoor
open Go.RowKit

/-- What holds at the head of the round of a difference with a borrow. -/
def SubI (w : World) (g : Nat) (X Y : List Nat) (v6 v18 : Value) (wr : World) : Prop := ∃ (i bw : Nat) (o : List Nat), i ≤ X.length ∧ v18 = .int .i64 i ∧ v6 = .int .u64 bw ∧ bw ≤ 1 ∧ Bk wr g o ∧
  o.length = X.length ∧ val o + val (Y.take i) = val (X.take i) + B ^ i * bw ∧ (∀ j, i ≤ j → o.getD j 0 = 0) ∧ Ext w wr
theorem SubI.step {w wr : World} {g : Nat} {X Y : List Nat} {i bw : Nat} {o : List Nat} (hi : i < X.length) (hc : bw ≤ 1) (hX : W64 X) (hY : W64 Y) (hb : Bk wr g o) (hl : o.length = X.length)
    (hv : val o + val (Y.take i) = val (X.take i) + B ^ i * bw) (h0 : ∀ j, i ≤ j → o.getD j 0 = 0) (he : Ext w wr) (hg : w.heap.size ≤ g) (x y : Nat) (hx : X.getD i 0 = x) (hy : Y.getD i 0 = y) (v18 : Value) (h18 : v18 = .int .i64 ((i + 1 : Nat) : Int)) :
    SubI w g X Y (.int .u64 ((brw x y bw : Nat) : Int)) v18 (wr.setCell ⟨g, i, none⟩ (.int .u64 (((x + B - y - bw) % B : Nat) : Int))) := by
  subst hx hy
  refine ⟨i + 1, _, _, hi, h18, rfl, brw_le _ _ _, hb.set i _ (mod_B_lt _), by rw [List.length_set]; exact hl, ?_, fun j hj => ?_, he.set hg _ _⟩
  · rw [val_set_zero o i _ (by omega) (h0 i (Nat.le_refl _)), val_take_past X i, val_take_past Y i]
    have e := borrow_step (hX.get i) (hY.get i) hc
    generalize brw (X.getD i 0) (Y.getD i 0) bw = q at *
    generalize (X.getD i 0 + B - Y.getD i 0 - bw) % B = r at *
    have e2 : B ^ i * (r + Y.getD i 0 + bw) = B ^ i * (X.getD i 0 + B * q) := by rw [e]
    rw [Nat.pow_succ, Nat.mul_assoc]
    simp only [Nat.mul_add] at e2
    omega
  · rw [getD_set o i j _ (by omega), if_neg (by omega)]; exact h0 j (by omega)
theorem cn_len_mono {m n : Nat} (h : m ≤ n) : (cn m).length ≤ (cn n).length := (cn_len_le m _).2 (Nat.lt_of_le_of_lt h ((cn_len_le n _).1 (Nat.le_refl _)))
set_option maxHeartbeats 1000000 in
set_option maxRecDepth 100000 in
theorem sub_c (A A' : Option Addr) (c c' : Nat) (xs ys : List Nat) (w : World) (h : Rd w A c xs) (h' : Rd w A' c' ys) (hle : val ys ≤ val xs) (hs : xs.length ≤ 1000000000) :
    Calls Tryz.prog 45 #[.slice A xs.length c, .slice A' ys.length c'] w (Res w (cn (val xs - val ys))) := by
  have h1 := view_c A c xs w h
  have h2 := fun n => view_c A' c' ys (w.drewN n) (h'.drewN n)
  have hl1 := cn_val_le h.w64
  have r1 := h.view
  have r2 := h'.view
  have hlen := cn_len_mono hle
  have e1 := val_cn (val xs)
  have e2 := val_cn (val ys)
  generalize val xs = m at *
  generalize val ys = n at *
  generalize cn m = X at *
  generalize cn n = Y at *
  have hX := r1.w64
  have hY := r2.w64
  have E1 := Lib.hid e1
  have E2 := Lib.hid e2
  clear e1 e2
  go_enter Tryz.func45, Tryz.ntmps45
  go_wp2_with fail
  refine h1.mono ?_; rintro e w1 ⟨rfl, k, rfl⟩
  go_wp2_with fail
  refine (h2 _).mono ?_; rintro e w1 ⟨rfl, k', rfl⟩
  go_wp2_with (at_make; refine wp_make rfl _ _ _ rfl Tryz.underlying38 X.length _ rfl rfl (by omega) (by omega) ?_; intro g w1 hg hbk hb1)
  have HBK := Lib.hid hbk
  have HG := Lib.hid (show w.heap.size ≤ g from hg)
  have HB1 := Lib.hid (((Ext.refl w).drewN _).tr hb1)
  clear hbk hg h1 h2 hb1
  go_loopw [6, 18] (fun v6 v22 wr => SubI w g X Y v6 v22 wr) (fun _ v _ => X.length - (intOf v).toNat)
  case atStart => exact ⟨0, 0, _, Nat.zero_le _, rfl, rfl, by omega, HBK.out, by simp, by rw [show val (List.replicate X.length 0) = 0 from valb_zeros _ _]; simp [val, valb], fun j _ => getD_replicate _ _, HB1.out⟩
  case round =>
    obtain ⟨i, bw, o, hi, rfl, rfl, hc, hbk, hl, hv, h0, he⟩ := hrel
    have HV := Lib.hid hv
    have H0 := Lib.hid h0
    have HL := Lib.hid hl
    clear hv h0 hl
    by_cases hlt : i < X.length
    · have hcell := hbk.cell i (by rw [HL.out]; omega)
      rw [H0.out i (Nat.le_refl _)] at hcell
      have hfz := hbk.frozen i
      obtain ⟨ad, rfl, hx⟩ := r1.cell i hlt
      have hx' := he.cell hx
      clear hx
      obtain ⟨x, hx⟩ : ∃ x, X.getD i 0 = x := ⟨_, rfl⟩
      obtain ⟨y, hy⟩ : ∃ y, Y.getD i 0 = y := ⟨_, rfl⟩
      have hstep := fun v22 h22 => SubI.step hlt hc hX hY hbk HL.out HV.out H0.out he HG.out x y hx hy v22 h22
      have HS := Lib.hid hstep
      have ha := run_s64 x y bw hc
      rw [hx] at hx'
      clear hstep hx hc
      by_cases hlt2 : i < Y.length
      · obtain ⟨ad', rfl, hyc⟩ := r2.cell i hlt2
        have hy' := he.cell hyc
        rw [hy] at hy'
        clear hyc hy
        go_wp2_with (simp only [ha])
        go_roundw
        case rel => exact HS.out _ (by go_num)
        case measure => simp [intOf]; omega
      · have y0 : y = 0 := by rw [← hy, List.getD_eq_getElem?_getD, List.getElem?_eq_none (by omega)]; rfl
        subst y0
        clear hy
        have ha0 : ∀ w, (callFunc 71 #[.int .u64 (x : Int), .int .u64 0, .int .u64 (bw : Int)]).run Tryz.prog w = _ := ha
        clear ha
        go_wp2_with (simp only [ha0])
        go_roundw
        case rel => exact HS.out _ (by go_num)
        case measure => simp [intOf]; omega
    · obtain rfl : i = X.length := by omega
      have hval : val o = m - n := by
        have e := HV.out
        rw [List.take_length, List.take_of_length_le hlen, E1.out, E2.out] at e
        have hlt3 := val_lt hbk.w64
        rw [HL.out] at hlt3
        rcases Nat.eq_zero_or_pos bw with hz | hz
        · rw [hz, Nat.mul_zero] at e; omega
        · rw [show bw = 1 by omega, Nat.mul_one] at e; omega
      have hrd : Rd _ _ X.length o := hbk.rd (by rw [HL.out]; omega) (by rw [HL.out]; omega)
      have htr := trim_c _ _ _ _ hrd (by rw [HL.out]; omega)
      rw [HL.out, hval] at htr
      have HT := Lib.hid htr
      clear hrd hval htr
      go_wp2_with (go_at_call 69; refine HT.out.mono ?_; rintro e w2 ⟨v, rfl, ho, hb2⟩)
      go_ret
      exact ⟨_, rfl, ho.low he.size, he.tr hb2⟩

theorem shr_cast (x k : Nat) : (x : Int) / 2 ^ k = ((x / 2 ^ k : Nat) : Int) := by rw [Int.natCast_ediv, Int.natCast_pow]; rfl
theorem bit_at (x k : Nat) (hx : x < B) : (bits BinOp.and IntKind.u64 ((x : Int) / 2 ^ k) 1 == 1) = x.testBit k := by
  have h : x / 2 ^ k < B := Nat.lt_of_le_of_lt (Nat.div_le_self _ _) hx
  rw [shr_cast, show (1 : Int) = ((1 : Nat) : Int) from rfl, u64_and_nat _ _ h (by omega), nat_mask1, Nat.testBit_eq_decide_div_mod_eq, Bool.eq_iff_iff, beq_iff_eq, decide_eq_true_iff]
  omega
set_option maxHeartbeats 1000000 in
theorem bit_c (A : Option Addr) (c : Nat) (xs : List Nat) (i : Nat) (w : World) (h : Rd w A c xs) (hi : i ≤ 1000000000) :
    Calls Tryz.prog 72 #[.slice A xs.length c, .int .i64 i] w fun e w' => e = .returned (.bool ((val xs).testBit i)) ∧ ∃ n, w' = w.drewN n := by
  have ht := testBit_words xs h.w64 i
  have hl := h.len
  have HT := Lib.hid ht
  clear ht
  by_cases hlt : i / 64 < xs.length
  · obtain ⟨ad, rfl, hc⟩ := h.cell (i / 64) hlt
    have hx : xs.getD (i / 64) 0 < B := h.w64.get _
    generalize xs.getD (i / 64) 0 = x at *
    go_enter Tryz.func72, Tryz.ntmps72
    go_wp2
    go_ret
    exact ⟨by rw [HT.out, ← bit_at x _ hx]; rfl, 0, rfl⟩
  · have hz : (val xs).testBit i = false := by
      rw [HT.out, List.getD_eq_getElem?_getD, List.getElem?_eq_none (by omega)]; simp
    have HZ := Lib.hid hz
    clear HT hz
    go_enter Tryz.func72, Tryz.ntmps72
    go_wp2
    go_ret
    exact ⟨by rw [HZ.out]; rfl, 0, rfl⟩
end Go.Proofs.YtlnfmngginihfaaGreatDoor
