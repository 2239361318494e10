/- package wide: Shl, Shr. package wide: Shr. -/
import Derived.Test.YtlnfmngginihfaaGreatDoorW5
import Derived.BigRegion
set_option linter.unusedVariables false
set_option linter.unusedSimpArgs false
namespace Go.Proofs.YtlnfmngginihfaaGreatDoor
open Go.RowKit

theorem or_shl (a x r : Nat) (ha : a < 2 ^ r) (hx : x < B) (hr : r < 64) : bits BinOp.or IntKind.u64 (a : Int) (IntKind.u64.wrap ((x : Int) * 2 ^ r)) = ((a + x * 2 ^ r % B : Nat) : Int) := by
  have e1 : IntKind.u64.wrap ((x : Int) * 2 ^ r) = ((x * 2 ^ r % B : Nat) : Int) := by
    rw [IntKind.wrap_u64, Int.natCast_emod, Int.natCast_mul, Int.natCast_pow, B_eq]; rfl
  have h2 : 2 ^ r ≤ 2 ^ 64 := Nat.pow_le_pow_right (by omega) (by omega)
  rw [e1, u64_or_nat _ _ (by rw [← B_eq, B_two]; omega) (mod_B_lt _), Nat.or_comm, nat_join r _ _ (shl_low_mod x r (by omega)) ha, Nat.add_comm]
theorem or_shl_lt (a x r : Nat) (ha : a < 2 ^ r) (hr : r < 64) : a + x * 2 ^ r % B < B := by
  have h1 := shl_low_mod x r (by omega)
  have h2 := mod_B_lt (x * 2 ^ r)
  have e : B = 2 ^ r * 2 ^ (64 - r) := by rw [B_two, ← Nat.pow_add]; congr 1; omega
  obtain ⟨q, hq⟩ := Nat.dvd_of_mod_eq_zero h1
  rw [hq] at h2 ⊢
  rw [e] at h2 ⊢
  have h3 : q + 1 ≤ 2 ^ (64 - r) := Nat.lt_of_mul_lt_mul_left h2
  have h4 : 2 ^ r * (q + 1) ≤ 2 ^ r * 2 ^ (64 - r) := Nat.mul_le_mul_left _ h3
  rw [Nat.mul_add] at h4; omega
/-- What holds at the head of the round of a shift to the left. -/
def ShlI (w : World) (g : Nat) (X : List Nat) (s : Nat) (v22 : Value) (wr : World) : Prop := ∃ (i : Nat) (o : List Nat), i ≤ X.length ∧ v22 = .int .i64 i ∧ Bk wr g o ∧
  o.length = X.length + s / 64 + 1 ∧ val o = val (X.take i) * 2 ^ s ∧ (∀ j, i + s / 64 < j → o.getD j 0 = 0) ∧ o.getD (i + s / 64) 0 < 2 ^ (s % 64) ∧ Ext w wr
theorem pow_split (s : Nat) : 2 ^ s = B ^ (s / 64) * 2 ^ (s % 64) := by
  rw [B_two, ← Nat.pow_mul, ← Nat.pow_add, Nat.div_add_mod]
theorem shl_val {X o : List Nat} {s i a x : Nat} (hi : i < X.length) (hl : i + s / 64 < o.length) (hv : val o = val (X.take i) * 2 ^ s) (ha : o.getD (i + s / 64) 0 = a) (hx : X.getD i 0 = x) :
    val (o.set (i + s / 64) (a + x * 2 ^ (s % 64) % B)) = val (X.take i) * 2 ^ s + B ^ (i + s / 64) * (x * 2 ^ (s % 64) % B) := by
  have h := val_set o (i + s / 64) (a + x * 2 ^ (s % 64) % B) hl
  rw [ha, hv, Nat.mul_add] at h; omega
theorem shl_next {X : List Nat} {s i x : Nat} (hi : i < X.length) (hx : X.getD i 0 = x) : val (X.take (i + 1)) * 2 ^ s = val (X.take i) * 2 ^ s + B ^ (i + s / 64) * (x * 2 ^ (s % 64)) := by
  rw [val_take_past, hx, Nat.add_mul, pow_split s, Nat.pow_add]
  simp only [Nat.mul_assoc, Nat.mul_left_comm]
theorem ShlI.step0 {w wr : World} {g : Nat} {X : List Nat} {s i a x v : Nat} {o : List Nat} (hr : s % 64 = 0) (hi : i < X.length) (hX : W64 X) (hb : Bk wr g o) (hl : o.length = X.length + s / 64 + 1) (hv : val o = val (X.take i) * 2 ^ s)
    (h0 : ∀ j, i + s / 64 < j → o.getD j 0 = 0) (hlow : o.getD (i + s / 64) 0 < 2 ^ (s % 64)) (he : Ext w wr) (hg : w.heap.size ≤ g) (hx : X.getD i 0 = x) (ha : o.getD (i + s / 64) 0 = a) (e : a + x * 2 ^ (s % 64) % B = v) :
    ShlI w g X s (.int .i64 ((i + 1 : Nat) : Int)) ((wr.setCell ⟨g, i + s / 64, none⟩ (.int .u64 (v : Int))).drew) := by
  have hxB : x < B := by rw [← hx]; exact hX.get i
  have hvB : v < B := by rw [← e]; exact or_shl_lt a x _ (by rw [← ha]; exact hlow) (by omega)
  refine ⟨i + 1, _, hi, rfl, (hb.set _ _ hvB).drew, by rw [List.length_set]; exact hl, ?_, fun j hj => ?_, ?_, (he.set hg _ _).drew⟩
  · rw [← e, shl_val hi (by omega) hv ha hx, shl_next hi hx, hr, Nat.pow_zero, Nat.mul_one, Nat.mod_eq_of_lt hxB]
  · rw [getD_set o _ j _ (by omega), if_neg (by omega)]; exact h0 j (by omega)
  · rw [getD_set o _ _ _ (by omega), if_neg (by omega), h0 _ (by omega)]; exact Nat.pow_pos (by omega)
theorem ShlI.step1 {w wr : World} {g : Nat} {X : List Nat} {s i a x v u : Nat} {o : List Nat} (hr : 0 < s % 64) (hi : i < X.length) (hX : W64 X) (hb : Bk wr g o) (hl : o.length = X.length + s / 64 + 1) (hv : val o = val (X.take i) * 2 ^ s)
    (h0 : ∀ j, i + s / 64 < j → o.getD j 0 = 0) (hlow : o.getD (i + s / 64) 0 < 2 ^ (s % 64)) (he : Ext w wr) (hg : w.heap.size ≤ g) (hx : X.getD i 0 = x) (ha : o.getD (i + s / 64) 0 = a) (e : a + x * 2 ^ (s % 64) % B = v) (hu : x / 2 ^ (64 - s % 64) = u) :
    ShlI w g X s (.int .i64 ((i + 1 : Nat) : Int)) (((wr.setCell ⟨g, i + s / 64, none⟩ (.int .u64 (v : Int))).setCell ⟨g, i + s / 64 + 1, none⟩ (.int .u64 (u : Int))).drew) := by
  have hxB : x < B := by rw [← hx]; exact hX.get i
  have hvB : v < B := by rw [← e]; exact or_shl_lt a x _ (by rw [← ha]; exact hlow) (by omega)
  have huB : u < B := by rw [← hu]; exact Nat.lt_of_le_of_lt (Nat.div_le_self _ _) hxB
  have hlen : (o.set (i + s / 64) v).length = X.length + s / 64 + 1 := by rw [List.length_set]; exact hl
  have h00 : (o.set (i + s / 64) v).getD (i + s / 64 + 1) 0 = 0 := by rw [getD_set o _ _ _ (by omega), if_neg (by omega)]; exact h0 _ (by omega)
  refine ⟨i + 1, _, hi, rfl, ((hb.set _ _ hvB).set _ _ huB).drew, by rw [List.length_set]; exact hlen, ?_, fun j hj => ?_, ?_, ((he.set hg _ _).set hg _ _).drew⟩
  · rw [val_set_zero _ _ _ (by omega) h00, ← e, shl_val hi (by omega) hv ha hx, shl_next hi hx, ← hu, Nat.pow_succ, Nat.mul_assoc (B ^ _), Nat.add_assoc]
    have e3 := congrArg (B ^ (i + s / 64) * ·) (shl_split x (s % 64) hxB hr (by omega))
    simp only [Nat.mul_add] at e3
    rw [e3]
  · rw [getD_set _ _ j _ (by omega), if_neg (by omega), getD_set o _ j _ (by omega), if_neg (by omega)]; exact h0 j (by omega)
  · rw [show i + 1 + s / 64 = i + s / 64 + 1 by omega, getD_set _ _ _ _ (by omega), if_pos rfl, ← hu]
    exact shr_high_lt x _ hxB (by omega)
set_option maxHeartbeats 1000000 in
set_option maxRecDepth 100000 in
theorem shl_c (A : Option Addr) (c : Nat) (xs : List Nat) (s : Nat) (w : World) (h : Rd w A c xs) (hs : s ≤ 1000000000) (hl : xs.length ≤ 1000000000) :
    Calls Tryz.prog 67 #[.slice A xs.length c, .int .i64 s] w (Res w (cn (val xs * 2 ^ s))) := by
  have h1 := view_c A c xs w h
  have hl1 := cn_val_le h.w64
  have r1 := h.view
  have e1 := val_cn (val xs)
  have hz := cn_len_zero (val xs)
  generalize val xs = m at *
  generalize cn m = X at *
  have hX := r1.w64
  have E1 := Lib.hid e1
  have HZ := Lib.hid hz
  clear e1 hz
  by_cases h0 : X.length = 0
  · have e : X = [] := List.eq_nil_of_length_eq_zero h0
    subst e
    clear h0
    go_enter Tryz.func67, Tryz.ntmps67
    go_wp2_with (go_at_call 70; refine h1.mono ?_; rintro e w1 ⟨rfl, k, rfl⟩)
    go_ret
    exact ⟨_, rfl, by rw [HZ.out.1 rfl, Nat.zero_mul, show cn 0 = [] from digs_zero B]; exact Own.nil _ _, (Ext.refl w).drewN k⟩
  · have hb : ((X.length : Int) == 0) = false := by rw [beq_eq_false_iff_ne]; omega
    clear h0
    go_enter Tryz.func67, Tryz.ntmps67
    go_wp2_with (first
      | (go_at_call 70; refine h1.mono ?_; rintro e w1 ⟨rfl, k, rfl⟩)
      | (at_make; refine wp_make rfl _ _ _ rfl Tryz.underlying38 (X.length + s / 64 + 1) _ rfl rfl (by omega) (by omega) ?_; intro g w1 hg hbk hb1))
    have HBK := Lib.hid hbk
    have HG := Lib.hid (show w.heap.size ≤ g from hg)
    have HB1 := Lib.hid (((Ext.refl w).drewN _).tr hb1)
    clear hbk hg h1 hb1
    go_loopw [22] (fun v22 wr => ShlI w g X s v22 wr) (fun v _ => X.length - (intOf v).toNat)
    case atStart => exact ⟨0, _, Nat.zero_le _, rfl, HBK.out, by simp, by rw [show val (List.replicate _ 0) = 0 from valb_zeros _ _]; simp [val, valb], fun j _ => getD_replicate _ _, by rw [getD_replicate]; exact Nat.pow_pos (by omega), HB1.out⟩
    case round =>
      obtain ⟨i, o, hi, rfl, hbk, hol, hv, h0, hlow, he⟩ := hrel
      have HV := Lib.hid hv
      have H0 := Lib.hid h0
      have HL := Lib.hid hol
      clear hv h0 hol
      by_cases hlt : i < X.length
      · have hcell := hbk.cell (i + s / 64) (by rw [HL.out]; omega)
        have hcell2 := hbk.cell (i + s / 64 + 1) (by rw [HL.out]; omega)
        rw [H0.out _ (by omega)] at hcell2
        have hfz := hbk.frozen (i + s / 64)
        have hfz2 := hbk.frozen (i + s / 64 + 1)
        obtain ⟨ad, rfl, hx⟩ := r1.cell i hlt
        have hx' := he.cell hx
        have hxB : X.getD i 0 < B := hX.get i
        clear hx
        obtain ⟨x, hx⟩ : ∃ x, X.getD i 0 = x := ⟨_, rfl⟩
        obtain ⟨a, ha⟩ : ∃ a, o.getD (i + s / 64) 0 = a := ⟨_, rfl⟩
        have hor := or_shl a x (s % 64) (by rw [← ha]; exact hlow) (by rw [← hx]; exact hxB) (by omega)
        rw [hx] at hx'
        rw [ha] at hcell
        obtain ⟨v, hvv⟩ : ∃ v, a + x * 2 ^ (s % 64) % B = v := ⟨_, rfl⟩
        rw [hvv] at hor
        have HX := Lib.hid hx
        have HA := Lib.hid ha
        have HLOW := Lib.hid hlow
        have HVV := Lib.hid hvv
        clear hx ha hxB hlow hvv
        by_cases hr : s % 64 = 0
        · have HR := Lib.hid hr
          have hrb : decide (0 < (s : Int) % 64) = false := by simp; omega
          clear hr
          go_wp2
          go_region
          go_wp2
          go_roundw
          case rel => exact ShlI.step0 HR.out hlt hX hbk HL.out HV.out H0.out HLOW.out he HG.out HX.out HA.out HVV.out
          case measure => simp [intOf]; omega
        · have hr2 : 0 < s % 64 := by omega
          have hrb : decide (0 < (s : Int) % 64) = true := by simp; omega
          clear hr
          go_wp2
          go_region
          go_wp2
          rw [shr_cast]
          go_roundw
          case rel => exact ShlI.step1 hr2 hlt hX hbk HL.out HV.out H0.out HLOW.out he HG.out HX.out HA.out HVV.out rfl
          case measure => simp [intOf]; omega
      · obtain rfl : i = X.length := by omega
        have hrd : Rd _ _ (X.length + s / 64 + 1) o := hbk.rd (by rw [HL.out]; omega) (by rw [HL.out]; omega)
        have htr := trim_c _ _ _ _ hrd (by rw [HL.out]; omega)
        rw [HL.out, HV.out, List.take_length, E1.out] at htr
        have HT := Lib.hid htr
        clear hrd htr
        go_wp2_with (go_at_call 69; refine HT.out.mono ?_; rintro e w2 ⟨v, rfl, ho, hb2⟩)
        go_ret
        exact ⟨_, rfl, ho.low he.size, he.tr hb2⟩
end Go.Proofs.YtlnfmngginihfaaGreatDoor
namespace Go.Proofs.YtlnfmngginihfaaGreatDoor
open Go.RowKit

/-- One word of a number that is shifted to the right: z and the word above it. -/
def shrW (z z' r : Nat) : Nat := z / 2 ^ r + z' * 2 ^ (64 - r) % B
theorem shr_step (z z' r V : Nat) (hr : r < 64) : (z + B * (z' + B * V)) / 2 ^ r = shrW z z' r + B * ((z' + B * V) / 2 ^ r) := by
  have e : B = 2 ^ r * 2 ^ (64 - r) := by rw [B_two, ← Nat.pow_add]; congr 1; omega
  generalize hV : z' + B * V = W
  have h1 : (z + B * W) / 2 ^ r = z / 2 ^ r + 2 ^ (64 - r) * W := by
    rw [e, Nat.mul_assoc, Nat.add_mul_div_left _ _ (Nat.pow_pos (by omega))]
  have h2 : 2 ^ (64 - r) * W = 2 ^ (64 - r) * (W % 2 ^ r) + B * (W / 2 ^ r) := by
    conv => lhs; rw [← Nat.mod_add_div W (2 ^ r)]
    rw [Nat.mul_add, e, ← Nat.mul_assoc, Nat.mul_comm (2 ^ (64 - r)) (2 ^ r)]
  have h3 : W % 2 ^ r = z' % 2 ^ r := by
    rw [← hV, e, Nat.mul_assoc, Nat.add_mul_mod_self_left]
  have h4 : z' * 2 ^ (64 - r) % B = 2 ^ (64 - r) * (z' % 2 ^ r) := by
    rw [e, Nat.mul_comm (2 ^ r), Nat.mul_comm z', Nat.mul_mod_mul_left]
  rw [h1, h2, h3, ← h4, shrW, Nat.add_assoc]
theorem shrW_lt (z z' r : Nat) (hz : z < B) (hr : r < 64) : shrW z z' r < B := by
  rcases Nat.eq_zero_or_pos r with rfl | h0
  · unfold shrW
    rw [Nat.pow_zero, Nat.div_one, ← B_two, Nat.mul_mod_left]; omega
  · unfold shrW
    refine or_shl_lt _ _ (64 - r) ?_ (by omega)
    rw [Nat.div_lt_iff_lt_mul (Nat.pow_pos (by omega)), ← Nat.pow_add, show 64 - r + r = 64 by omega, ← B_two]; exact hz
theorem val_drop_step (Z : List Nat) (i : Nat) (hi : i < Z.length) : val (Z.drop i) = Z.getD i 0 + B * val (Z.drop (i + 1)) := by
  rw [List.drop_eq_getElem_cons hi, List.getD_eq_getElem?_getD, List.getElem?_eq_getElem hi]; rfl
theorem val_drop_step' (Z : List Nat) (i : Nat) : val (Z.drop i) = Z.getD i 0 + B * val (Z.drop (i + 1)) := by
  rcases Nat.lt_or_ge i Z.length with h | h
  · exact val_drop_step Z i h
  · rw [List.drop_eq_nil_of_le h, List.drop_eq_nil_of_le (by omega), List.getD_eq_getElem?_getD, List.getElem?_eq_none h]; rfl
def ShrI (w : World) (g : Nat) (Z : List Nat) (r : Nat) (v : Value) (wr : World) : Prop := ∃ (i : Nat) (o : List Nat), i ≤ Z.length ∧ v = .int .i64 i ∧ Bk wr g o ∧
  o.length = Z.length ∧ val o + B ^ i * (val (Z.drop i) / 2 ^ r) = val Z / 2 ^ r ∧ (∀ j, i ≤ j → o.getD j 0 = 0) ∧ Ext w wr
theorem ShrI.step {w wr wr' : World} {g : Nat} {Z : List Nat} {r i u : Nat} {o : List Nat} (hr : r < 64) (hi : i < Z.length) (hZ : W64 Z) (hl : o.length = Z.length) (hv : val o + B ^ i * (val (Z.drop i) / 2 ^ r) = val Z / 2 ^ r)
    (h0 : ∀ j, i ≤ j → o.getD j 0 = 0) (hb : u < B → Bk wr' g (o.set i u)) (he : Ext w wr') (hu : shrW (Z.getD i 0) (Z.getD (i + 1) 0) r = u) : ShrI w g Z r (.int .i64 ((i + 1 : Nat) : Int)) wr' := by
  have hub : u < B := by rw [← hu]; exact shrW_lt _ _ _ (hZ.get i) hr
  refine ⟨i + 1, _, hi, rfl, hb hub, by rw [List.length_set]; exact hl, ?_, fun j hj => ?_, he⟩
  · rw [val_set_zero o i u (by omega) (h0 i (Nat.le_refl _)), ← hv, val_drop_step Z i hi, val_drop_step' Z (i + 1), shr_step _ _ _ _ hr, hu, Nat.mul_add, Nat.pow_succ, Nat.mul_assoc, Nat.add_assoc]
  · rw [getD_set o i j u (by omega), if_neg (by omega)]; exact h0 j (by omega)
set_option maxHeartbeats 1000000 in
set_option maxRecDepth 100000 in
theorem shr_c (A : Option Addr) (c : Nat) (xs : List Nat) (s : Nat) (w : World) (h : Rd w A c xs) (hs : s ≤ 1000000000) (hl : xs.length ≤ 1000000000) :
    Calls Tryz.prog 73 #[.slice A xs.length c, .int .i64 s] w (Res w (cn (val xs / 2 ^ s))) := by
  have h1 := view_c A c xs w h
  have hl1 := cn_val_le h.w64
  have r1 := h.view
  have e1 := val_cn (val xs)
  have hlt := (cn_len_le (val xs) (s / 64)).1
  generalize val xs = m at *
  generalize cn m = X at *
  have hX := r1.w64
  have E1 := Lib.hid e1
  have HLT := Lib.hid hlt
  clear e1 hlt
  by_cases h0 : X.length ≤ s / 64
  · have hz : m / 2 ^ s = 0 := by
      refine Nat.div_eq_of_lt (Nat.lt_of_lt_of_le (HLT.out h0) ?_)
      rw [B_two, ← Nat.pow_mul]; exact Nat.pow_le_pow_right (by omega) (by omega)
    have HZ := Lib.hid hz
    clear hz
    have hb : decide ((X.length : Int) ≤ (s : Int) / 64) = true := by simp; omega
    go_enter Tryz.func73, Tryz.ntmps73
    go_wp2_with (go_at_call 70; refine h1.mono ?_; rintro e w1 ⟨rfl, k, rfl⟩)
    go_ret
    exact ⟨_, rfl, by rw [HZ.out, show cn 0 = [] from digs_zero B]; exact Own.nil _ _, (Ext.refl w).drewN k⟩
  · have hb : decide ((X.length : Int) ≤ (s : Int) / 64) = false := by simp; omega
    obtain ⟨ad, rfl⟩ := r1.addr (by omega)
    have r2 := r1.drop (s / 64)
    have hZl : (X.drop (s / 64)).length = X.length - s / 64 := List.length_drop
    have hZv : val (X.drop (s / 64)) / 2 ^ (s % 64) = m / 2 ^ s := by
      rw [show val (X.drop (s / 64)) = val X / B ^ (s / 64) from valb_drop_div B B_pos X hX _, E1.out, Nat.div_div_eq_div_mul, ← pow_split]
    have HZL := Lib.hid hZl
    have HZV := Lib.hid hZv
    have hZ := r2.w64
    clear hZl hZv
    generalize X.drop (s / 64) = Z at *
    go_enter Tryz.func73, Tryz.ntmps73
    go_wp2_with (first
      | (go_at_call 70; refine h1.mono ?_; rintro e w1 ⟨rfl, k, rfl⟩)
      | (at_make; refine wp_make rfl _ _ _ rfl Tryz.underlying38 (X.length - s / 64) _ rfl rfl (by omega) (by omega) ?_; intro g w1 hg hbk hb1))
    have HBK := Lib.hid hbk
    have HG := Lib.hid (show w.heap.size ≤ g from hg)
    have HB1 := Lib.hid (((Ext.refl w).drewN _).tr hb1)
    clear hbk hg h1 hb1
    generalize ad.add (s / 64) = ad2 at *
    have hblk : ad2.block < w.heap.size := by
      have := World.block_lt_of_cell? w _ (r2.get 0 (by rw [HZL.out]; omega))
      rwa [show ad2.add 0 = ad2 from rfl] at this
    have hne : ¬ ad2.block = g := by have := HG.out; omega
    have hne2 : ¬ g = ad2.block := by have := HG.out; omega
    go_loopw [23] (fun v wr => ShrI w g Z (s % 64) v wr) (fun v _ => X.length - s / 64 - (intOf v).toNat)
    case atStart => exact ⟨0, _, Nat.zero_le _, rfl, HBK.out, by rw [HZL.out]; simp, by rw [show val (List.replicate _ 0) = 0 from valb_zeros _ _]; simp, fun j _ => getD_replicate _ _, HB1.out⟩
    case round =>
      obtain ⟨i, o, hi, rfl, hbk, hol, hv, h0, he⟩ := hrel
      have HV := Lib.hid hv
      have H0 := Lib.hid h0
      have HL := Lib.hid hol
      clear hv h0 hol
      rw [HZL.out] at hi
      have hr64 : s % 64 < 64 := by omega
      by_cases hlt : i < X.length - s / 64
      · have hcell := hbk.cell i (by rw [HL.out, HZL.out]; omega)
        rw [H0.out _ (Nat.le_refl _)] at hcell
        have hfz := hbk.frozen i
        have hx := r2.get i (by rw [HZL.out]; omega)
        have hx' := he.cell hx
        have hzB : Z.getD i 0 < B := hZ.get i
        clear hx
        obtain ⟨z, hz⟩ : ∃ z, Z.getD i 0 = z := ⟨_, rfl⟩
        have HZ1 := Lib.hid hz
        rw [hz] at hx' hzB
        clear hz
        by_cases hr : s % 64 = 0
        · have HR := Lib.hid hr
          have hrb : decide (0 < (s : Int) % 64) = false := by simp; omega
          have hu : shrW (Z.getD i 0) (Z.getD (i + 1) 0) (s % 64) = z / 2 ^ (s % 64) := by
            unfold shrW
            rw [HZ1.out, hr, ← B_two, Nat.mul_mod_left, Nat.add_zero]
          have HU := Lib.hid hu
          clear hr hu
          go_wp2
          rw [shr_cast]
          go_roundw
          case rel => exact ShrI.step hr64 (by rw [HZL.out]; omega) hZ HL.out HV.out H0.out (wr := wr) (fun h => hbk.set i _ h) (he.set HG.out _ _) HU.out
          case measure => simp [intOf]; omega
        · have hr2 : 0 < s % 64 := by omega
          have hrb : decide (0 < (s : Int) % 64) = true := by simp; omega
          have ha : z / 2 ^ (s % 64) < 2 ^ (64 - s % 64) := by
            rw [Nat.div_lt_iff_lt_mul (Nat.pow_pos (by omega)), ← Nat.pow_add, show 64 - s % 64 + s % 64 = 64 by omega, ← B_two]; exact hzB
          have hab : z / 2 ^ (s % 64) < B := Nat.lt_of_le_of_lt (Nat.div_le_self _ _) hzB
          obtain ⟨a, haa⟩ : ∃ a, z / 2 ^ (s % 64) = a := ⟨_, rfl⟩
          have hsh : (z : Int) / 2 ^ (s % 64) = (a : Int) := by rw [shr_cast, haa]
          have HAA := Lib.hid haa
          rw [haa] at ha hab
          clear hr haa
          by_cases hlt2 : i + 1 < X.length - s / 64
          · have hy := r2.get (i + 1) (by rw [HZL.out]; omega)
            have hy' := he.cell hy
            rw [show ad2.add (i + 1) = ⟨ad2.block, ad2.off + (i + 1), none⟩ by unfold Addr.add; rw [if_neg (by omega)]] at hy'
            clear hy
            have hyB : Z.getD (i + 1) 0 < B := hZ.get _
            obtain ⟨y, hyy⟩ : ∃ y, Z.getD (i + 1) 0 = y := ⟨_, rfl⟩
            rw [hyy] at hy' hyB
            have hor := or_shl a y (64 - s % 64) ha hyB (by omega)
            obtain ⟨v, hvv⟩ : ∃ v, a + y * 2 ^ (64 - s % 64) % B = v := ⟨_, rfl⟩
            have hu : shrW (Z.getD i 0) (Z.getD (i + 1) 0) (s % 64) = v := by rw [← hvv, ← HAA.out, HZ1.out, hyy]; rfl
            rw [hvv] at hor
            have HU := Lib.hid hu
            clear hvv hu hyy
            go_wp2
            go_region
            go_wp2
            go_roundw
            case rel => exact ShrI.step hr64 (by rw [HZL.out]; omega) hZ HL.out HV.out H0.out (wr := wr) (fun h => by have := ((hbk.set i a hab).set i v h).drew; rwa [List.set_set] at this) ((he.set HG.out _ _).set HG.out _ _).drew HU.out
            case measure => simp [intOf]; omega
          · have hu : shrW (Z.getD i 0) (Z.getD (i + 1) 0) (s % 64) = a := by
              unfold shrW
              rw [HZ1.out, HAA.out, List.getD_eq_getElem?_getD, List.getElem?_eq_none (by rw [HZL.out]; omega)]
              show a + 0 * _ % B = a
              rw [Nat.zero_mul, Nat.zero_mod, Nat.add_zero]
            have HU := Lib.hid hu
            clear hu
            go_wp2
            go_roundw
            case rel => exact ShrI.step hr64 (by rw [HZL.out]; omega) hZ HL.out HV.out H0.out (wr := wr) (fun h => hbk.set i _ h) (he.set HG.out _ _) HU.out
            case measure => simp [intOf]; omega
      · obtain rfl : i = X.length - s / 64 := by omega
        have hrd : Rd _ _ (X.length - s / 64) o := hbk.rd (by rw [HL.out, HZL.out]; omega) (by rw [HL.out, HZL.out]; omega)
        have htr := trim_c _ _ _ _ hrd (by rw [HL.out, HZL.out]; omega)
        have hvo : val o = m / 2 ^ s := by
          have e := HV.out
          rw [List.drop_eq_nil_of_le (by rw [HZL.out]; omega), show val [] = 0 from rfl, Nat.zero_div, Nat.mul_zero, Nat.add_zero, HZV.out] at e
          exact e
        rw [HL.out, HZL.out, hvo] at htr
        have HT := Lib.hid htr
        clear hrd htr hvo
        go_wp2_with (go_at_call 69; refine HT.out.mono ?_; rintro e w2 ⟨v, rfl, ho, hb2⟩)
        go_ret
        exact ⟨_, rfl, ho.low he.size, he.tr hb2⟩
end Go.Proofs.YtlnfmngginihfaaGreatDoor
