/- package wide: Shr. -/
import Derived.Test.YtgkojhhodncpbaaDoorW6
set_option linter.unusedVariables false
set_option linter.unusedSimpArgs false
namespace Go.Proofs.YtgkojhhodncpbaaDoor
open Go.RowKit

/-- One word of a number that is shifted to the right: z and the word above it. -/
def shrW (z z' r : Nat) : Nat := z / 2 ^ r + z' * 2 ^ (64 - r) % B
theorem shr_step (z z' r V : Nat) (hr : r < 64) : (z + B * (z' + B * V)) / 2 ^ r = shrW z z' r + B * ((z' + B * V) / 2 ^ r) := by
  have e : B = 2 ^ r * 2 ^ (64 - r) := by rw [B_two, ← Nat.pow_add]; congr 1; omega
  generalize hV : z' + B * V = W
  have h1 : (z + B * W) / 2 ^ r = z / 2 ^ r + 2 ^ (64 - r) * W := by
    rw [e, Nat.mul_assoc, Nat.add_mul_div_left _ _ (Nat.pow_pos (by omega))]
  have h2 : 2 ^ (64 - r) * W = 2 ^ (64 - r) * (W % 2 ^ r) + B * (W / 2 ^ r) := by
    conv => lhs; rw [← Nat.mod_add_div W (2 ^ r)]
    rw [Nat.mul_add, e, ← Nat.mul_assoc, Nat.mul_comm (2 ^ (64 - r)) (2 ^ r)]
  have h3 : W % 2 ^ r = z' % 2 ^ r := by
    rw [← hV, e, Nat.mul_assoc, Nat.add_mul_mod_self_left]
  have h4 : z' * 2 ^ (64 - r) % B = 2 ^ (64 - r) * (z' % 2 ^ r) := by
    rw [e, Nat.mul_comm (2 ^ r), Nat.mul_comm z', Nat.mul_mod_mul_left]
  rw [h1, h2, h3, ← h4, shrW, Nat.add_assoc]
theorem shrW_lt (z z' r : Nat) (hz : z < B) (hr : r < 64) : shrW z z' r < B := by
  rcases Nat.eq_zero_or_pos r with rfl | h0
  · unfold shrW
    rw [Nat.pow_zero, Nat.div_one, ← B_two, Nat.mul_mod_left]; omega
  · unfold shrW
    refine or_shl_lt _ _ (64 - r) ?_ (by omega)
    rw [Nat.div_lt_iff_lt_mul (Nat.pow_pos (by omega)), ← Nat.pow_add, show 64 - r + r = 64 by omega, ← B_two]; exact hz
theorem val_drop_step (Z : List Nat) (i : Nat) (hi : i < Z.length) : val (Z.drop i) = Z.getD i 0 + B * val (Z.drop (i + 1)) := by
  rw [List.drop_eq_getElem_cons hi, List.getD_eq_getElem?_getD, List.getElem?_eq_getElem hi]; rfl
theorem val_drop_step' (Z : List Nat) (i : Nat) : val (Z.drop i) = Z.getD i 0 + B * val (Z.drop (i + 1)) := by
  rcases Nat.lt_or_ge i Z.length with h | h
  · exact val_drop_step Z i h
  · rw [List.drop_eq_nil_of_le h, List.drop_eq_nil_of_le (by omega), List.getD_eq_getElem?_getD, List.getElem?_eq_none h]; rfl
def ShrI (w : World) (g : Nat) (Z : List Nat) (r : Nat) (v : Value) (wr : World) : Prop := ∃ (i : Nat) (o : List Nat), i ≤ Z.length ∧ v = .int .i64 i ∧ Bk wr g o ∧
  o.length = Z.length ∧ val o + B ^ i * (val (Z.drop i) / 2 ^ r) = val Z / 2 ^ r ∧ (∀ j, i ≤ j → o.getD j 0 = 0) ∧ Ext w wr
theorem ShrI.step {w wr wr' : World} {g : Nat} {Z : List Nat} {r i u : Nat} {o : List Nat} (hr : r < 64) (hi : i < Z.length) (hZ : W64 Z) (hl : o.length = Z.length) (hv : val o + B ^ i * (val (Z.drop i) / 2 ^ r) = val Z / 2 ^ r)
    (h0 : ∀ j, i ≤ j → o.getD j 0 = 0) (hb : u < B → Bk wr' g (o.set i u)) (he : Ext w wr') (hu : shrW (Z.getD i 0) (Z.getD (i + 1) 0) r = u) : ShrI w g Z r (.int .i64 ((i + 1 : Nat) : Int)) wr' := by
  have hub : u < B := by rw [← hu]; exact shrW_lt _ _ _ (hZ.get i) hr
  refine ⟨i + 1, _, hi, rfl, hb hub, by rw [List.length_set]; exact hl, ?_, fun j hj => ?_, he⟩
  · rw [val_set_zero o i u (by omega) (h0 i (Nat.le_refl _)), ← hv, val_drop_step Z i hi, val_drop_step' Z (i + 1), shr_step _ _ _ _ hr, hu, Nat.mul_add, Nat.pow_succ, Nat.mul_assoc, Nat.add_assoc]
  · rw [getD_set o i j u (by omega), if_neg (by omega)]; exact h0 j (by omega)
set_option maxHeartbeats 1000000 in
set_option maxRecDepth 100000 in
theorem shr_c (A : Option Addr) (c : Nat) (xs : List Nat) (s : Nat) (w : World) (h : Rd w A c xs) (hs : s ≤ 1000000000) (hl : xs.length ≤ 1000000000) :
    Calls Tryd.prog 68 #[.slice A xs.length c, .int .i64 s] w (Res w (cn (val xs / 2 ^ s))) := by
  have h1 := view_c A c xs w h
  have hl1 := cn_val_le h.w64
  have r1 := h.view
  have e1 := val_cn (val xs)
  have hlt := (cn_len_le (val xs) (s / 64)).1
  generalize val xs = m at *
  generalize cn m = X at *
  have hX := r1.w64
  have E1 := Lib.hid e1
  have HLT := Lib.hid hlt
  clear e1 hlt
  by_cases h0 : X.length ≤ s / 64
  · have hz : m / 2 ^ s = 0 := by
      refine Nat.div_eq_of_lt (Nat.lt_of_lt_of_le (HLT.out h0) ?_)
      rw [B_two, ← Nat.pow_mul]; exact Nat.pow_le_pow_right (by omega) (by omega)
    have HZ := Lib.hid hz
    clear hz
    have hb : decide ((X.length : Int) ≤ (s : Int) / 64) = true := by simp; omega
    go_enter Tryd.func68, Tryd.ntmps68
    go_wp2_with (go_at_call 92; refine h1.mono ?_; rintro e w1 ⟨rfl, k, rfl⟩)
    go_ret
    exact ⟨_, rfl, by rw [HZ.out, show cn 0 = [] from digs_zero B]; exact Own.nil _ _, (Ext.refl w).drewN k⟩
  · have hb : decide ((X.length : Int) ≤ (s : Int) / 64) = false := by simp; omega
    obtain ⟨ad, rfl⟩ := r1.addr (by omega)
    have r2 := r1.drop (s / 64)
    have hZl : (X.drop (s / 64)).length = X.length - s / 64 := List.length_drop
    have hZv : val (X.drop (s / 64)) / 2 ^ (s % 64) = m / 2 ^ s := by
      rw [show val (X.drop (s / 64)) = val X / B ^ (s / 64) from valb_drop_div B B_pos X hX _, E1.out, Nat.div_div_eq_div_mul, ← pow_split]
    have HZL := Lib.hid hZl
    have HZV := Lib.hid hZv
    have hZ := r2.w64
    clear hZl hZv
    generalize X.drop (s / 64) = Z at *
    go_enter Tryd.func68, Tryd.ntmps68
    go_wp2_with (first
      | (go_at_call 92; refine h1.mono ?_; rintro e w1 ⟨rfl, k, rfl⟩)
      | (at_make; refine wp_make rfl _ _ _ rfl Tryd.underlying34 (X.length - s / 64) _ rfl rfl (by omega) (by omega) ?_; intro g w1 hg hbk hb1))
    have HBK := Lib.hid hbk
    have HG := Lib.hid (show w.heap.size ≤ g from hg)
    have HB1 := Lib.hid (((Ext.refl w).drewN _).tr hb1)
    clear hbk hg h1 hb1
    generalize ad.add (s / 64) = ad2 at *
    have hblk : ad2.block < w.heap.size := by
      have := World.block_lt_of_cell? w _ (r2.get 0 (by rw [HZL.out]; omega))
      rwa [show ad2.add 0 = ad2 from rfl] at this
    have hne : ¬ ad2.block = g := by have := HG.out; omega
    have hne2 : ¬ g = ad2.block := by have := HG.out; omega
    go_loopw [23] (fun v wr => ShrI w g Z (s % 64) v wr) (fun v _ => X.length - s / 64 - (intOf v).toNat)
    case atStart => exact ⟨0, _, Nat.zero_le _, rfl, HBK.out, by rw [HZL.out]; simp, by rw [show val (List.replicate _ 0) = 0 from valb_zeros _ _]; simp, fun j _ => getD_replicate _ _, HB1.out⟩
    case round =>
      obtain ⟨i, o, hi, rfl, hbk, hol, hv, h0, he⟩ := hrel
      have HV := Lib.hid hv
      have H0 := Lib.hid h0
      have HL := Lib.hid hol
      clear hv h0 hol
      rw [HZL.out] at hi
      have hr64 : s % 64 < 64 := by omega
      by_cases hlt : i < X.length - s / 64
      · have hcell := hbk.cell i (by rw [HL.out, HZL.out]; omega)
        rw [H0.out _ (Nat.le_refl _)] at hcell
        have hfz := hbk.frozen i
        have hx := r2.get i (by rw [HZL.out]; omega)
        have hx' := he.cell hx
        have hzB : Z.getD i 0 < B := hZ.get i
        clear hx
        obtain ⟨z, hz⟩ : ∃ z, Z.getD i 0 = z := ⟨_, rfl⟩
        have HZ1 := Lib.hid hz
        rw [hz] at hx' hzB
        clear hz
        by_cases hr : s % 64 = 0
        · have HR := Lib.hid hr
          have hrb : decide (0 < (s : Int) % 64) = false := by simp; omega
          have hu : shrW (Z.getD i 0) (Z.getD (i + 1) 0) (s % 64) = z / 2 ^ (s % 64) := by
            unfold shrW
            rw [HZ1.out, hr, ← B_two, Nat.mul_mod_left, Nat.add_zero]
          have HU := Lib.hid hu
          clear hr hu
          go_wp2
          rw [shr_cast]
          go_roundw
          case rel => exact ShrI.step hr64 (by rw [HZL.out]; omega) hZ HL.out HV.out H0.out (wr := wr) (fun h => hbk.set i _ h) (he.set HG.out _ _) HU.out
          case measure => simp [intOf]; omega
        · have hr2 : 0 < s % 64 := by omega
          have hrb : decide (0 < (s : Int) % 64) = true := by simp; omega
          have ha : z / 2 ^ (s % 64) < 2 ^ (64 - s % 64) := by
            rw [Nat.div_lt_iff_lt_mul (Nat.pow_pos (by omega)), ← Nat.pow_add, show 64 - s % 64 + s % 64 = 64 by omega, ← B_two]; exact hzB
          have hab : z / 2 ^ (s % 64) < B := Nat.lt_of_le_of_lt (Nat.div_le_self _ _) hzB
          obtain ⟨a, haa⟩ : ∃ a, z / 2 ^ (s % 64) = a := ⟨_, rfl⟩
          have hsh : (z : Int) / 2 ^ (s % 64) = (a : Int) := by rw [shr_cast, haa]
          have HAA := Lib.hid haa
          rw [haa] at ha hab
          clear hr haa
          by_cases hlt2 : i + 1 < X.length - s / 64
          · have hy := r2.get (i + 1) (by rw [HZL.out]; omega)
            have hy' := he.cell hy
            rw [show ad2.add (i + 1) = ⟨ad2.block, ad2.off + (i + 1), none⟩ by unfold Addr.add; rw [if_neg (by omega)]] at hy'
            clear hy
            have hyB : Z.getD (i + 1) 0 < B := hZ.get _
            obtain ⟨y, hyy⟩ : ∃ y, Z.getD (i + 1) 0 = y := ⟨_, rfl⟩
            rw [hyy] at hy' hyB
            have hor := or_shl a y (64 - s % 64) ha hyB (by omega)
            obtain ⟨v, hvv⟩ : ∃ v, a + y * 2 ^ (64 - s % 64) % B = v := ⟨_, rfl⟩
            have hu : shrW (Z.getD i 0) (Z.getD (i + 1) 0) (s % 64) = v := by rw [← hvv, ← HAA.out, HZ1.out, hyy]; rfl
            rw [hvv] at hor
            have HU := Lib.hid hu
            clear hvv hu hyy
            go_wp2
            go_region
            go_wp2
            go_roundw
            case rel => exact ShrI.step hr64 (by rw [HZL.out]; omega) hZ HL.out HV.out H0.out (wr := wr) (fun h => by have := ((hbk.set i a hab).set i v h).drew; rwa [List.set_set] at this) ((he.set HG.out _ _).set HG.out _ _).drew HU.out
            case measure => simp [intOf]; omega
          · have hu : shrW (Z.getD i 0) (Z.getD (i + 1) 0) (s % 64) = a := by
              unfold shrW
              rw [HZ1.out, HAA.out, List.getD_eq_getElem?_getD, List.getElem?_eq_none (by rw [HZL.out]; omega)]
              show a + 0 * _ % B = a
              rw [Nat.zero_mul, Nat.zero_mod, Nat.add_zero]
            have HU := Lib.hid hu
            clear hu
            go_wp2
            go_roundw
            case rel => exact ShrI.step hr64 (by rw [HZL.out]; omega) hZ HL.out HV.out H0.out (wr := wr) (fun h => hbk.set i _ h) (he.set HG.out _ _) HU.out
            case measure => simp [intOf]; omega
      · obtain rfl : i = X.length - s / 64 := by omega
        have hrd : Rd _ _ (X.length - s / 64) o := hbk.rd (by rw [HL.out, HZL.out]; omega) (by rw [HL.out, HZL.out]; omega)
        have htr := trim_c _ _ _ _ hrd (by rw [HL.out, HZL.out]; omega)
        have hvo : val o = m / 2 ^ s := by
          have e := HV.out
          rw [List.drop_eq_nil_of_le (by rw [HZL.out]; omega), show val [] = 0 from rfl, Nat.zero_div, Nat.mul_zero, Nat.add_zero, HZV.out] at e
          exact e
        rw [HL.out, HZL.out, hvo] at htr
        have HT := Lib.hid htr
        clear hrd htr hvo
        go_wp2_with (go_at_call 94; refine HT.out.mono ?_; rintro e w2 ⟨v, rfl, ho, hb2⟩)
        go_ret
        exact ⟨_, rfl, ho.low he.size, he.tr hb2⟩
end Go.Proofs.YtgkojhhodncpbaaDoor
