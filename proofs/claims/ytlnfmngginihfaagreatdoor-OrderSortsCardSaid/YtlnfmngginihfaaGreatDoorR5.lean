/- the references' Right, Times. -/
import Derived.Test.YtlnfmngginihfaaGreatDoorR4
import Derived.Test.YtlnfmngginihfaaGreatDoorW7
set_option linter.unusedVariables false
set_option linter.unusedSimpArgs false
namespace Go.Proofs.YtlnfmngginihfaaGreatDoor
open Go.RowKit

theorem shr_all {xs o : List Nat} {r : Nat} (hr : r < 64) (hl : o.length = xs.length) (h : ∀ j, j < xs.length → o.getD j 0 = shrW (xs.getD j 0) (xs.getD (j + 1) 0) r) : val o = val xs / 2 ^ r := by
  have key : ∀ d k, k + d = xs.length → val (o.drop k) = val (xs.drop k) / 2 ^ r := by
    intro d
    induction d with
    | zero =>
      intro k hk
      rw [List.drop_eq_nil_of_le (by omega), List.drop_eq_nil_of_le (by omega)]
      simp [val, valb]
    | succ d ih =>
      intro k hk
      rw [val_drop_step' o k, h k (by omega), ih (k + 1) (by omega), val_drop_step' xs k, val_drop_step' xs (k + 1), shr_step _ _ _ _ hr]
  have := key xs.length 0 (by omega)
  simpa using this
set_option maxHeartbeats 400000 in
set_option maxRecDepth 100000 in
theorem rright1_c (A : Option Addr) (c : Nat) (xs : List Nat) (s : Nat) (w : World) (h : Rd w A c xs) (hs : s < 64) (hl : xs.length ≤ 1000000000) :
    Calls Tryz.prog 90 #[.slice A xs.length c, .int .i64 s] w fun e w' => ∃ v o, ∃ f : Nat, e = .returned (.tuple #[v, .int .u64 f]) ∧ o.length = xs.length ∧ val o = val xs / 2 ^ s ∧ Own w' w.heap.size v o ∧ Ext w w' := by
  have hw := h.w64
  go_enter Tryz.func90, Tryz.ntmps90
  go_wp2_with (at_make; refine wp_make rfl _ _ _ rfl Tryz.underlying37 xs.length _ rfl rfl rfl (by omega) ?_; intro g w1 hg hbk hb1)
  have HBK := Lib.hid hbk
  have HB1 := Lib.hid hb1
  have HG := Lib.hid hg
  clear hbk hb1 hg
  go_loopw [7, 8] (fun v7 v8 wr => ∃ (k f : Nat) (o : List Nat), k ≤ xs.length ∧ v8 = .int .i64 ((k : Int) - 1) ∧ v7 = .int .u64 f ∧ f = xs.getD k 0 * 2 ^ (64 - s) % B ∧ Bk wr g o ∧ o.length = xs.length ∧ (∀ j, k ≤ j → j < xs.length → o.getD j 0 = shrW (xs.getD j 0) (xs.getD (j + 1) 0) s) ∧ Ext w wr) (fun _ v _ => (intOf v + 1).toNat)
  case atStart => exact ⟨xs.length, 0, _, Nat.le_refl _, rfl, rfl, by rw [getD_past (Nat.le_refl _), Nat.zero_mul, Nat.zero_mod], HBK.out, by simp, fun j h1 h2 => absurd h1 (by omega), HB1.out⟩
  case round =>
    obtain ⟨k, f, o, hk, rfl, rfl, hf, hbk, hol, ho, hE⟩ := hrel
    rcases Nat.eq_zero_or_pos k with rfl | h0
    · have hv1 := shr_all hs hol (fun j hj => ho j (Nat.zero_le _) hj)
      have HV := Lib.hid (show o.length = xs.length ∧ val o = val xs / 2 ^ s from ⟨hol, hv1⟩)
      have hown := hbk.own HG.out (by rw [hol]; omega)
      rw [hol] at hown
      clear hol ho hf hv1
      go_wp2
      go_ret2
      exact ⟨_, o, f, rfl, HV.out.1, HV.out.2, hown, hE⟩
    · obtain ⟨ad, rfl, hcell⟩ := h.cell (k - 1) (by omega)
      obtain ⟨j, hj⟩ : ∃ j, k = j + 1 := ⟨k - 1, by omega⟩
      subst hj
      have e1 : ((j + 1 : Nat) : Int) - 1 = (j : Int) := by omega
      rw [show j + 1 - 1 = j by omega] at hcell
      have hblk : ad.block < w.heap.size := by
        have := World.block_lt_of_cell? w _ hcell
        have e : (ad.add j).block = ad.block := by unfold Addr.add; split <;> rfl
        rwa [e] at this
      have hne : ¬ ad.block = g := by have := HG.out; omega
      have hne2 : ¬ g = ad.block := by have := HG.out; omega
      have hx1 := hE.cell hcell
      have hx := hw.get j
      have hcell2 := hbk.cell j (by omega)
      have hfz := hbk.frozen j
      obtain ⟨x, hxx⟩ : ∃ x, xs.getD j 0 = x := ⟨_, rfl⟩
      rw [hxx] at hcell hx1 hx
      generalize o.getD j 0 = ov at hcell2
      obtain ⟨q, hq⟩ : ∃ q, x / 2 ^ s = q := ⟨_, rfl⟩
      obtain ⟨u, hu⟩ : ∃ u, shrW x (xs.getD (j + 1) 0) s = u := ⟨_, rfl⟩
      have huB : u < B := by rw [← hu]; exact shrW_lt _ _ _ hx hs
      have i1 : (x : Int) / 2 ^ s = (q : Int) := by rw [shr_cast, hq]
      have huq : f + q = u := by rw [← hu, hf, ← hq]; unfold shrW; omega
      have i2 : IntKind.u64.wrap ((f : Int) + (q : Int)) = (u : Int) := by rw [IntKind.wrap_u64]; rw [B_eq] at huB; omega
      have hstep : ∀ i, j ≤ i → i < xs.length → (o.set j u).getD i 0 = shrW (xs.getD i 0) (xs.getD (i + 1) 0) s := fun i h1 h2 => by
        rw [getD_set o j i u (by omega)]
        split
        · rename_i e; subst e; rw [hxx, hu]
        · exact ho i (by omega) h2
      have hb2 := hbk.set j u huB
      have hl2 : (o.set j u).length = xs.length := by rw [List.length_set]; exact hol
      rw [e1]
      rcases Nat.eq_zero_or_pos s with hs0 | hs0
      · have hd : decide (0 < s) = false := by simp; omega
        have HS := Lib.hid (show (0 : Nat) = xs.getD j 0 * 2 ^ (64 - s) % B by rw [hs0, ← B_two, Nat.mul_mod_left])
        have HL2 := Lib.hid hl2
        have HST := Lib.hid hstep
        clear hol ho hf hstep hl2 hu hq huq hxx hs0
        go_wp2
        go_roundw
        case rel => exact ⟨j, 0, _, by omega, rfl, rfl, HS.out, hb2, HL2.out, HST.out, hE.set HG.out _ _⟩
        case measure => simp [intOf]
      · have hd : decide (0 < s) = true := by simp; omega
        have hx2 := (hE.set HG.out j (.int .u64 (u : Int))).cell hcell
        obtain ⟨f2, hf2⟩ : ∃ f2, x * 2 ^ (64 - s) % B = f2 := ⟨_, rfl⟩
        have HS := Lib.hid (show f2 = xs.getD j 0 * 2 ^ (64 - s) % B by rw [hxx, hf2])
        have i3 : IntKind.u64.wrap ((x : Int) * 2 ^ (64 - s)) = (f2 : Int) := by
          rw [← hf2, IntKind.wrap_u64, B_eq, Int.natCast_emod, Int.natCast_mul, Int.natCast_pow]; rfl
        have HL2 := Lib.hid hl2
        have HST := Lib.hid hstep
        clear hol ho hf hstep hl2 hu hq huq hxx hf2
        go_wp2
        go_roundw
        case rel => exact ⟨j, f2, _, by omega, rfl, rfl, HS.out, hb2, HL2.out, HST.out, hE.set HG.out _ _⟩
        case measure => simp [intOf]
set_option maxHeartbeats 400000 in
set_option maxRecDepth 100000 in
theorem rright_c (A : Option Addr) (c : Nat) (xs : List Nat) (s : Nat) (w : World) (h : Rd w A c xs) (hs : s ≤ 1000000000) (hl : xs.length ≤ 10000000) :
    Calls Tryz.prog 62 #[.slice A xs.length c, .int .i64 s] w (Res w (cn (val xs / 2 ^ s))) := by
  have hw := h.w64
  by_cases h0 : xs.length ≤ s / 64
  · have hz : val xs / 2 ^ s = 0 := by
      refine Nat.div_eq_of_lt (Nat.lt_of_lt_of_le (val_lt hw) ?_)
      rw [B_two, ← Nat.pow_mul]; exact Nat.pow_le_pow_right (by omega) (by omega)
    have HZ := Lib.hid hz
    clear hz
    go_enter Tryz.func62, Tryz.ntmps62
    go_wp2
    go_ret
    exact ⟨_, rfl, by rw [HZ.out, show cn 0 = [] from digs_zero B]; exact Own.nil _ _, Ext.refl _⟩
  · obtain ⟨ad, rfl⟩ := h.addr (by omega)
    have hcap := h.cap
    have r2 := h.drop (s / 64)
    have hv1 : val (xs.drop (s / 64)) / 2 ^ (s % 64) = val xs / 2 ^ s := by
      rw [show val (xs.drop (s / 64)) = val xs / B ^ (s / 64) from valb_drop_div B B_pos xs hw _, Nat.div_div_eq_div_mul, ← pow_split]
    have h1 := fun w h => rright1_c (some (ad.add (s / 64))) (c - s / 64) (xs.drop (s / 64)) (s % 64) w h (Nat.mod_lt _ (by omega)) (by rw [List.length_drop]; omega)
    rw [hv1] at h1
    have hlen : (xs.drop (s / 64)).length = xs.length - s / 64 := List.length_drop
    rw [hlen] at h1
    clear hv1 hlen
    go_enter Tryz.func62, Tryz.ntmps62
    go_wp2_with fail
    refine (h1 _ r2).mono ?_
    rintro e w1 ⟨v, o, f, rfl, hol, hov, ho, hb⟩
    obtain ⟨A1, c1, rfl, hr1⟩ := ho.rd
    have hob : o.length ≤ 100000000 := by omega
    have HV := Lib.hid hov
    clear hol hov
    go_wp2_with fail
    refine (rtrim_c A1 c1 o _ hr1 hob).mono ?_
    rintro e w2 ⟨v, rfl, ho2, hb2⟩
    rw [HV.out] at ho2
    go_wp2
    go_ret
    exact ⟨_, rfl, ho2.low hb.size, hb.tr hb2⟩
end Go.Proofs.YtlnfmngginihfaaGreatDoor
