/- the references' Minus, Sub, Compare, Cmp, Canonical, Same, Is. -/
import Derived.Test.YtlnfmngginihfaaGreatDoorR4
set_option linter.unusedVariables false
set_option linter.unusedSimpArgs false
namespace Go.Proofs.YtlnfmngginihfaaGreatDoor
open Go.RowKit

theorem cmp_at {X Y : List Nat} {j : Nat} (hX : D32 X) (hY : D32 Y) (hdr : hv (X.drop (j + 1)) = hv (Y.drop (j + 1))) (hlt : X.getD j 0 < Y.getD j 0) : hv X < hv Y := by
  have e1 := valb_split H X j
  have e2 := valb_split H Y j
  rw [valb_drop_step] at e1 e2
  have h1 : valb H (X.take j) < H ^ j := Nat.lt_of_lt_of_le (hv_lt (hX.take j)) (Nat.pow_le_pow_right H_pos (by rw [List.length_take]; omega))
  simp only [hv] at hdr ⊢
  rw [hdr] at e1
  have h2 : H ^ j * (X.getD j 0 + 1 + H * valb H (Y.drop (j + 1))) ≤ H ^ j * (Y.getD j 0 + H * valb H (Y.drop (j + 1))) := Nat.mul_le_mul_left _ (by omega)
  rw [e1, e2]
  rw [Nat.mul_add, Nat.mul_add, Nat.mul_one] at h2
  rw [Nat.mul_add, Nat.mul_add]
  rw [Nat.mul_add] at h2
  omega
set_option maxHeartbeats 1000000 in
set_option maxRecDepth 100000 in
theorem rcompare_c (A A' : Option Addr) (c c' : Nat) (X Y : List Nat) (w : World) (h : Rd w A c X) (h' : Rd w A' c' Y) (hX : D32 X) (hY : D32 Y) (hs : X.length ≤ 400000000) (hs' : Y.length ≤ 400000000) :
    Calls Tryz.prog 114 #[.slice A X.length c, .slice A' Y.length c'] w fun e w' => e = .returned (.int .i64 (cmp3 (hv X) (hv Y))) ∧ w = w' := by
  obtain ⟨M, hM⟩ : ∃ M, M = max X.length Y.length := ⟨_, rfl⟩
  have iM : max (X.length : Int) (Y.length : Int) = (M : Int) := by omega
  have hMb : M ≤ 400000000 := by omega
  have hdr : hv (X.drop M) = hv (Y.drop M) := by rw [List.drop_eq_nil_of_le (by omega), List.drop_eq_nil_of_le (by omega)]
  have HDR := Lib.hid hdr
  clear hdr hM
  go_enter Tryz.func114, Tryz.ntmps114
  go_wp2
  go_loopw [5] (fun v5 wr => ∃ k : Nat, k ≤ M ∧ v5 = .int .i64 ((k : Int) - 1) ∧ hv (X.drop k) = hv (Y.drop k) ∧ wr = w) (fun v _ => (intOf v + 1).toNat)
  case atStart => exact ⟨M, Nat.le_refl _, rfl, HDR.out, rfl⟩
  case round =>
    clear HDR
    obtain ⟨k, hk, rfl, hdr, rfl⟩ := hrel
    rcases Nat.eq_zero_or_pos k with rfl | h0
    · have hz : cmp3 (hv X) (hv Y) = 0 := cmp3_eq (by simpa using hdr)
      have HZ := Lib.hid hz
      clear hdr hz
      go_wp2
      go_ret
      exact ⟨by rw [HZ.out]; rfl, rfl⟩
    · obtain ⟨j, hj⟩ : ∃ j, k = j + 1 := ⟨k - 1, by omega⟩
      subst hj
      have e1 : ((j + 1 : Nat) : Int) - 1 = (j : Int) := by omega
      have dx := rdigit_c A c X j wr h
      have dy := rdigit_c A' c' Y j wr h'
      have hl1 := cmp_at hX hY hdr
      have hl2 := cmp_at hY hX hdr.symm
      have s1 := valb_drop_step H X j
      have s2 := valb_drop_step H Y j
      generalize X.getD j 0 = x at *
      generalize Y.getD j 0 = y at *
      rw [e1]
      rcases Nat.lt_trichotomy x y with hxy | hxy | hxy
      · have hz : cmp3 (hv X) (hv Y) = -1 := cmp3_lt (hl1 hxy)
        have HZ := Lib.hid hz
        clear hdr hz hl1 hl2 s1 s2
        go_wp2_with fail
        refine dx.mono ?_
        rintro e w1 ⟨rfl, rfl⟩
        go_wp2_with fail
        refine dy.mono ?_
        rintro e w1 ⟨rfl, rfl⟩
        go_wp2
        go_ret
        exact ⟨by rw [HZ.out]; rfl, rfl⟩
      · subst hxy
        have hn : hv (X.drop j) = hv (Y.drop j) := by
          simp only [hv] at hdr ⊢
          rw [s1, s2, hdr]
        have HN := Lib.hid hn
        clear hdr hl1 hl2 s1 s2 hn
        go_wp2_with fail
        refine dx.mono ?_
        rintro e w1 ⟨rfl, rfl⟩
        go_wp2_with fail
        refine dy.mono ?_
        rintro e w1 ⟨rfl, rfl⟩
        go_wp2
        go_roundw
        case rel => exact ⟨j, by omega, rfl, HN.out, trivial⟩
        case measure => simp [intOf]
      · have hz : cmp3 (hv X) (hv Y) = 1 := cmp3_gt (hl2 hxy)
        have HZ := Lib.hid hz
        clear hdr hz hl1 hl2 s1 s2
        go_wp2_with fail
        refine dx.mono ?_
        rintro e w1 ⟨rfl, rfl⟩
        go_wp2_with fail
        refine dy.mono ?_
        rintro e w1 ⟨rfl, rfl⟩
        go_wp2
        go_ret
        exact ⟨by rw [HZ.out]; rfl, rfl⟩
set_option maxHeartbeats 1000000 in
set_option maxRecDepth 100000 in
theorem rcmp_c (A A' : Option Addr) (c c' : Nat) (xs ys : List Nat) (w : World) (h : Rd w A c xs) (h' : Rd w A' c' ys) (hs : xs.length ≤ 10000000) (hs' : ys.length ≤ 10000000) :
    Calls Tryz.prog 104 #[.slice A xs.length c, .slice A' ys.length c'] w fun e w' => e = .returned (.int .i64 (cmp3 (val xs) (val ys))) ∧ Ext w w' := by
  have h1 := rdigits_c A c xs w h (by omega)
  have h2 := fun w1 h' => rdigits_c A' c' ys w1 h' (by omega)
  have e1 := dg_val xs
  have e2 := dg_val ys
  have d1 := dg_d32 h.w64
  have d2 := dg_d32 h'.w64
  have l1 := dg_len xs
  have l2 := dg_len ys
  generalize dg xs = ds at *
  generalize dg ys = es at *
  have h3 := fun A1 A2 c1 c2 w1 hr hr2 => rcompare_c A1 A2 c1 c2 ds es w1 hr hr2 d1 d2 (by omega) (by omega)
  rw [e1, e2] at h3
  generalize cmp3 (val xs) (val ys) = z at *
  clear e1 e2 l1 l2
  go_enter Tryz.func104, Tryz.ntmps104
  go_wp2_with fail
  refine h1.mono ?_
  rintro e w1 ⟨v, rfl, ho, hb⟩
  obtain ⟨A1, c1, rfl, hr⟩ := ho.rd
  go_wp2_with fail
  refine (h2 _ (h'.ext hb)).mono ?_
  rintro e w2 ⟨v, rfl, ho2, hb2⟩
  obtain ⟨A2, c2, rfl, hr2⟩ := ho2.rd
  go_wp2_with fail
  refine (h3 A1 A2 c1 c2 _ (hr.ext hb2) hr2).mono ?_
  rintro e w3 ⟨rfl, rfl⟩
  go_wp2
  go_ret
  exact ⟨rfl, hb.tr hb2⟩

end Go.Proofs.YtlnfmngginihfaaGreatDoor
