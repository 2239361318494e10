/- the references' Minus, Sub, Compare, Cmp, Canonical, Same, Is. -/
import Derived.Test.YtknafhogaheacaaDoorR4
set_option linter.unusedVariables false
set_option linter.unusedSimpArgs false
namespace Go.Proofs.YtknafhogaheacaaDoor
open Go.RowKit

set_option maxHeartbeats 1000000 in
set_option maxRecDepth 100000 in
theorem rminus_c (A A' : Option Addr) (c c' : Nat) (X Y : List Nat) (w : World) (h : Rd w A c X) (h' : Rd w A' c' Y) (hX : D32 X) (hY : D32 Y) (hs : X.length ≤ 400000000) (hYl : hv Y < H ^ X.length) :
    Calls Tryd.prog 73 #[.slice A X.length c, .slice A' Y.length c'] w fun e w' => ∃ v o, ∃ b : Bool, e = .returned (.tuple #[v, .bool b]) ∧ o.length = X.length ∧ D32 o ∧ (hv Y ≤ hv X → b = false ∧ hv o = hv X - hv Y) ∧ (hv X < hv Y → b = true) ∧ Own w' w.heap.size v o ∧ Ext w w' := by
  go_enter Tryd.func73, Tryd.ntmps73
  go_wp2
  go_loopw [6, 7, 8] (fun v6 v7 v8 wr => ∃ (i cy : Nat) (o : List Nat), i ≤ X.length ∧ v8 = .int .i64 i ∧ v7 = .int .u64 cy ∧ cy ≤ 1 ∧ Own wr w.heap.size v6 o ∧ o.length = i ∧ D32 o ∧ hv o + hv (Y.take i) = hv (X.take i) + H ^ i * cy ∧ Ext w wr)
    (fun _ _ v _ => X.length - (intOf v).toNat)
  case atStart => exact ⟨0, 0, [], Nat.zero_le _, rfl, rfl, by omega, Own.nil _ _, rfl, D32.nil, by simp [valb], Ext.refl _⟩
  case round =>
    obtain ⟨i, cy, o, hi, rfl, rfl, hc, hown, hl, hd, hv1, hE⟩ := hrel
    by_cases hlt : i < X.length
    · obtain ⟨ad, rfl, hxc⟩ := h.cell i hlt
      have hxc1 := hE.cell hxc
      have hx := hX.get i
      have hy := hY.get i
      have dy := fun m => rdigit_c A' c' Y i (wr.drewN m) ((h'.ext hE).drewN m)
      have hstep := fun t ht => minus_step (out := o) (a := X) (b := Y) (i := i) (c := cy) (x := t) hl hc hx hy ht hv1
      generalize X.getD i 0 = x at *
      generalize Y.getD i 0 = y at *
      have hdq : ∀ m, Calls Tryd.prog 75 #[.slice A' Y.length c', .int .i64 i] (wr.drewN m) fun e w' => e = .returned (.int .u64 (y : Int)) ∧ w' = wr.drewN m := fun m => (dy m).mono fun e w1 ⟨he, hw⟩ => ⟨he, hw.symm⟩
      clear dy
      obtain ⟨s1, hs1⟩ : ∃ s1, s1 = x + H := ⟨_, rfl⟩
      obtain ⟨s2, hs2⟩ : ∃ s2, s2 = x + H - y := ⟨_, rfl⟩
      obtain ⟨t, ht⟩ : ∃ t, t = x + H - y - cy := ⟨_, rfl⟩
      obtain ⟨hq1, hq2⟩ := hstep t (by omega)
      obtain ⟨r, hr⟩ : ∃ r, r = t % H := ⟨_, rfl⟩
      obtain ⟨q, hq⟩ : ∃ q, q = t / H := ⟨_, rfl⟩
      obtain ⟨b, hb⟩ : ∃ b, b = 1 - q := ⟨_, rfl⟩
      have hrH : r < H := by rw [hr]; exact Nat.mod_lt _ H_pos
      rw [← hq] at hq1
      rw [← hr, ← hq, ← hb] at hq2
      rw [H_eq] at hx hy hs1 hs2 ht
      have j1 : IntKind.u64.wrap ((x : Int) + 4294967296) = (s1 : Int) := by rw [IntKind.wrap_u64]; omega
      have j2 : IntKind.u64.wrap ((s1 : Int) - (y : Int)) = (s2 : Int) := by rw [IntKind.wrap_u64]; omega
      have j3 : IntKind.u64.wrap ((s2 : Int) - (cy : Int)) = (t : Int) := by rw [IntKind.wrap_u64]; omega
      have j4 : (t : Int) % 4294967296 = (r : Int) := by rw [hr, H_eq]; omega
      have j5 : (t : Int).tmod 4294967296 = (r : Int) := by rw [Int.tmod_eq_emod_of_nonneg (by omega)]; exact j4
      have j6 : (t : Int) / 4294967296 = (q : Int) := by rw [hq, H_eq]; omega
      have j7 : IntKind.u64.wrap (q : Int) = q := by rw [IntKind.wrap_u64]; omega
      have j8 : IntKind.u64.wrap (1 - (q : Int)) = (b : Int) := by rw [IntKind.wrap_u64]; omega
      have g0 : (0 : Int) ≤ (i : Int) := by omega
      have g1 : (i : Int) < (X.length : Int) := by omega
      have HST := Lib.hid (show b ≤ 1 ∧ hv (o ++ [r]) + hv (Y.take (i + 1)) = hv (X.take (i + 1)) + H ^ (i + 1) * b from ⟨by omega, hq2⟩)
      have hrB : r < B := Nat.lt_trans hrH H_lt_B
      have hd2 := hd.snoc hrH
      have HL := Lib.hid hl
      have hol : o.length ≤ 400000000 := by omega
      clear hs1 hs2 ht hr hq hb hx hy hstep hq1 hq2 hv1 hi hl
      go_wp2
      go_quiet (first | (go_at_call 75; refine Calls.quiet_of_same (hdq _)))
      have hE2 := hE.drewN nq
      have hown2 := hown.ext ((Ext.refl wr).drewN nq)
      generalize wr.drewN nq = w2 at *
      go_wp2_with (at_builtin; refine wp_append rfl _ _ _ rfl Tryd.underlying22 w.heap.size _ o rfl (hown2.ext ((Ext.refl _).al _)) (some ⟨w2.heap.size, 0, none⟩) 1 1 [r] rfl rfl (Rd.new1 w2 r hrB) ?hb ?hl ?_; (case hb => simp; have := hE2.size; omega); (case hl => simp; omega); intro v' w1 ho hb1 hat hg)
      go_roundw
      case rel => exact ⟨i + 1, b, o ++ [r], hlt, by go_num, rfl, HST.out.1, ho, by simp [HL.out], hd2, HST.out.2, Below.trans (hE2.al _) hb1⟩
      case measure => simp [intOf]; omega
    · obtain rfl : i = X.length := by omega
      rw [List.take_length] at hv1
      have e2 : hv (Y.take X.length) = hv Y := by
        have : hv (Y.take X.length) = hv Y % H ^ X.length := valb_take_mod H H_pos Y hY _
        rw [this, Nat.mod_eq_of_lt hYl]
      rw [e2] at hv1
      have ho1 := hv_lt hd
      rw [hl] at ho1
      obtain ⟨f1, f2⟩ := minus_end ho1 (hv_lt hX) hc hv1
      obtain ⟨b, hb⟩ : ∃ b, b = ((cy : Int) == 1) := ⟨_, rfl⟩
      have HF := Lib.hid (show o.length = X.length ∧ (hv Y ≤ hv X → b = false ∧ hv o = hv X - hv Y) ∧ (hv X < hv Y → b = true) from
        ⟨hl, fun hle => ⟨by rw [hb, (f1 hle).1]; rfl, (f1 hle).2⟩, fun hlt => by rw [hb, f2 hlt]; rfl⟩)
      have hb' := hb.symm
      clear hv1 ho1 f1 f2 e2 hl hb
      go_wp2
      go_ret2
      exact ⟨_, o, b, rfl, HF.out.1, hd, HF.out.2.1, HF.out.2.2, hown, hE⟩
theorem cmp_at {X Y : List Nat} {j : Nat} (hX : D32 X) (hY : D32 Y) (hdr : hv (X.drop (j + 1)) = hv (Y.drop (j + 1))) (hlt : X.getD j 0 < Y.getD j 0) : hv X < hv Y := by
  have e1 := valb_split H X j
  have e2 := valb_split H Y j
  rw [valb_drop_step] at e1 e2
  have h1 : valb H (X.take j) < H ^ j := Nat.lt_of_lt_of_le (hv_lt (hX.take j)) (Nat.pow_le_pow_right H_pos (by rw [List.length_take]; omega))
  simp only [hv] at hdr ⊢
  rw [hdr] at e1
  have h2 : H ^ j * (X.getD j 0 + 1 + H * valb H (Y.drop (j + 1))) ≤ H ^ j * (Y.getD j 0 + H * valb H (Y.drop (j + 1))) := Nat.mul_le_mul_left _ (by omega)
  rw [e1, e2]
  rw [Nat.mul_add, Nat.mul_add, Nat.mul_one] at h2
  rw [Nat.mul_add, Nat.mul_add]
  rw [Nat.mul_add] at h2
  omega
end Go.Proofs.YtknafhogaheacaaDoor
