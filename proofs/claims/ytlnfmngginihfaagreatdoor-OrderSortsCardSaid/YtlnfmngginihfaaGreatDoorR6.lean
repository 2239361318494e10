/- the references' Times, Left. -/
import Derived.Test.YtlnfmngginihfaaGreatDoorR4
set_option linter.unusedVariables false
set_option linter.unusedSimpArgs false
namespace Go.Proofs.YtlnfmngginihfaaGreatDoor
open Go.RowKit

set_option maxHeartbeats 1000000 in
set_option maxRecDepth 100000 in
theorem rtimes_c (A A' : Option Addr) (c c' : Nat) (X Y : List Nat) (w : World) (h : Rd w A c X) (h' : Rd w A' c' Y) (hX : D32 X) (hY : D32 Y) (hs : X.length ≤ 400000000) (hs' : Y.length ≤ 400000000) :
    Calls Tryz.prog 121 #[.slice A X.length c, .slice A' Y.length c'] w (DRes w (X.length + Y.length) (hv X * hv Y)) := by
  obtain ⟨N, hN⟩ : ∃ N, N = X.length + Y.length := ⟨_, rfl⟩
  have iN : (X.length : Int) + (Y.length : Int) = (N : Int) := by omega
  have hN2 : N ≤ 800000000 := by omega
  rw [← hN]
  have HN := Lib.hid hN
  clear hN
  go_enter Tryz.func121, Tryz.ntmps121
  go_wp2_with (at_make; refine wp_make rfl _ _ _ rfl Tryz.underlying37 N _ rfl rfl rfl (by omega) ?_; intro g w1 hg hbk hb1)
  have HBK := Lib.hid hbk
  have HB1 := Lib.hid hb1
  have HG := Lib.hid hg
  clear hbk hb1 hg
  go_loopw [6] (fun v6 wr => ∃ (i : Nat) (o : List Nat), i ≤ X.length ∧ v6 = .int .i64 i ∧ Bk wr g o ∧ o.length = N ∧ D32 o ∧ hv o = hv (X.take i) * hv Y ∧ (∀ j, i + Y.length ≤ j → o.getD j 0 = 0) ∧ Ext w wr) (fun v _ => X.length - (intOf v).toNat)
  case atStart => exact ⟨0, _, Nat.zero_le _, rfl, HBK.out, by simp, D32.zeros _, by rw [show hv (List.replicate N 0) = 0 from valb_zeros _ _]; simp [valb], fun j _ => getD_replicate _ _, HB1.out⟩
  case round =>
    clear HBK HB1
    obtain ⟨i, o, hi, rfl, hbk, hol, hd, hov, ho0, hE⟩ := hrel
    by_cases hlt : i < X.length
    · obtain ⟨adx, rfl, hxc⟩ := h.cell i hlt
      have hx := hX.get i
      have htk := valb_take_past H X i
      generalize X.getD i 0 = x at hxc hx htk
      have HO := Lib.hid (show o.length = N ∧ D32 o ∧ hv o = hv (X.take i) * hv Y ∧ (∀ j, i + Y.length ≤ j → o.getD j 0 = 0) from ⟨hol, hd, hov, ho0⟩)
      have HBK := Lib.hid hbk
      have HE := Lib.hid hE
      have HTK := Lib.hid htk
      clear hol hd hov ho0 hbk hE htk
      obtain ⟨wo, hwo⟩ : ∃ wo : World, wo = wr := ⟨_, rfl⟩
      subst hwo
      go_wp2
      go_loopw [7, 8] (fun v7 v8 wi => ∃ (k cy : Nat) (o' : List Nat), k ≤ Y.length ∧ v8 = .int .i64 k ∧ v7 = .int .u64 cy ∧ cy < H ∧ Bk wi g o' ∧ o'.length = N ∧ D32 o' ∧ hv o' + H ^ (i + k) * cy = hv (X.take i) * hv Y + H ^ i * (x * hv (Y.take k)) ∧ (∀ j, i + Y.length ≤ j → o'.getD j 0 = 0) ∧ Ext w wi) (fun _ v _ => Y.length - (intOf v).toNat)
      case atStart => exact ⟨0, 0, o, Nat.zero_le _, rfl, rfl, H_pos, HBK.out, HO.out.1, HO.out.2.1, by rw [HO.out.2.2.1]; simp [valb], HO.out.2.2.2, HE.out⟩
      case round =>
        clear HO HBK HE
        obtain ⟨k, cy, o2, hk, rfl, rfl, hcy, hbk, hol, hd, hov, ho0, hE⟩ := hrel
        have hN3 := HN.out
        by_cases hlt2 : k < Y.length
        · obtain ⟨ady, rfl, hyc⟩ := h'.cell k hlt2
          have hy := hY.get k
          have hyy : ∃ y, y = Y.getD k 0 := ⟨_, rfl⟩
          obtain ⟨y, hyy⟩ := hyy
          rw [← hyy] at hyc hy
          obtain ⟨n, hn⟩ : ∃ n, n = i + k := ⟨_, rfl⟩
          have ik : (i : Int) + (k : Int) = (n : Int) := by omega
          have hnN : n < N := by omega
          have hoc := hbk.cell n (by omega)
          have hfz := hbk.frozen n
          have hov2 := hd.get n
          obtain ⟨ov, hovv⟩ : ∃ ov, ov = o2.getD n 0 := ⟨_, rfl⟩
          rw [← hovv] at hoc hov2
          have hxc2 := hE.cell hxc
          have hyc2 := hE.cell hyc
          obtain ⟨t, ht⟩ : ∃ t, t = cy + ov + x * y := ⟨_, rfl⟩
          obtain ⟨hb1, hb2⟩ := times_bound hcy hov2 hx hy
          rw [← ht] at hb1 hb2
          have hstep := times_step (out := o2) (i := i) (k := k) (c := cy) (x := x) (y := y) (t := t) (P := hv (X.take i) * hv Y) (by omega) (by rw [← hn, ← hovv]; exact ht) Y hyy hov
          rw [← hn] at hstep
          obtain ⟨s1, hs1⟩ : ∃ s1, s1 = cy + ov := ⟨_, rfl⟩
          obtain ⟨p, hp⟩ : ∃ p, p = x * y := ⟨_, rfl⟩
          obtain ⟨r, hr⟩ : ∃ r, r = t % H := ⟨_, rfl⟩
          obtain ⟨q, hq⟩ : ∃ q, q = t / H := ⟨_, rfl⟩
          have hrH : r < H := by rw [hr]; exact Nat.mod_lt _ H_pos
          rw [← hq] at hb2
          rw [← hr, ← hq] at hstep
          rw [B_eq] at hb1
          have hp2 : p ≤ t := by omega
          have j1 : IntKind.u64.wrap ((cy : Int) + (ov : Int)) = (s1 : Int) := by rw [IntKind.wrap_u64]; omega
          have j2 : IntKind.u64.wrap ((x : Int) * (y : Int)) = (p : Int) := by rw [IntKind.wrap_u64, ← Int.natCast_mul, ← hp]; omega
          have j3 : IntKind.u64.wrap ((s1 : Int) + (p : Int)) = (t : Int) := by rw [IntKind.wrap_u64]; omega
          have j4 : (t : Int).tmod 4294967296 = (r : Int) := by rw [Int.tmod_eq_emod_of_nonneg (by omega), hr, H_eq]; omega
          have j5 : (t : Int) / 4294967296 = (q : Int) := by rw [hq, H_eq]; omega
          have j6 : IntKind.u64.wrap (q : Int) = q := by rw [IntKind.wrap_u64]; rw [H_eq] at hb2; omega
          have j7 : (t : Int) % 4294967296 = (r : Int) := by rw [hr, H_eq]; omega
          have g0 : (0 : Int) ≤ (n : Int) := by omega
          have g1 : (n : Int) < (N : Int) := by omega
          have g2 : (i : Int) < (X.length : Int) := by omega
          have g3 : (k : Int) < (Y.length : Int) := by omega
          have g4 : (0 : Int) ≤ (i : Int) := by omega
          have g5 : (0 : Int) ≤ (k : Int) := by omega
          have g6 : IntKind.i64.wrap (n : Int) = n := by rw [IntKind.wrap_i64]; omega
          have hrB : r < B := Nat.lt_trans hrH H_lt_B
          have HB := Lib.hid (fun m => (hbk.drewN m).set n r hrB)
          have HS := Lib.hid (show q < H ∧ (o2.set n r).length = N ∧ D32 (o2.set n r) ∧ hv (o2.set n r) + H ^ (i + (k + 1)) * q = hv (X.take i) * hv Y + H ^ i * (x * hv (Y.take (k + 1))) ∧ (∀ j, i + Y.length ≤ j → (o2.set n r).getD j 0 = 0) from
            ⟨hb2, by rw [List.length_set]; exact hol, hd.set n hrH, hstep, fun j hj => by rw [getD_set o2 n j r (by omega), if_neg (by omega)]; exact ho0 j hj⟩)
          have HE := Lib.hid (fun m => ((hE.drewN m).set HG.out n (.int .u64 (r : Int))))
          clear hs1 hp hr hq ht hstep hov ho0 hovv hyy hn hN3 hol hd hb1 hb2 hx hy hov2 hxc hyc hp2
          go_wp2
          go_quiet (fail)
          go_wp2
          go_roundw
          case rel => exact ⟨k + 1, q, _, hlt2, by go_num, rfl, HS.out.1, HB.out _, HS.out.2.1, HS.out.2.2.1, HS.out.2.2.2.1, HS.out.2.2.2.2, HE.out _⟩
          case measure => simp [intOf]; omega
        · obtain rfl : k = Y.length := by omega
          obtain ⟨n, hn⟩ : ∃ n, n = i + Y.length := ⟨_, rfl⟩
          have ik : (i : Int) + (Y.length : Int) = (n : Int) := by omega
          have hnN : n < N := by omega
          have hoc := hbk.cell n (by omega)
          have hfz := hbk.frozen n
          have hz := ho0 n (by omega)
          rw [hz] at hoc
          have hcB : cy < B := Nat.lt_trans hcy H_lt_B
          have hset := valb_set H o2 n cy (by omega)
          rw [hz, Nat.mul_zero, Nat.add_zero] at hset
          have hfin : hv (o2.set n cy) = hv (X.take (i + 1)) * hv Y := by
            have e1 := HTK.out
            rw [List.take_length, ← hn] at hov
            show valb H _ = valb H _ * _
            rw [hset, e1, Nat.add_mul, Nat.mul_assoc]; exact hov
          have HS := Lib.hid (show (o2.set n cy).length = N ∧ D32 (o2.set n cy) ∧ hv (o2.set n cy) = hv (X.take (i + 1)) * hv Y ∧ (∀ j, i + 1 + Y.length ≤ j → (o2.set n cy).getD j 0 = 0) from
            ⟨by rw [List.length_set]; exact hol, hd.set n hcy, hfin, fun j hj => by rw [getD_set o2 n j cy (by omega), if_neg (by omega)]; exact ho0 j (by omega)⟩)
          have hb2 := hbk.set n cy hcB
          have HE := Lib.hid (hE.set HG.out n (.int .u64 (cy : Int)))
          clear hset hfin hov ho0 hn hN3 hol hd hz
          go_wp2
          go_roundw
          case rel => exact ⟨i + 1, _, hlt, by go_num, hb2, HS.out.1, HS.out.2.1, HS.out.2.2.1, HS.out.2.2.2, HE.out⟩
          case measure => simp [intOf]; omega
    · obtain rfl : i = X.length := by omega
      rw [List.take_length] at hov
      have hown := hbk.own HG.out (by omega)
      rw [hol] at hown
      have HV := Lib.hid (show o.length = N ∧ D32 o ∧ hv o = hv X * hv Y from ⟨hol, hd, hov⟩)
      clear hol hd hov ho0
      go_wp2
      go_ret
      exact ⟨_, o, rfl, HV.out.1, HV.out.2.1, HV.out.2.2, hown, hE⟩
end Go.Proofs.YtlnfmngginihfaaGreatDoor
