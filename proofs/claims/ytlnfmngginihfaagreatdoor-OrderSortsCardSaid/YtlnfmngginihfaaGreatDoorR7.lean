/- the references' Left, Low. -/
import Derived.Test.YtlnfmngginihfaaGreatDoorR6
import Derived.Test.YtlnfmngginihfaaGreatDoorW7
set_option linter.unusedVariables false
set_option linter.unusedSimpArgs false
namespace Go.Proofs.YtlnfmngginihfaaGreatDoor
open Go.RowKit

set_option maxHeartbeats 1000000 in
set_option maxRecDepth 100000 in
theorem rleft1_c (A : Option Addr) (c : Nat) (xs : List Nat) (s : Nat) (w : World) (h : Rd w A c xs) (hs : s < 64) (hl : xs.length ≤ 100000000) :
    Calls Tryz.prog 115 #[.slice A xs.length c, .int .i64 s] w (CutR w xs.length (val xs * 2 ^ s)) := by
  have hpB : 2 ^ s < B := by rw [B_two]; exact Nat.pow_lt_pow_right (by omega) hs
  have h1 := fun w h => rdigits_c A c xs w h (by omega)
  have h2 := fun w => rword_c (2 ^ s) w hpB
  have hv1 := dg_val xs
  have hd1 := dg_d32 h.w64
  have hl1 := dg_len xs
  generalize dg xs = ds at *
  obtain ⟨q, hq⟩ : ∃ q, q = 2 ^ s := ⟨_, rfl⟩
  rw [← hq] at h2 hpB
  have i1 : IntKind.u64.wrap (2 ^ s) = (q : Int) := by rw [IntKind.wrap_u64, hq]; rw [hq, B_eq] at hpB; rw [show ((2 : Int) ^ s) = ((2 ^ s : Nat) : Int) by rw [Int.natCast_pow]; rfl]; omega
  have i2 : IntKind.u64.wrap (1 * 2 ^ s) = (q : Int) := by rw [Int.one_mul]; exact i1
  have g0 : (0 : Int) ≤ (s : Int) := by omega
  have hlb : ds.length ≤ 200000000 := by omega
  have HV := Lib.hid (show hv ds = val xs from hv1)
  have HQ := Lib.hid hq
  clear hv1 hl1 hq
  go_enter Tryz.func115, Tryz.ntmps115
  go_wp2_with fail
  go_region_held3 (fun _ => True)
    (first | trivial | go_keep)
    (first
      | (go_at_call 107; (with_reducible refine (h1 _ h.drew).mono ?_); rintro e w1 ⟨v, rfl, ho1, hb1⟩; obtain ⟨A1, c1, rfl, hr1⟩ := ho1.rd)
      | (go_at_call 122; go_must ((with_reducible refine (h2 _).mono ?_); rintro e w2 ⟨v, es, rfl, hl2, hd2, hv2, ho2, hb2⟩; obtain ⟨A2, c2, rfl, hr2⟩ := ho2.rd; have HV2 := Lib.hid hv2; have HL2 := Lib.hid hl2; have hlb2 : es.length ≤ 2 := (by omega); clear hv2 hl2))
      | (go_at_call 121; (with_reducible refine (rtimes_c A1 A2 c1 c2 ds es _ (hr1.ext hb2) hr2 hd1 hd2 ?h1 ?h2).mono ?_); (case h1 => omega); (case h2 => omega); rintro e w3 ⟨v, fs, rfl, hl3, hd3, hv3, ho3, hb3⟩; obtain ⟨A3, c3, rfl, hr3⟩ := ho3.rd; have hlb3 : fs.length ≤ 300000000 := (by omega); have HV3 := Lib.hid hv3; clear hl3 hv3)
      | (go_at_call 117; (with_reducible refine (rcut_c A3 c3 fs xs.length _ hr3 hd3 ?h1 ?h2).mono ?_); (case h1 => omega); (case h2 => omega); rintro e w4 ⟨v, row, rfl, hrl, hrv, ho4, hb4⟩))
  go_wp2
  go_ret2
  have hE : Ext w w3 := (((Ext.refl w).drew.tr hb1).tr hb2).tr hb3
  have hV : hv fs = val xs * 2 ^ s := by rw [HV3.out, HV2.out, HV.out, HQ.out]
  rw [hV] at hrv
  refine ⟨_, row, ?_, hrl, hrv, ho4.low hE.size, hE.tr hb4⟩
  rw [← hV]; rfl
set_option maxHeartbeats 1000000 in
set_option maxRecDepth 100000 in
theorem rleft_c (A : Option Addr) (c : Nat) (xs : List Nat) (s : Nat) (w : World) (h : Rd w A c xs) (hs : s ≤ 10000000) (hl : xs.length ≤ 10000000) :
    Calls Tryz.prog 105 #[.slice A xs.length c, .int .i64 s] w (Res w (cn (val xs * 2 ^ s))) := by
  have h1 := fun w h => rleft1_c A c xs (s % 64) w h (Nat.mod_lt _ (by omega)) (by omega)
  have hx := val_lt h.w64
  have hps := pow_split s
  obtain ⟨d, hd⟩ : ∃ d, d = s / 64 := ⟨_, rfl⟩
  obtain ⟨r, hr⟩ : ∃ r, r = s % 64 := ⟨_, rfl⟩
  have i1 : (s : Int) / 64 = (d : Int) := by omega
  have i2 : (s : Int) % 64 = (r : Int) := by omega
  rw [← hr] at h1
  have hdb : d ≤ 10000000 := by omega
  have hr64 : r < 64 := by omega
  have HPS := Lib.hid (show 2 ^ s = B ^ d * 2 ^ r by rw [hd, hr]; exact hps)
  have HX := Lib.hid hx
  clear hps hd hr hx
  go_enter Tryz.func105, Tryz.ntmps105
  go_wp2_with fail
  refine (h1 _ h).mono ?_
  rintro e w1 ⟨v, row, rfl, hrl, hrv, ho1, hb1⟩
  obtain ⟨A1, c1, rfl, hr1⟩ := ho1.rd
  obtain ⟨hi, hhi⟩ : ∃ hi, hi = val xs * 2 ^ r / B ^ xs.length % B := ⟨_, rfl⟩
  rw [← hhi]
  have hhB : hi < B := by rw [hhi]; exact mod_B_lt _
  have HH1 := Lib.hid (show row.length = xs.length ∧ val row = val xs * 2 ^ r % B ^ xs.length ∧ hi = val xs * 2 ^ r / B ^ xs.length % B from ⟨hrl, hrv, hhi⟩)
  have hrb : row.length ≤ 10000000 := by omega
  clear hrl hrv hhi
  go_wp2_with (first
    | (at_make; refine wp_make rfl _ _ _ rfl Tryz.underlying37 d _ rfl rfl rfl (by omega) ?_; intro g w2 hg hbk hb2)
    | (at_builtin; refine wp_append rfl _ _ _ rfl Tryz.underlying37 w1.heap.size _ (List.replicate d 0) rfl ?ho A1 row.length c1 row rfl rfl (hr1.ext hb2) ?hb ?hl ?_; (case ho => (have h7 := hbk.own hg (by simp; omega)); rw [List.length_replicate] at h7; exact h7); (case hb => exact hb2.size); (case hl => simp; omega); intro v3 w3 ho3 hb3 hat3 hg3; have hE3 : Ext w1 w3 := Below.trans hb2 hb3)
    | (at_builtin; refine wp_append rfl _ _ _ rfl Tryz.underlying37 w1.heap.size _ (List.replicate d 0 ++ row) rfl (ho3.ext ((Ext.refl _).al _)) (some ⟨w3.heap.size, 0, none⟩) 1 1 [hi] rfl rfl (Rd.new1 w3 hi hhB) ?hb ?hl ?_; (case hb => have := hE3.size; simp; omega); (case hl => simp; omega); intro v4 w4 ho4 hb4 hat4 hg4; have hE4 : Ext w1 w4 := Below.trans (hE3.al _) hb4; obtain ⟨A4, c4, rfl, hr4⟩ := ho4.rd)
    | fail)
  have hlen : (List.replicate d 0 ++ row ++ [hi]).length ≤ 100000000 := by simp; omega
  have hval : val (List.replicate d 0 ++ row ++ [hi]) = val xs * 2 ^ s := by
    obtain ⟨e1, e2, e3⟩ := HH1.out
    have hlt : val xs * 2 ^ r < B ^ xs.length * B := by
      have h2 : 2 ^ r < B := by rw [B_two]; exact Nat.pow_lt_pow_right (by omega) hr64
      exact Nat.mul_lt_mul'' HX.out h2
    have h3 : val xs * 2 ^ r / B ^ xs.length < B := by rw [Nat.div_lt_iff_lt_mul (Nat.pow_pos B_pos), Nat.mul_comm B]; exact hlt
    rw [Nat.mod_eq_of_lt h3] at e3
    rw [HPS.out, Nat.mul_left_comm, val, List.append_assoc, valb_append, valb_zeros, List.length_replicate, valb_snoc, e1, Nat.zero_add]
    congr 1
    rw [show valb B row = val row from rfl, e2, e3, Nat.mod_add_div]
  have hl4 : (List.replicate d 0 ++ row ++ [hi]).length = d + (row.length + 1) := by simp
  generalize (List.replicate d 0 ++ row ++ [hi]) = al at *
  have HVAL := Lib.hid hval
  have htr := rtrim_c A4 c4 al _ hr4 hlen
  rw [hl4] at htr
  clear hval hl4
  refine htr.mono ?_
  rintro e w5 ⟨v, rfl, ho5, hb5⟩
  rw [HVAL.out] at ho5
  go_wp2
  go_ret
  have hE := hb1.tr hE4
  exact ⟨_, rfl, ho5.low hE.size, hE.tr hb5⟩
end Go.Proofs.YtlnfmngginihfaaGreatDoor
