/- the references' Left, Low. -/
import Derived.Test.YtplnaajoeoiieaaDoorR6
import Derived.Test.YtplnaajoeoiieaaDoorW6
set_option linter.unusedVariables false
set_option linter.unusedSimpArgs false
namespace Go.Proofs.YtplnaajoeoiieaaDoor
open Go.RowKit

set_option maxHeartbeats 1000000 in
set_option maxRecDepth 100000 in
theorem rleft1_c (A : Option Addr) (c : Nat) (xs : List Nat) (s : Nat) (w : World) (h : Rd w A c xs) (hs : s < 64) (hl : xs.length ≤ 100000000) :
    Calls Tryd.prog 114 #[.slice A xs.length c, .int .i64 s] w (CutR w xs.length (val xs * 2 ^ s)) := by
  have hpB : 2 ^ s < B := by rw [B_two]; exact Nat.pow_lt_pow_right (by omega) hs
  have h1 := fun w h => rdigits_c A c xs w h (by omega)
  have h2 := fun w => rword_c (2 ^ s) w hpB
  have hv1 := dg_val xs
  have hd1 := dg_d32 h.w64
  have hl1 := dg_len xs
  generalize dg xs = ds at *
  obtain ⟨q, hq⟩ : ∃ q, q = 2 ^ s := ⟨_, rfl⟩
  rw [← hq] at h2 hpB
  have i1 : IntKind.u64.wrap (2 ^ s) = (q : Int) := by rw [IntKind.wrap_u64, hq]; rw [hq, B_eq] at hpB; rw [show ((2 : Int) ^ s) = ((2 ^ s : Nat) : Int) by rw [Int.natCast_pow]; rfl]; omega
  have i2 : IntKind.u64.wrap (1 * 2 ^ s) = (q : Int) := by rw [Int.one_mul]; exact i1
  have g0 : (0 : Int) ≤ (s : Int) := by omega
  have hlb : ds.length ≤ 200000000 := by omega
  have HV := Lib.hid (show hv ds = val xs from hv1)
  have HQ := Lib.hid hq
  clear hv1 hl1 hq
  go_enter Tryd.func114, Tryd.ntmps114
  go_wp2_with fail
  go_region_held3 (fun _ => True)
    (first | trivial | go_keep)
    (first
      | (go_at_call 98; (with_reducible refine (h1 _ h.drew).mono ?_); rintro e w1 ⟨v, rfl, ho1, hb1⟩; obtain ⟨A1, c1, rfl, hr1⟩ := ho1.rd)
      | (go_at_call 115; go_must ((with_reducible refine (h2 _).mono ?_); rintro e w2 ⟨v, es, rfl, hl2, hd2, hv2, ho2, hb2⟩; obtain ⟨A2, c2, rfl, hr2⟩ := ho2.rd; have HV2 := Lib.hid hv2; have HL2 := Lib.hid hl2; have hlb2 : es.length ≤ 2 := (by omega); clear hv2 hl2))
      | (go_at_call 137; (with_reducible refine (rtimes_c A1 A2 c1 c2 ds es _ (hr1.ext hb2) hr2 hd1 hd2 ?h1 ?h2).mono ?_); (case h1 => omega); (case h2 => omega); rintro e w3 ⟨v, fs, rfl, hl3, hd3, hv3, ho3, hb3⟩; obtain ⟨A3, c3, rfl, hr3⟩ := ho3.rd; have hlb3 : fs.length ≤ 300000000 := (by omega); have HV3 := Lib.hid hv3; clear hl3 hv3)
      | (go_at_call 136; (with_reducible refine (rcut_c A3 c3 fs xs.length _ hr3 hd3 ?h1 ?h2).mono ?_); (case h1 => omega); (case h2 => omega); rintro e w4 ⟨v, row, rfl, hrl, hrv, ho4, hb4⟩))
  go_wp2
  go_ret2
  have hE : Ext w w3 := (((Ext.refl w).drew.tr hb1).tr hb2).tr hb3
  have hV : hv fs = val xs * 2 ^ s := by rw [HV3.out, HV2.out, HV.out, HQ.out]
  rw [hV] at hrv
  refine ⟨_, row, ?_, hrl, hrv, ho4.low hE.size, hE.tr hb4⟩
  rw [← hV]; rfl
set_option maxHeartbeats 1000000 in
set_option maxRecDepth 100000 in
theorem rleft_c (A : Option Addr) (c : Nat) (xs : List Nat) (s : Nat) (w : World) (h : Rd w A c xs) (hs : s ≤ 10000000) (hl : xs.length ≤ 10000000) :
    Calls Tryd.prog 73 #[.slice A xs.length c, .int .i64 s] w (Res w (cn (val xs * 2 ^ s))) := by
  have h1 := fun w h => rleft1_c A c xs (s % 64) w h (Nat.mod_lt _ (by omega)) (by omega)
  have hx := val_lt h.w64
  have hps := pow_split s
  obtain ⟨d, hd⟩ : ∃ d, d = s / 64 := ⟨_, rfl⟩
  obtain ⟨r, hr⟩ : ∃ r, r = s % 64 := ⟨_, rfl⟩
  have i1 : (s : Int) / 64 = (d : Int) := by omega
  have i2 : (s : Int) % 64 = (r : Int) := by omega
  rw [← hr] at h1
  have hdb : d ≤ 10000000 := by omega
  have hr64 : r < 64 := by omega
  have HPS := Lib.hid (show 2 ^ s = B ^ d * 2 ^ r by rw [hd, hr]; exact hps)
  have HX := Lib.hid hx
  clear hps hd hr hx
  go_enter Tryd.func73, Tryd.ntmps73
  go_wp2_with fail
  refine (h1 _ h).mono ?_
  rintro e w1 ⟨v, row, rfl, hrl, hrv, ho1, hb1⟩
  obtain ⟨A1, c1, rfl, hr1⟩ := ho1.rd
  obtain ⟨hi, hhi⟩ : ∃ hi, hi = val xs * 2 ^ r / B ^ xs.length % B := ⟨_, rfl⟩
  rw [← hhi]
  have hhB : hi < B := by rw [hhi]; exact mod_B_lt _
  have HH1 := Lib.hid (show row.length = xs.length ∧ val row = val xs * 2 ^ r % B ^ xs.length ∧ hi = val xs * 2 ^ r / B ^ xs.length % B from ⟨hrl, hrv, hhi⟩)
  have hrb : row.length ≤ 10000000 := by omega
  clear hrl hrv hhi
  go_wp2_with (first
    | (at_make; refine wp_make rfl _ _ _ rfl Tryd.underlying34 d _ rfl rfl rfl (by omega) ?_; intro g w2 hg hbk hb2)
    | (at_builtin; refine wp_append rfl _ _ _ rfl Tryd.underlying34 w1.heap.size _ (List.replicate d 0) rfl ?ho A1 row.length c1 row rfl rfl (hr1.ext hb2) ?hb ?hl ?_; (case ho => (have h7 := hbk.own hg (by simp; omega)); rw [List.length_replicate] at h7; exact h7); (case hb => exact hb2.size); (case hl => simp; omega); intro v3 w3 ho3 hb3 hat3 hg3; have hE3 : Ext w1 w3 := Below.trans hb2 hb3)
    | (at_builtin; refine wp_append rfl _ _ _ rfl Tryd.underlying34 w1.heap.size _ (List.replicate d 0 ++ row) rfl (ho3.ext ((Ext.refl _).al _)) (some ⟨w3.heap.size, 0, none⟩) 1 1 [hi] rfl rfl (Rd.new1 w3 hi hhB) ?hb ?hl ?_; (case hb => have := hE3.size; simp; omega); (case hl => simp; omega); intro v4 w4 ho4 hb4 hat4 hg4; have hE4 : Ext w1 w4 := Below.trans (hE3.al _) hb4; obtain ⟨A4, c4, rfl, hr4⟩ := ho4.rd)
    | fail)
  have hlen : (List.replicate d 0 ++ row ++ [hi]).length ≤ 100000000 := by simp; omega
  have hval : val (List.replicate d 0 ++ row ++ [hi]) = val xs * 2 ^ s := by
    obtain ⟨e1, e2, e3⟩ := HH1.out
    have hlt : val xs * 2 ^ r < B ^ xs.length * B := by
      have h2 : 2 ^ r < B := by rw [B_two]; exact Nat.pow_lt_pow_right (by omega) hr64
      exact Nat.mul_lt_mul'' HX.out h2
    have h3 : val xs * 2 ^ r / B ^ xs.length < B := by rw [Nat.div_lt_iff_lt_mul (Nat.pow_pos B_pos), Nat.mul_comm B]; exact hlt
    rw [Nat.mod_eq_of_lt h3] at e3
    rw [HPS.out, Nat.mul_left_comm, val, List.append_assoc, valb_append, valb_zeros, List.length_replicate, valb_snoc, e1, Nat.zero_add]
    congr 1
    rw [show valb B row = val row from rfl, e2, e3, Nat.mod_add_div]
  have hl4 : (List.replicate d 0 ++ row ++ [hi]).length = d + (row.length + 1) := by simp
  generalize (List.replicate d 0 ++ row ++ [hi]) = al at *
  have HVAL := Lib.hid hval
  have htr := rtrim_c A4 c4 al _ hr4 hlen
  rw [hl4] at htr
  clear hval hl4
  refine htr.mono ?_
  rintro e w5 ⟨v, rfl, ho5, hb5⟩
  rw [HVAL.out] at ho5
  go_wp2
  go_ret
  have hE := hb1.tr hE4
  exact ⟨_, rfl, ho5.low hE.size, hE.tr hb5⟩
theorem low_step {V i x q : Nat} (hV : V < B ^ i) : (V + B ^ i * x) % (B ^ i * q) = V + B ^ i * (x % q) := by
  rw [Nat.mod_mul, Nat.add_mul_mod_self_left, Nat.mod_eq_of_lt hV, Nat.add_mul_div_left _ _ (Nat.pow_pos B_pos), Nat.div_eq_of_lt hV, Nat.zero_add]
set_option maxHeartbeats 1000000 in
set_option maxRecDepth 100000 in
theorem rlow_c (A : Option Addr) (c : Nat) (xs : List Nat) (s : Nat) (w : World) (h : Rd w A c xs) (hs : s ≤ 1000000000) (hl : xs.length ≤ 10000000) :
    Calls Tryd.prog 82 #[.slice A xs.length c, .int .i64 s] w (Res w (cn (val xs % 2 ^ s))) := by
  have hw := h.w64
  go_enter Tryd.func82, Tryd.ntmps82
  go_wp2
  go_loopw [5, 6] (fun v5 v6 wr => ∃ (i : Nat) (o : List Nat), i ≤ xs.length ∧ v6 = .int .i64 i ∧ Own wr w.heap.size v5 o ∧ o.length = i ∧ val o = val (xs.take i) % 2 ^ s ∧ Ext w wr) (fun _ v _ => xs.length - (intOf v).toNat)
  case atStart => exact ⟨0, [], Nat.zero_le _, rfl, Own.nil _ _, rfl, by simp [val, valb], Ext.refl _⟩
  case round =>
    obtain ⟨i, o, hi, rfl, hown, hol, hov, hE⟩ := hrel
    obtain ⟨m, hm⟩ : ∃ m, m = 64 * i := ⟨_, rfl⟩
    have im : 64 * (i : Int) = (m : Int) := by omega
    by_cases hlt : i < xs.length ∧ m < s
    · obtain ⟨hlt, hms⟩ := hlt
      obtain ⟨ad, rfl, hc⟩ := h.cell i hlt
      have hc1 := hE.cell hc
      have hx := hw.get i
      obtain ⟨d, hd⟩ : ∃ d, d = s - m := ⟨_, rfl⟩
      have id : (s : Int) - (m : Int) = (d : Int) := by omega
      have hVlt : val (xs.take i) < B ^ i := by
        have := val_lt (hw.take i)
        rwa [List.length_take, Nat.min_eq_left (by omega)] at this
      have hps : 2 ^ s = B ^ i * 2 ^ d := by rw [B_two, ← Nat.pow_mul, ← Nat.pow_add]; congr 1; omega
      have hob : val o = val (xs.take i) := by
        rw [hov, hps, Nat.mod_eq_of_lt]
        exact Nat.lt_of_lt_of_le hVlt (Nat.le_mul_of_pos_right _ (Nat.pow_pos (by omega)))
      have htk : val (xs.take (i + 1)) = val (xs.take i) + B ^ i * xs.getD i 0 := valb_take_past B xs i
      obtain ⟨x, hxx⟩ : ∃ x, xs.getD i 0 = x := ⟨_, rfl⟩
      rw [hxx] at hc hc1 hx htk
      have hfin : ∀ u, u = x % 2 ^ d → val (o ++ [u]) = val (xs.take (i + 1)) % 2 ^ s := fun u hu => by
        rw [htk, hps, low_step hVlt, ← hu, val, valb_snoc, hol]
        show val o + _ = _
        rw [hob]
      have HF := Lib.hid hfin
      have HOL := Lib.hid hol
      have hob2 : o.length ≤ 10000000 := by omega
      have HE := Lib.hid hE
      have hg0 : (i : Int) < (xs.length : Int) := by omega
      by_cases hd64 : d < 64
      · obtain ⟨p, hp⟩ : ∃ p, p = 2 ^ d := ⟨_, rfl⟩
        have hpB : p < B := by rw [hp, B_two]; exact Nat.pow_lt_pow_right (by omega) hd64
        have hp0 : 0 < p := by rw [hp]; exact Nat.pow_pos (by omega)
        obtain ⟨u, hu⟩ : ∃ u, u = x % p := ⟨_, rfl⟩
        have huB : u < B := by rw [hu]; exact Nat.lt_of_le_of_lt (Nat.mod_le _ _) hx
        have j1 : IntKind.u64.wrap (2 ^ d) = (p : Int) := by rw [IntKind.wrap_u64]; rw [B_eq] at hpB; rw [show ((2 : Int) ^ d) = ((2 ^ d : Nat) : Int) by rw [Int.natCast_pow]; rfl, ← hp]; omega
        have j2 : IntKind.u64.wrap (1 * 2 ^ d) = (p : Int) := by rw [Int.one_mul]; exact j1
        have j3 : (x : Int) % (p : Int) = (u : Int) := by rw [hu, Int.natCast_emod]
        have j4 : (x : Int).tmod (p : Int) = (u : Int) := by rw [Int.tmod_eq_emod_of_nonneg (by omega)]; exact j3
        have hpz : ((p : Int) == 0) = false := by rw [beq_eq_false_iff_ne]; omega
        have HU := Lib.hid (show u = x % 2 ^ d by rw [hu, hp])
        clear hfin hps hob htk hxx hov hol hVlt hu hp hm hd
        go_wp2_with (at_builtin; refine wp_append rfl _ _ _ rfl Tryd.underlying34 w.heap.size _ o rfl (hown.ext ((Ext.refl _).al _)) (some ⟨wr.heap.size, 0, none⟩) 1 1 [u] rfl rfl (Rd.new1 wr u huB) ?hb ?hl ?_; (case hb => simp; have := hE.size; omega); (case hl => simp; omega); intro v' w1 ho hb1 hat hg)
        go_roundw
        case rel => exact ⟨i + 1, _, hlt, by go_num, ho, by simp [HOL.out], HF.out _ HU.out, Below.trans (HE.out.al _) hb1⟩
        case measure => simp [intOf]; omega
      · have hxm : x = x % 2 ^ d := by
          refine (Nat.mod_eq_of_lt (Nat.lt_of_lt_of_le hx ?_)).symm
          rw [B_two]; exact Nat.pow_le_pow_right (by omega) (by omega)
        have HU := Lib.hid hxm
        clear hfin hps hob htk hxx hov hol hVlt hm hd hxm
        go_wp2_with (at_builtin; refine wp_append rfl _ _ _ rfl Tryd.underlying34 w.heap.size _ o rfl (hown.ext ((Ext.refl _).al _)) (some ⟨wr.heap.size, 0, none⟩) 1 1 [x] rfl rfl (Rd.new1 wr x hx) ?hb ?hl ?_; (case hb => simp; have := hE.size; omega); (case hl => simp; omega); intro v' w1 ho hb1 hat hg)
        go_roundw
        case rel => exact ⟨i + 1, _, hlt, by go_num, ho, by simp [HOL.out], HF.out _ HU.out, Below.trans (HE.out.al _) hb1⟩
        case measure => simp [intOf]; omega
    · have hfin : val o = val xs % 2 ^ s := by
        rw [hov]
        by_cases hil : i < xs.length
        · have hms : s ≤ m := by omega
          have e : val (xs.take i) = val xs % B ^ i := valb_take_mod B B_pos xs hw i
          rw [e]
          refine Nat.mod_mod_of_dvd _ ?_
          rw [B_two, ← Nat.pow_mul]
          exact Nat.pow_dvd_pow 2 (by omega)
        · rw [List.take_of_length_le (by omega)]
      obtain ⟨A5, c5, rfl, hr5⟩ := hown.rd
      have hob : o.length ≤ 10000000 := by omega
      have HF := Lib.hid hfin
      clear hfin hov hm hol
      by_cases hil : i < xs.length
      · have hms : s ≤ m := by omega
        clear hlt
        go_wp2_with (go_at_call 70; refine (rtrim_c A5 c5 o _ hr5 ?hx).mono ?_; (case hx => omega); rintro e w1 ⟨v, rfl, ho, hb⟩)
        rw [HF.out] at ho
        go_ret
        exact ⟨_, rfl, ho.low hE.size, hE.tr hb⟩
      · clear hlt
        go_wp2_with (go_at_call 70; refine (rtrim_c A5 c5 o _ hr5 ?hx).mono ?_; (case hx => omega); rintro e w1 ⟨v, rfl, ho, hb⟩)
        rw [HF.out] at ho
        go_ret
        exact ⟨_, rfl, ho.low hE.size, hE.tr hb⟩
end Go.Proofs.YtplnaajoeoiieaaDoor
