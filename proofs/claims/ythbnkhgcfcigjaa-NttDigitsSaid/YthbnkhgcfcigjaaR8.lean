/- the references' Minus, Sub, Compare, Cmp, Canonical, Same, Is. -/
import Derived.Test.YthbnkhgcfcigjaaR4
set_option linter.unusedVariables false
set_option linter.unusedSimpArgs false
namespace Go.Proofs.Ythbnkhgcfcigjaa
open Go.RowKit

set_option maxHeartbeats 1000000 in
set_option maxRecDepth 100000 in
theorem rminus_c (A A' : Option Addr) (c c' : Nat) (X Y : List Nat) (w : World) (h : Rd w A c X) (h' : Rd w A' c' Y) (hX : D32 X) (hY : D32 Y) (hs : X.length ≤ 400000000) (hYl : hv Y < H ^ X.length) :
    Calls Try.prog 100 #[.slice A X.length c, .slice A' Y.length c'] w fun e w' => ∃ v o, ∃ b : Bool, e = .returned (.tuple #[v, .bool b]) ∧ o.length = X.length ∧ D32 o ∧ (hv Y ≤ hv X → b = false ∧ hv o = hv X - hv Y) ∧ (hv X < hv Y → b = true) ∧ Own w' w.heap.size v o ∧ Ext w w' := by
  go_enter Try.func100, Try.ntmps100
  go_wp2
  go_loopw [6, 7, 8] (fun v6 v7 v8 wr => ∃ (i cy : Nat) (o : List Nat), i ≤ X.length ∧ v8 = .int .i64 i ∧ v7 = .int .u64 cy ∧ cy ≤ 1 ∧ Own wr w.heap.size v6 o ∧ o.length = i ∧ D32 o ∧ hv o + hv (Y.take i) = hv (X.take i) + H ^ i * cy ∧ Ext w wr)
    (fun _ _ v _ => X.length - (intOf v).toNat)
  case atStart => exact ⟨0, 0, [], Nat.zero_le _, rfl, rfl, by omega, Own.nil _ _, rfl, D32.nil, by simp [valb], Ext.refl _⟩
  case round =>
    obtain ⟨i, cy, o, hi, rfl, rfl, hc, hown, hl, hd, hv1, hE⟩ := hrel
    by_cases hlt : i < X.length
    · obtain ⟨ad, rfl, hxc⟩ := h.cell i hlt
      have hxc1 := hE.cell hxc
      have hx := hX.get i
      have hy := hY.get i
      have dy := fun m => rdigit_c A' c' Y i (wr.drewN m) ((h'.ext hE).drewN m)
      have hstep := fun t ht => minus_step (out := o) (a := X) (b := Y) (i := i) (c := cy) (x := t) hl hc hx hy ht hv1
      generalize X.getD i 0 = x at *
      generalize Y.getD i 0 = y at *
      have hdq : ∀ m, Calls Try.prog 94 #[.slice A' Y.length c', .int .i64 i] (wr.drewN m) fun e w' => e = .returned (.int .u64 (y : Int)) ∧ w' = wr.drewN m := fun m => (dy m).mono fun e w1 ⟨he, hw⟩ => ⟨he, hw.symm⟩
      clear dy
      obtain ⟨s1, hs1⟩ : ∃ s1, s1 = x + H := ⟨_, rfl⟩
      obtain ⟨s2, hs2⟩ : ∃ s2, s2 = x + H - y := ⟨_, rfl⟩
      obtain ⟨t, ht⟩ : ∃ t, t = x + H - y - cy := ⟨_, rfl⟩
      obtain ⟨hq1, hq2⟩ := hstep t (by omega)
      obtain ⟨r, hr⟩ : ∃ r, r = t % H := ⟨_, rfl⟩
      obtain ⟨q, hq⟩ : ∃ q, q = t / H := ⟨_, rfl⟩
      obtain ⟨b, hb⟩ : ∃ b, b = 1 - q := ⟨_, rfl⟩
      have hrH : r < H := by rw [hr]; exact Nat.mod_lt _ H_pos
      rw [← hq] at hq1
      rw [← hr, ← hq, ← hb] at hq2
      rw [H_eq] at hx hy hs1 hs2 ht
      have j1 : IntKind.u64.wrap ((x : Int) + 4294967296) = (s1 : Int) := by rw [IntKind.wrap_u64]; omega
      have j2 : IntKind.u64.wrap ((s1 : Int) - (y : Int)) = (s2 : Int) := by rw [IntKind.wrap_u64]; omega
      have j3 : IntKind.u64.wrap ((s2 : Int) - (cy : Int)) = (t : Int) := by rw [IntKind.wrap_u64]; omega
      have j4 : (t : Int) % 4294967296 = (r : Int) := by rw [hr, H_eq]; omega
      have j5 : (t : Int).tmod 4294967296 = (r : Int) := by rw [Int.tmod_eq_emod_of_nonneg (by omega)]; exact j4
      have j6 : (t : Int) / 4294967296 = (q : Int) := by rw [hq, H_eq]; omega
      have j7 : IntKind.u64.wrap (q : Int) = q := by rw [IntKind.wrap_u64]; omega
      have j8 : IntKind.u64.wrap (1 - (q : Int)) = (b : Int) := by rw [IntKind.wrap_u64]; omega
      have g0 : (0 : Int) ≤ (i : Int) := by omega
      have g1 : (i : Int) < (X.length : Int) := by omega
      have HST := Lib.hid (show b ≤ 1 ∧ hv (o ++ [r]) + hv (Y.take (i + 1)) = hv (X.take (i + 1)) + H ^ (i + 1) * b from ⟨by omega, hq2⟩)
      have hrB : r < B := Nat.lt_trans hrH H_lt_B
      have hd2 := hd.snoc hrH
      have HL := Lib.hid hl
      have hol : o.length ≤ 400000000 := by omega
      clear hs1 hs2 ht hr hq hb hx hy hstep hq1 hq2 hv1 hi hl
      go_wp2
      go_quiet (first | (go_at_call 94; refine Calls.quiet_of_same (hdq _)))
      have hE2 := hE.drewN nq
      have hown2 := hown.ext ((Ext.refl wr).drewN nq)
      generalize wr.drewN nq = w2 at *
      go_wp2_with (at_builtin; refine wp_append rfl _ _ _ rfl Try.underlying30 w.heap.size _ o rfl (hown2.ext ((Ext.refl _).al _)) (some ⟨w2.heap.size, 0, none⟩) 1 1 [r] rfl rfl (Rd.new1 w2 r hrB) ?hb ?hl ?_; (case hb => simp; have := hE2.size; omega); (case hl => simp; omega); intro v' w1 ho hb1 hat hg)
      go_roundw
      case rel => exact ⟨i + 1, b, o ++ [r], hlt, by go_num, rfl, HST.out.1, ho, by simp [HL.out], hd2, HST.out.2, Below.trans (hE2.al _) hb1⟩
      case measure => simp [intOf]; omega
    · obtain rfl : i = X.length := by omega
      rw [List.take_length] at hv1
      have e2 : hv (Y.take X.length) = hv Y := by
        have : hv (Y.take X.length) = hv Y % H ^ X.length := valb_take_mod H H_pos Y hY _
        rw [this, Nat.mod_eq_of_lt hYl]
      rw [e2] at hv1
      have ho1 := hv_lt hd
      rw [hl] at ho1
      obtain ⟨f1, f2⟩ := minus_end ho1 (hv_lt hX) hc hv1
      obtain ⟨b, hb⟩ : ∃ b, b = ((cy : Int) == 1) := ⟨_, rfl⟩
      have HF := Lib.hid (show o.length = X.length ∧ (hv Y ≤ hv X → b = false ∧ hv o = hv X - hv Y) ∧ (hv X < hv Y → b = true) from
        ⟨hl, fun hle => ⟨by rw [hb, (f1 hle).1]; rfl, (f1 hle).2⟩, fun hlt => by rw [hb, f2 hlt]; rfl⟩)
      have hb' := hb.symm
      clear hv1 ho1 f1 f2 e2 hl hb
      go_wp2
      go_ret2
      exact ⟨_, o, b, rfl, HF.out.1, hd, HF.out.2.1, HF.out.2.2, hown, hE⟩
set_option maxHeartbeats 1000000 in
set_option maxRecDepth 100000 in
theorem rsub_c (A A' : Option Addr) (c c' : Nat) (xs ys : List Nat) (w : World) (h : Rd w A c xs) (h' : Rd w A' c' ys) (hle : val ys ≤ val xs) (hs : xs.length ≤ 10000000) (hs' : ys.length ≤ 10000000) :
    Calls Try.prog 83 #[.slice A xs.length c, .slice A' ys.length c'] w (Res w (cn (val xs - val ys))) := by
  have h1 := rdigits_c A c xs w h (by omega)
  have h2 := fun w1 h' => rtrim_c A' c' ys w1 h' (by omega)
  have hl3 : (cn (val ys)).length ≤ 10000000 := by
    have : (cn (val ys)).length ≤ ys.length := (cn_len_le _ _).2 (val_lt h'.w64)
    omega
  have h3 := fun A2 c2 w1 h' => rdigits_c A2 c2 (cn (val ys)) w1 h' (by omega)
  have e1 := dg_val xs
  have e2 := dg_val (cn (val ys))
  rw [val_cn] at e2
  have d1 := dg_d32 h.w64
  have d2 := dg_d32 (W64.cn (val ys))
  have l1 := dg_len xs
  have l2 := dg_len (cn (val ys))
  have hx := val_lt h.w64
  generalize cn (val ys) = yc at *
  generalize dg xs = ds at *
  generalize dg yc = es at *
  have HV := Lib.hid (show hv ds = val xs ∧ hv es = val ys from ⟨e1, e2⟩)
  have b1 : ds.length ≤ 20000000 := by omega
  have b2 : hv es < H ^ ds.length := by rw [e2, l1, H_pow_two]; omega
  clear e1 e2 l1 l2
  go_enter Try.func83, Try.ntmps83
  go_wp2_with fail
  refine h1.mono ?_
  rintro e w1 ⟨v, rfl, ho, hb⟩
  obtain ⟨A1, c1, rfl, hr⟩ := ho.rd
  go_wp2_with fail
  refine (h2 _ (h'.ext hb)).mono ?_
  rintro e w2 ⟨v, rfl, ho2, hb2⟩
  obtain ⟨A2, c2, rfl, hr2⟩ := ho2.rd
  go_wp2_with fail
  refine (h3 A2 c2 _ hr2).mono ?_
  rintro e w3 ⟨v, rfl, ho3, hb3⟩
  obtain ⟨A3, c3, rfl, hr3⟩ := ho3.rd
  go_wp2_with fail
  refine (rminus_c A1 A3 c1 c3 ds es _ ((hr.ext hb2).ext hb3) hr3 d1 d2 (by omega) b2).mono ?_
  rintro e w4 ⟨v, fs, b, rfl, hl4, hd4, f1, f2, ho4, hb4⟩
  obtain ⟨A4, c4, rfl, hr4⟩ := ho4.rd
  obtain ⟨hbf, hv4⟩ := f1 (by rw [HV.out.1, HV.out.2]; exact hle)
  rw [HV.out.1, HV.out.2] at hv4
  have HV4 := Lib.hid hv4
  have b4 : fs.length ≤ 20000000 := by omega
  subst hbf
  clear hv4 hl4 f1 f2
  go_wp2_with fail
  refine (rnat_c A4 c4 fs _ hr4 hd4 (by omega)).mono ?_
  rintro e w5 ⟨v, rfl, ho5, hb5⟩
  rw [HV4.out] at ho5
  go_wp2
  go_ret
  have hE := ((hb.tr hb2).tr hb3).tr hb4
  exact ⟨_, rfl, ho5.low hE.size, hE.tr hb5⟩

theorem cmp_at {X Y : List Nat} {j : Nat} (hX : D32 X) (hY : D32 Y) (hdr : hv (X.drop (j + 1)) = hv (Y.drop (j + 1))) (hlt : X.getD j 0 < Y.getD j 0) : hv X < hv Y := by
  have e1 := valb_split H X j
  have e2 := valb_split H Y j
  rw [valb_drop_step] at e1 e2
  have h1 : valb H (X.take j) < H ^ j := Nat.lt_of_lt_of_le (hv_lt (hX.take j)) (Nat.pow_le_pow_right H_pos (by rw [List.length_take]; omega))
  simp only [hv] at hdr ⊢
  rw [hdr] at e1
  have h2 : H ^ j * (X.getD j 0 + 1 + H * valb H (Y.drop (j + 1))) ≤ H ^ j * (Y.getD j 0 + H * valb H (Y.drop (j + 1))) := Nat.mul_le_mul_left _ (by omega)
  rw [e1, e2]
  rw [Nat.mul_add, Nat.mul_add, Nat.mul_one] at h2
  rw [Nat.mul_add, Nat.mul_add]
  rw [Nat.mul_add] at h2
  omega
theorem rcanon_c (A : Option Addr) (c : Nat) (xs : List Nat) (w : World) (h : Rd w A c xs) :
    Calls Try.prog 73 #[.slice A xs.length c] w fun e w' => e = .returned (.bool (decide (topN xs = xs.length))) ∧ w = w' := by
  have ht := topN_le xs
  have hl := h.len
  by_cases h0 : xs.length = 0
  · have hz : decide (topN xs = xs.length) = true := by simp; omega
    have HZ := Lib.hid hz
    clear hz ht
    go_enter Try.func73, Try.ntmps73
    go_wp2
    go_ret
    exact ⟨by rw [HZ.out]; rfl, rfl⟩
  · obtain ⟨ad, rfl, hc⟩ := h.cell (xs.length - 1) (by omega)
    have hidx : ((xs.length : Int) - 1) = ((xs.length - 1 : Nat) : Int) := by omega
    have hz0 : ((xs.length : Int) == 0) = false := by rw [beq_eq_false_iff_ne]; omega
    have hz : ((xs.getD (xs.length - 1) 0 : Nat) : Int) ≠ 0 ↔ topN xs = xs.length := by
      constructor
      · intro hne
        rcases Nat.lt_or_ge (xs.length - 1) (topN xs) with h1 | h1
        · omega
        · exact absurd (by rw [topN_zero xs _ h1]; rfl) hne
      · intro e hz
        exact topN_last xs (by omega) (by rw [e]; omega)
    have hb : (((xs.getD (xs.length - 1) 0 : Nat) : Int) != 0) = decide (topN xs = xs.length) := by
      rw [Bool.eq_iff_iff, bne_iff_ne, decide_eq_true_iff]; exact hz
    generalize decide (topN xs = xs.length) = b at *
    generalize xs.getD (xs.length - 1) 0 = x at *
    clear hz ht
    go_enter Try.func73, Try.ntmps73
    go_wp2
    go_ret
    exact ⟨rfl, rfl⟩
set_option maxHeartbeats 1000000 in
set_option maxRecDepth 100000 in
theorem rsame_c (A A' : Option Addr) (c c' : Nat) (xs ys : List Nat) (w : World) (h : Rd w A c xs) (h' : Rd w A' c' ys) :
    Calls Try.prog 74 #[.slice A xs.length c, .slice A' ys.length c'] w fun e w' => e = .returned (.bool (decide (xs = ys))) ∧ ∃ n, w' = w.drewN n := by
  by_cases hlen : xs.length = ys.length
  · have hb : ((xs.length : Int) != (ys.length : Int)) = false := by rw [hlen]; simp
    go_enter Try.func74, Try.ntmps74
    have HL := Lib.hid hlen
    clear hlen
    go_wp2
    have hlx := h.len
    go_loopw [5] (fun v wr => ∃ i : Nat, i ≤ xs.length ∧ v = .int .i64 i ∧ xs.take i = ys.take i ∧ ∃ n, wr = w.drewN n) (fun v _ => xs.length - (intOf v).toNat)
    case atStart => exact ⟨0, Nat.zero_le _, rfl, rfl, 0, rfl⟩
    case round =>
      obtain ⟨i, hi, rfl, htk, n, rfl⟩ := hrel
      by_cases hlt : i < xs.length
      · obtain ⟨ad, rfl, hxc⟩ := h.cell i hlt
        obtain ⟨ad', rfl, hyc⟩ := h'.cell i (by have := HL.out; omega)
        have hlt2 : i < ys.length := by have := HL.out; omega
        have g0 : (0 : Int) ≤ (i : Int) := by omega
        have g1 : (i : Int) < (xs.length : Int) := by omega
        have g2 : (i : Int) < (ys.length : Int) := by omega
        by_cases hxy : xs.getD i 0 = ys.getD i 0
        · have hn : xs.take (i + 1) = ys.take (i + 1) := by
            rw [List.getD_eq_getElem?_getD, List.getD_eq_getElem?_getD, List.getElem?_eq_getElem hlt, List.getElem?_eq_getElem hlt2] at hxy
            rw [List.take_succ_eq_append_getElem hlt, List.take_succ_eq_append_getElem hlt2, htk, show xs[i] = ys[i] from hxy]
          rw [hxy] at hxc
          have HN := Lib.hid hn
          clear htk hn hxy
          generalize ys.getD i 0 = y at *
          have hne : ((y : Int) != (y : Int)) = false := by simp
          go_wp2
          go_quiet (fail)
          go_wp2
          go_roundw
          case rel => exact ⟨i + 1, hlt, by go_num, HN.out, _, rfl⟩
          case measure => simp [intOf]; omega
        · have hd : decide (xs = ys) = false := by rw [decide_eq_false_iff_not]; intro e; exact hxy (by rw [e])
          have hne : (((xs.getD i 0 : Nat) : Int) != ((ys.getD i 0 : Nat) : Int)) = true := by rw [bne_iff_ne]; omega
          have HD := Lib.hid hd
          clear htk hd hxy
          generalize xs.getD i 0 = x at *
          generalize ys.getD i 0 = y at *
          go_wp2
          go_quiet (fail)
          go_wp2
          go_ret
          exact ⟨by rw [HD.out]; rfl, _, World.drewN_drewN ..⟩
      · obtain rfl : i = xs.length := by omega
        have hd : decide (xs = ys) = true := by
          rw [decide_eq_true_iff]
          have e := HL.out
          rw [List.take_length, e, List.take_length] at htk
          exact htk
        have HD := Lib.hid hd
        clear htk hd
        go_wp2
        go_ret
        exact ⟨by rw [HD.out]; rfl, _, rfl⟩
  · have hd : decide (xs = ys) = false := by rw [decide_eq_false_iff_not]; intro e; exact hlen (by rw [e])
    have hne : ((xs.length : Int) != (ys.length : Int)) = true := by rw [bne_iff_ne]; omega
    have HD := Lib.hid hd
    clear hd hlen
    go_enter Try.func74, Try.ntmps74
    go_wp2
    go_ret
    exact ⟨by rw [HD.out]; rfl, 0, rfl⟩
set_option maxHeartbeats 1000000 in
set_option maxRecDepth 100000 in
theorem ris_c (A A' : Option Addr) (c c' : Nat) (xs ys : List Nat) (w : World) (h : Rd w A c xs) (h' : Rd w A' c' ys) (hs' : ys.length ≤ 10000000) :
    Calls Try.prog 34 #[.slice A xs.length c, .slice A' ys.length c'] w fun e w' => e = .returned (.bool (decide (xs = cn (val ys)))) ∧ Ext w w' := by
  have h1 := rcanon_c A c xs w h
  have h2 := rtrim_c A' c' ys w h' (by omega)
  have h3 := fun A2 c2 w1 hr hr2 => rsame_c A A2 c c2 xs (cn (val ys)) w1 hr hr2
  have hcn := topN_cn (val ys)
  generalize cn (val ys) = yc at *
  by_cases hc : topN xs = xs.length
  · rw [show decide (topN xs = xs.length) = true by simpa using hc] at h1
    clear hcn hc
    go_enter Try.func34, Try.ntmps34
    go_wp2_with fail
    refine h1.mono ?_
    rintro e w1 ⟨rfl, rfl⟩
    go_wp2_with fail
    refine h2.mono ?_
    rintro e w2 ⟨v, rfl, ho, hb⟩
    obtain ⟨A2, c2, rfl, hr2⟩ := ho.rd
    go_wp2_with fail
    refine (h3 A2 c2 _ (h.ext hb) hr2).mono ?_
    rintro e w3 ⟨rfl, n, rfl⟩
    go_wp2
    go_ret
    exact ⟨rfl, hb.drewN n⟩
  · have hd : decide (xs = yc) = false := by rw [decide_eq_false_iff_not]; intro e; rw [e] at hc; exact hc hcn
    rw [show decide (topN xs = xs.length) = false by simpa using hc] at h1
    have HD := Lib.hid hd
    clear hcn hc hd
    go_enter Try.func34, Try.ntmps34
    go_wp2_with fail
    refine h1.mono ?_
    rintro e w1 ⟨rfl, rfl⟩
    go_wp2
    go_ret
    exact ⟨by rw [HD.out]; rfl, Ext.refl _⟩
end Go.Proofs.Ythbnkhgcfcigjaa
