/- package wide: DivMod by more words. -/
import Derived.Test.YtknafhogaheacaaDoorVL
import Derived.Test.YtknafhogaheacaaDoorQ0
import Derived.Test.YtknafhogaheacaaDoorW7
set_option linter.unusedVariables false
set_option linter.unusedSimpArgs false
namespace Go.Proofs.YtknafhogaheacaaDoor
open Go.RowKit

set_option maxHeartbeats 1000000 in
set_option maxRecDepth 100000 in
theorem divmod_long (A A1 : Option Addr) (c c1 : Nat) (xs ys : List Nat) (w : World) (h : Rd w A c xs) (h1 : Rd w A1 c1 ys) (hle : val ys ≤ val xs) (h2 : 2 ≤ (cn (val ys)).length) (hs : xs.length ≤ 100000000) (hs1 : ys.length ≤ 100000000) :
    Calls Tryd.prog 17 #[.slice A xs.length c, .slice A1 ys.length c1] w (DMR w (val xs) (val ys)) := by
  have v1 := view_c A c xs w h
  have v2 := fun n => view_c A1 c1 ys (w.drewN n) (h1.drewN n)
  have hr := h.view
  have hr1 := h1.view
  have hl := cn_val_le h.w64
  have hl1 := cn_val_le h1.w64
  have hvc := val_cn (val xs)
  have hvc1 := val_cn (val ys)
  have hc : cmp3 (val xs) (val ys) = 0 ∨ cmp3 (val xs) (val ys) = 1 := by
    rcases Nat.lt_or_ge (val ys) (val xs) with hh | hh
    · exact .inr (cmp3_gt hh)
    · exact .inl (cmp3_eq (by omega))
  unfold DMR
  generalize val xs = m at *
  generalize val ys = n at *
  have hcm := fun w h h' => cmp_c A A1 (cn m).length (cn n).length (cn m) (cn n) w h h'
  rw [hvc, hvc1] at hcm
  generalize cmp3 m n = t at *
  have ht : decide (t < 0) = false := by rw [decide_eq_false_iff_not]; omega
  have hshx := fun w k (hk : k ≤ 63) h => shl_c A (cn m).length (cn m) k w h (by omega) (by omega)
  have hshy := fun w k (hk : k ≤ 63) h => shl_c A1 (cn n).length (cn n) k w h (by omega) (by omega)
  rw [hvc] at hshx
  rw [hvc1] at hshy
  obtain ⟨ad1, rfl⟩ := hr1.addr (by omega)
  have hx1 := hr1.get ((cn n).length - 1) (by omega)
  have hlast := cn_last n (by have := cn_len_zero n; omega)
  have htopB := (W64.cn n).get ((cn n).length - 1)
  have hne : (((cn n).length : Int) == 1) = false := by rw [beq_eq_false_iff_ne]; omega
  have hi1 : ((cn n).length : Int) - 1 = (((cn n).length - 1 : Nat) : Int) := by omega
  have HI := Lib.hid hi1
  have hge := shl_len_ge m
  have hle1 := fun s (hs : s ≤ 63) => shl_len_le (m := m) hs
  have htop := fun s hs => shl_len_top (n := n) (s := s) h2 rfl hs
  have hYX := cn_len_mono hle
  have hini := fun s => dm_init (m := m) (n := n) (s := s) (by omega) hYX
  clear hvc hvc1 hc
  generalize hX : cn m = X at *
  generalize hY : cn n = Y at *
  generalize htp : Y.getD (Y.length - 1) 0 = tp at *
  have hlz := fun w => lz64 tp w htopB
  obtain ⟨s, hsv⟩ : ∃ s : Nat, (64 - (bl tp : Int)) = (s : Int) ∧ s ≤ 63 ∧ bl tp + s = 64 := ⟨64 - bl tp, by
    have h1 := (bl_le tp 64).2 (by rw [B_two] at htopB; exact htopB)
    have h2 := bl_pos (n := tp) (by omega)
    omega⟩
  obtain ⟨hsv, hs63, hbs⟩ := hsv
  have HTOP := Lib.hid (htop s hbs)
  have HINI := Lib.hid (hini s)
  clear hini
  have hge := hge s
  have hle1 := hle1 s hs63
  clear htop hbs
  rw [hsv] at hlz
  clear hX hY htp hsv hi1
  go_enter Tryd.func17, Tryd.ntmps17
  go_wp2_with fail
  refine v1.mono ?_
  rintro z w1 ⟨rfl, k, rfl⟩
  go_wp2_with fail
  refine (v2 k).mono ?_
  rintro z w1 ⟨rfl, k', rfl⟩
  have hE := fun m => (Ext.refl w).drewN m
  go_wp2_with fail
  refine (hcm _ (hr.ext (hE _)) (hr1.ext (hE _))).mono ?_
  rintro z w1 ⟨rfl, k'', rfl⟩
  have hE2 := hE (k + k' + k'')
  have hx2 := hE2.cell hx1
  have hi1 := HI.out
  go_wp2_with fail
  refine (hlz _).mono ?_
  rintro z w2 ⟨rfl, rfl⟩
  go_wp2_with fail
  refine (hshy _ s hs63 (hr1.ext hE2)).mono ?_
  rintro z w3 ⟨v, rfl, ho3, hb3⟩
  have hE3 := hE2.tr hb3
  obtain ⟨vA, vc, rfl, hrv⟩ := ho3.rd
  have hrx3 := hr.ext hE3
  go_wp2_with fail
  refine (hshx _ s hs63 hrx3).mono ?_
  rintro z w5 ⟨v5, rfl, ho5, hb5⟩
  have hE5 := hE3.tr hb5
  have hrv5 := hrv.ext hb5
  generalize hvs : cn (n * 2 ^ s) = VS at *
  have hvsl : VS.length = Y.length := HTOP.out
  obtain ⟨N, hN⟩ : ∃ N, X.length + 1 - VS.length = N := ⟨_, rfl⟩
  have hNv : (X.length : Int) + 1 - (VS.length : Int) = (N : Int) := by omega
  have hNv1 : (N : Int) - 1 = ((N - 1 : Nat) : Int) := by omega
  have hNs : N ≤ 100000001 := by omega
  have HVSL := Lib.hid hvsl
  have HVS := Lib.hid hvs
  have HN := Lib.hid hN
  clear hvs hvsl hN
  generalize hus : cn (m * 2 ^ s) = US at *
  have husl : US.length ≤ X.length + 1 := hle1
  have husg : X.length ≤ US.length := hge
  have HUS := Lib.hid hus
  clear hus
  have hsp := fun (w : World) (v : Value) (h : Own w w3.heap.size v (US ++ [0, 0])) => h.split (by simp)
  have hcl : ∀ cap : Nat, (US ++ [0, 0]).length ≤ cap → (X.length : Int) + 1 ≤ (cap : Int) := by
    intro cap hcap
    simp at hcap
    omega
  have hz5 := hb5.size
  have hz3 := hE3.size
  go_wp2_with (first
    | (at_builtin; refine wp_append rfl _ _ _ rfl Tryd.underlying23 w3.heap.size _ US rfl (ho5.ext ((Ext.refl _).al _)) (some ⟨w5.heap.size, 0, none⟩) 2 2 [0, 0] rfl rfl (Rd.new2 w5 0 0 B_pos B_pos) ?hb ?hl ?_; (case hb => simp; omega); (case hl => simp; omega); intro v6 w6 ho6 hb6 hat hg6; obtain ⟨g6, cap6, rfl, hgb6, hcap1, hcap2, hbo6⟩ := hsp _ _ ho6; have hcap3 := hcl _ hcap1; clear hat)
    | (at_make; refine wp_make rfl _ _ _ rfl Tryd.underlying23 N _ rfl rfl (by omega) (by omega) ?_; intro g7 w7 hg7 hbk7 hb7))
  have hE6 : Ext w3 w6 := Below.trans (hb5.al _) hb6
  have HE7 := Lib.hid (hE6.tr hb7)
  have HBK := Lib.hid hbk7
  have HG7 := Lib.hid hg7
  have hg6lt : g6 < w6.heap.size := by
    obtain ⟨cur, h1, h2⟩ := hbo6.h
    exact (Array.getElem?_eq_some_iff.1 h1).1
  have HG6 := Lib.hid hg6lt
  have HBO := Lib.hid ((hbo6.ext hb7).take (X.length + 1) (by simp; omega))
  have HST := Lib.hid (dm_start (xs := US) (k := X.length + 1) (by omega) (by omega))
  clear hbk7 hg7 hb7 hg6lt hbo6 ho6 hb6 hg6
  have hVW : W64 VS := by rw [← HVS.out]; exact W64.cn _
  have hVV : val VS = n * 2 ^ s := by rw [← HVS.out]; exact val_cn _
  have hVS2 : 2 ≤ VS.length := by rw [HVSL.out]; exact h2
  have hnp : 0 < n * 2 ^ s := by
    rcases Nat.eq_zero_or_pos (n * 2 ^ s) with h | h
    · have := HVS.out
      rw [h, show cn 0 = [] from digs_zero B] at this
      rw [← this] at hVS2
      simp at hVS2
    · exact h
  have hV0 : 0 < VS.getD (VS.length - 1) 0 := by
    have := cn_last (n * 2 ^ s) hnp
    rw [HVS.out] at this
    exact Nat.pos_of_ne_zero this
  have hVSr : VS.length ≤ 2000000000 := by rw [HVSL.out]; omega
  obtain ⟨vad, rfl⟩ := hrv.addr (by omega)
  have hvb : vad.block < w3.heap.size := by
    have := World.block_lt_of_cell? w3 _ (hrv.get 0 (by omega))
    have hbl : (vad.add 0).block = vad.block := by unfold Addr.add; split <;> rfl
    rwa [hbl] at this
  have HVV := Lib.hid hVV
  have HV0 := Lib.hid hV0
  have HNP := Lib.hid hnp
  clear hVV hV0 hnp
  go_loopw [13] (fun v13 wr => ∃ (k : Nat) (o out : List Nat), k ≤ N ∧ v13 = .int .i64 ((k : Int) - 1) ∧ Bo wr g6 o ∧ o.length = X.length + 1 ∧ Bk wr g7 out ∧ out.length = N ∧ val o + B ^ k * (val (out.drop k) * (n * 2 ^ s)) = m * 2 ^ s ∧ val o < B ^ k * (n * 2 ^ s) ∧ Ext w3 wr) (fun v _ => (intOf v + 1).toNat)
  case atStart =>
    refine ⟨N, _, _, Nat.le_refl _, by rw [hNv1], HBO.out, HST.out.2, HBK.out, by simp, ?_, ?_, HE7.out⟩
    · rw [List.drop_of_length_le (by simp), HST.out.1, ← HUS.out, val_cn]
      show _ + _ * (0 * _) = _
      rw [Nat.zero_mul, Nat.mul_zero, Nat.add_zero]
    · rw [HST.out.1, ← HUS.out, val_cn, ← HN.out, HVSL.out]
      exact HINI.out
  case round =>
    obtain ⟨k, o, out, hk, rfl, hbo, hol, hbk, houl, hval, hlt, hwr⟩ := hrel
    rcases k with _ | j
    · obtain ⟨hts1, hts2⟩ := dm_last hval hlt
      clear hval hlt
      have hr12 := hbk.rd (by omega) (Nat.le_refl _)
      have hr10 := hbo.rd (c := cap6) (by omega) (by omega)
      have ht1 := fun w h => trim_c (some ⟨g7, 0, none⟩) out.length out w h (by omega)
      have ht2 := fun w h => trim_c (some ⟨g6, 0, none⟩) cap6 o w h (by omega)
      have hsr := fun A c w h => shr_c A c (cn (val o)) s w h (by omega) (by have := cn_val_le hbo.w64; omega)
      rw [val_cn, hts2] at hsr
      rw [hts1] at ht1
      rw [houl] at ht1 hr12
      rw [hol] at ht2
      have HT := Lib.hid hts1
      clear hts1 hts2 hol houl hk
      go_wp2_with fail
      refine (ht1 _ hr12).mono ?_
      rintro z w8 ⟨v8, rfl, ho8, hb8⟩
      go_wp2_with fail
      refine (ht2 _ (hr10.ext hb8)).mono ?_
      rintro z w9 ⟨v9, rfl, ho9, hb9⟩
      obtain ⟨A9, c9, rfl, hr9⟩ := ho9.rd
      go_wp2_with fail
      refine (hsr A9 c9 _ hr9).mono ?_
      rintro z w10 ⟨v10, rfl, ho10, hb10⟩
      have hEr := hE3.tr hwr
      have hs1 := hEr.size
      have hs8 := hb8.size
      have hs9 := hb9.size
      have hE10 := hEr.tr (hb8.tr (hb9.tr hb10))
      have hq8 := (ho8.ext (hb9.tr hb10)).low hs1
      have hq10 := ho10.low (b := w.heap.size) (by omega)
      go_wp2
      go_ret2
      exact ⟨_, _, rfl, hq8, hq10, hE10⟩
    · obtain ⟨a, b, c', v, u, q, ha, hb, hc', hv, hu, hq, hav, hbB, hcB, hvB, huB, hv0, hqB, hz, hk1, hdig, hrem⟩ := dm_pack (j := j) hbo.w64 hVW hVS2 HV0.out (by rw [HVV.out]; exact hlt)
      have xa := hbo.cell (j + VS.length) (by omega)
      have xb := hbo.cell (j + VS.length - 1) (by omega)
      have xc := hbo.cell (j + VS.length - 2) (by omega)
      have xv := hwr.cell (hrv.get (VS.length - 1) (by omega))
      have xu := hwr.cell (hrv.get (VS.length - 2) (by omega))
      rw [ha] at xa
      rw [hb] at xb
      rw [hc'] at xc
      rw [hv] at xv
      rw [hu] at xu
      have hgs := fun W => guess_c a b c' v u W hav hbB hcB hvB huB hv0
      rw [hq] at hgs
      have hj1 : (((j + 1 : Nat) : Int) - 1) = (j : Int) := by omega
      have hls := fun (W : World) cu (hW : Ext wr W) => less_c g6 j q vc cu (some vad) VS o W (hbo.ext hW) (hrv.ext (hwr.tr hW)) (fun a ha => by obtain rfl := Option.some.inj ha; omega) (by have := HN.out; omega) (by omega) hqB hz hk1
      obtain ⟨t, ht⟩ : ∃ t, decide (val o < q * (B ^ j * val VS)) = t := ⟨_, rfl⟩
      have hnx := fun (d : Nat) (o2 : List Nat) (hd : val o / (B ^ j * val VS) = d) (ho2 : val o2 = val o % (B ^ j * val VS)) => dm_next (o2 := o2) (out := out) (j := j) (d := d) (X := m * 2 ^ s) HNP.out (by omega) hval (by rw [← HVV.out]; exact hd) (by rw [← HVV.out]; exact ho2)
      rw [ht, hdig, hrem] at hls
      have hqd : (t = true → val o / (B ^ j * val VS) = q - 1 ∧ 0 < q) ∧ (t = false → val o / (B ^ j * val VS) = q) := by
        refine ⟨fun h => ?_, fun h => ?_⟩
        · rw [h] at ht
          have h3 := of_decide_eq_true ht
          rw [if_pos h3] at hdig
          refine ⟨hdig.symm, ?_⟩
          rcases Nat.eq_zero_or_pos q with h4 | h4
          · rw [h4, Nat.zero_mul] at h3
            omega
          · exact h4
        · rw [h] at ht
          rw [if_neg (of_decide_eq_false ht)] at hdig
          exact hdig.symm
      have hgsE : ∀ W, Calls Tryd.prog 41 #[.int .u64 (a : Int), .int .u64 (b : Int), .int .u64 (c' : Int), .int .u64 (v : Int), .int .u64 (u : Int)] W fun e w' => e = .returned (.int .u64 (q : Int)) ∧ Ext W w' := fun W => (hgs W).mono (by rintro z w' ⟨rfl, n', rfl⟩; exact ⟨rfl, (Ext.refl W).drewN n'⟩)
      have HQD := Lib.hid hqd
      have HDIG := Lib.hid hdig
      have HREM := Lib.hid hrem
      have HNX := Lib.hid hnx
      have HOL := Lib.hid hol
      have HOUL := Lib.hid houl
      have HLS := Lib.hid hls
      clear ht hdig hrem hnx hval hlt ha hb hc' hv hu hq hk1 hz hls hgs hqd hol houl
      rw [hj1]
      clear hj1
      go_wp2_with fail
      have xa' := Later.cell xa
      have xb' := Later.cell xb
      have xc' := Later.cell xc
      have xv' := Later.cell xv
      have xu' := Later.cell xu
      clear xa xb xc xv xu
      refine wp_region_later (by kernel_rfl) (by kernel_rfl) ?_
      repeat (go_big_quiet_step (first | (go_at_call 41; (with_reducible refine Calls.later (hgsE _))) | fail))
      refine wpQuiet_nil ?_
      intro wq hw'
      obtain ⟨⟨_, hq2⟩, rfl⟩ := hw'
      clear xa' xb' xc' xv' xu' hgsE
      go_wp2_with fail
      rw [show j + VS.length + 1 - j = VS.length + 1 by omega]
      refine (HLS.out wq _ hq2).mono ?_
      rintro z w8 ⟨rfl, o2, hbo2, hol2, hval2, hkb⟩
      have hb7 : Bk w8 g7 out := hkb.bk (hbk.ext hq2) (fun h => by have h : g7 = g6 := h; have := HG6.out; have := HG7.out; omega)
      have hE8 : Ext w3 w8 := hkb.ext (hwr.tr hq2) (fun a ha => by obtain rfl := Option.some.inj ha; exact hgb6)
      have hjo : j < out.length := by rw [HOUL.out]; omega
      have xj := hb7.cell j hjo
      have fj := hb7.frozen j
      have hsz : w3.heap.size ≤ g7 := by have := hE6.size; have := HG7.out; omega
      have HNXT := Lib.hid (fun (d : Nat) (hd : val o / (B ^ j * val VS) = d) (hdB : d < B) (v13 : Value) (h13 : v13 = .int .i64 ((j : Int) - 1)) =>
        (show ∃ (k : Nat) (o out : List Nat), k ≤ N ∧ v13 = .int .i64 ((k : Int) - 1) ∧ Bo (w8.setCell ⟨g7, j, none⟩ (.int .u64 (d : Int))) g6 o ∧ o.length = X.length + 1 ∧ Bk (w8.setCell ⟨g7, j, none⟩ (.int .u64 (d : Int))) g7 out ∧ out.length = N ∧
          val o + B ^ k * (val (out.drop k) * (n * 2 ^ s)) = m * 2 ^ s ∧ val o < B ^ k * (n * 2 ^ s) ∧ Ext w3 (w8.setCell ⟨g7, j, none⟩ (.int .u64 (d : Int))) from
          ⟨j, o2, out.set j d, by omega, h13, hbo2.far (fun h => by have h : g6 = g7 := h; have := HG6.out; have := HG7.out; omega) _, hol2.trans HOL.out, hb7.set j d hdB, by rw [List.length_set]; exact HOUL.out, (HNX.out d o2 hd hval2).1, (HNX.out d o2 hd hval2).2, hE8.set hsz j _⟩))
      clear hbo2 hol2 hval2 hkb hb7 hE8 hq2 HNX HLS
      rcases t with _ | _
      · have hd := HQD.out.2 rfl
        have HD := Lib.hid hd
        clear hd HQD
        go_wp2_with fail
        go_roundw
        case rel => exact HNXT.out q HD.out hqB _ (by go_num)
        case measure => simp [intOf]
      · obtain ⟨hd, hq0⟩ := HQD.out.1 rfl
        have HD := Lib.hid hd
        have hw1 : IntKind.u64.wrap ((q : Int) - 1) = ((q - 1 : Nat) : Int) := by rw [IntKind.wrap_u64, B_eq] at *; omega
        have hq1B : q - 1 < B := by omega
        clear hd HQD
        go_wp2_with fail
        go_roundw
        case rel => exact HNXT.out (q - 1) HD.out hq1B _ (by go_num)
        case measure => simp [intOf]
end Go.Proofs.YtknafhogaheacaaDoor
