/- the references' rows of digits: Row, Cut; numbers out of digits: nat. the references' numbers: Trim, FromWord, Plus, Add. -/
import Derived.Test.YtlnfmngginihfaaGreatDoorR1
set_option linter.unusedVariables false
set_option linter.unusedSimpArgs false
namespace Go.Proofs.YtlnfmngginihfaaGreatDoor
open Go.RowKit

theorem add_succ' (a : Addr) (i : Nat) : a.add (i + 1) = ⟨a.block, a.off + (i + 1), none⟩ := by unfold Addr.add; simp
set_option maxHeartbeats 1000000 in
set_option maxRecDepth 100000 in
theorem rrow_c (A : Option Addr) (c : Nat) (ds : List Nat) (w : World) (h : Rd w A c ds) (hd : D32 ds) (hs : ds.length ≤ 1000000000) :
    Calls Tryz.prog 123 #[.slice A ds.length c] w (Res w (wd ds)) := by
  go_enter Tryz.func123, Tryz.ntmps123
  go_wp2
  go_loopw [3, 4] (fun v3 v4 wr => ∃ i : Nat, i ≤ ds.length ∧ i % 2 = 0 ∧ v4 = .int .i64 i ∧ Own wr w.heap.size v3 (wd (ds.take i)) ∧ Ext w wr) (fun _ v _ => ds.length - (intOf v).toNat)
  case atStart => exact ⟨0, Nat.zero_le _, rfl, rfl, Own.nil _ _, Ext.refl _⟩
  case round =>
    obtain ⟨i, hi, hev, rfl, hown, hE⟩ := hrel
    have HEV := Lib.hid hev
    clear hev
    by_cases hlt : i + 1 < ds.length
    · obtain ⟨ad, rfl, hc⟩ := h.cell i (by omega)
      obtain ⟨ad', e, hc2⟩ := h.cell (i + 1) hlt
      obtain rfl := Option.some.inj e
      rw [add_succ'] at hc2
      have g0 : (0 : Int) ≤ (i : Int) := by omega
      have g1 : (i : Int) < (ds.length : Int) := by omega
      have g2 : (i : Int) + 1 < (ds.length : Int) := by omega
      have g3 : (0 : Int) ≤ (i : Int) + 1 := by omega
      have g4 : IntKind.i64.wrap ((i : Int) + 1) = (i : Int) + 1 := by rw [IntKind.wrap_i64]; omega
      have hd1 := hE.cell hc
      have hd2 := hE.cell hc2
      have hx := hd.get i
      have hy := hd.get (i + 1)
      have hstep := wd_step ds i HEV.out hlt
      have hwd := wd_len (ds.take i)
      rw [List.length_take] at hwd
      generalize ds.getD i 0 = x at hc hd1 hx hstep
      generalize ds.getD (i + 1) 0 = y at hc2 hd2 hy hstep
      obtain ⟨t, ht⟩ : ∃ t, t = y * H := ⟨_, rfl⟩
      obtain ⟨z, hz⟩ : ∃ z, z = x + t := ⟨_, rfl⟩
      rw [← ht, ← hz] at hstep
      rw [H_eq] at ht hx hy
      have hzB : z < B := by rw [B_eq]; omega
      have i1 : IntKind.u64.wrap ((y : Int) * 4294967296) = (t : Int) := by rw [IntKind.wrap_u64]; omega
      have i2 : IntKind.u64.wrap ((x : Int) + (t : Int)) = (z : Int) := by rw [IntKind.wrap_u64]; omega
      have HS := Lib.hid hstep
      have hlen : (wd (ds.take i)).length ≤ 1000000000 := by omega
      have HL := Lib.hid hlen
      clear hstep ht hz hx hy hlen hwd
      go_wp2
      go_region_held3 (fun w' => w'.cell? (ad.add i) = some (.int .u64 (x : Int)) ∧ w'.cell? ⟨ad.block, ad.off + (i + 1), none⟩ = some (.int .u64 (y : Int)))
        (first | go_keep | (go_split_ands; refine ⟨?_, ?_⟩ <;> (refine Ext.cell (w := w) (by assumption) ?_; assumption)))
        ((refine st_append rfl _ _ _ rfl Tryz.underlying37 w.heap.size _ (wd (ds.take i)) rfl ((hown.ext ((Ext.refl _).al _)).drew) (some ⟨wr.heap.size, 0, none⟩) 1 1 [z] rfl rfl (Rd.new1 wr z hzB).drew ?hb ?hl ?_; (case hb => simp; have := hE.size; omega); (case hl => have := HL.out; simp; omega); intro v' w1 ho hb1 hat hg; have hE1 : Ext w w1 := Below.trans ((hE.al _).drew) hb1))
      go_wp2
      go_roundw
      case rel => exact ⟨i + 2, by omega, by have := HEV.out; omega, by go_num, by rw [HS.out]; exact ho, hE1⟩
      case measure => simp [intOf]; omega
    · rw [wd_end ds i HEV.out (by omega)] at hown
      go_wp2
      go_ret
      exact ⟨_, rfl, hown, hE⟩

/-- What a cut hands back: so many words, and the word above. -/
def CutR (w : World) (n : Nat) (V : Nat) (e : Ending) (w' : World) : Prop := ∃ v row, e = .returned (.tuple #[v, .int .u64 ((V / B ^ n % B : Nat) : Int)]) ∧ row.length = n ∧ val row = V % B ^ n ∧ Own w' w.heap.size v row ∧ Ext w w'
def lenV : Value → Nat | .slice _ n _ => n | _ => 0
set_option maxHeartbeats 2000000 in
set_option maxRecDepth 100000 in
theorem rcut_c (A : Option Addr) (c : Nat) (ds : List Nat) (n : Nat) (w : World) (h : Rd w A c ds) (hd : D32 ds) (hs : ds.length ≤ 1000000000) (hn : n ≤ 400000000) :
    Calls Tryz.prog 117 #[.slice A ds.length c, .int .i64 n] w (CutR w n (hv ds)) := by
  obtain ⟨m2, hm2⟩ : ∃ m2, m2 = 2 * n := ⟨_, rfl⟩
  have i1 : 2 * (n : Int) = (m2 : Int) := by omega
  have hm : m2 ≤ 800000000 := by omega
  have HM := Lib.hid hm2
  clear hm2 hn
  go_enter Tryz.func117, Tryz.ntmps117
  go_wp2_with (at_builtin; refine wp_append rfl _ _ _ rfl Tryz.underlying37 w.heap.size _ [] rfl (Own.nil _ _) A ds.length c ds rfl rfl h ?hb ?hl ?_; (case hb => simp); (case hl => simp; omega); intro v' w1 ho hb1 hat hg)
  have hE1 : Ext w w1 := Below.trans (Ext.refl w) hb1
  rw [List.nil_append] at ho
  have HO := Lib.hid ho
  have HE := Lib.hid hE1
  clear ho hb1 hat hg hE1
  go_loopw [6] (fun v6 wr => ∃ m : Nat, (m = 0 ∨ ds.length + m ≤ m2 + 2) ∧ Own wr w.heap.size v6 (ds ++ List.replicate m 0) ∧ Ext w wr) (fun v _ => m2 + 2 - lenV v)
  case atStart => exact ⟨0, .inl rfl, by simpa using HO.out, HE.out⟩
  case round =>
    clear HO HE
    obtain ⟨m, hm0, hown, hE⟩ := hrel
    obtain ⟨A6, c6, rfl, hr6⟩ := hown.rd
    have hcut1 := fun hl => cut_row ds m n hd hl
    have hcut2 := fun hl => cut_high ds m n hd hl
    have hall : D32 (ds ++ List.replicate m 0) := hd.append (D32.zeros m)
    have hlen : (ds ++ List.replicate m 0).length = ds.length + m := by simp
    have hsnoc : (ds ++ List.replicate m 0) ++ [0] = ds ++ List.replicate (m + 1) 0 := by rw [List.append_assoc, List.replicate_succ']
    generalize ds ++ List.replicate m 0 = all at *
    by_cases hlt : all.length < m2 + 2
    · go_wp2_with (at_builtin; refine wp_append rfl _ _ _ rfl Tryz.underlying37 w.heap.size _ all rfl (hown.ext ((Ext.refl _).al _)) (some ⟨wr.heap.size, 0, none⟩) 1 1 [0] rfl rfl (Rd.new1 wr 0 B_pos) ?hb ?hl ?_; (case hb => simp; have := hE.size; omega); (case hl => simp; omega); intro v' w1 ho hb1 hat hg)
      obtain ⟨A7, c7, rfl, hr7⟩ := ho.rd
      go_roundw
      case rel => exact ⟨m + 1, by omega, by rw [← hsnoc]; exact ho, Below.trans (hE.al _) hb1⟩
      case measure => simp [lenV]; omega
    · have hge : m2 + 2 ≤ all.length := by omega
      obtain ⟨r1, r2, r3⟩ := hcut1 (by have := HM.out; omega)
      have hz := hcut2 (by have := HM.out; omega)
      rw [← HM.out] at r1 r2 r3 hz
      obtain ⟨ad, rfl⟩ := hr6.addr (by omega)
      have hcap := hr6.cap
      have g0 : (0 : Int) ≤ (m2 : Int) := by omega
      have g1 : (m2 : Int) ≤ (c6 : Int) := by omega
      have g2 : (m2 : Int) < (all.length : Int) := by omega
      have g3 : (m2 : Int) + 1 < (all.length : Int) := by omega
      have g4 : (0 : Int) ≤ (m2 : Int) + 1 := by omega
      have g5 : IntKind.i64.wrap (m2 : Int) = (m2 : Int) := by rw [IntKind.wrap_i64]; omega
      have g6 : IntKind.i64.wrap ((m2 : Int) + 1) = (m2 : Int) + 1 := by rw [IntKind.wrap_i64]; omega
      have hx := hall.get m2
      have hy := hall.get (m2 + 1)
      have x0 := hr6.get m2 (by omega)
      have y0 := hr6.get (m2 + 1) (by omega)
      rw [add_succ'] at y0
      have hrow := fun w h => rrow_c (some ad) c6 (all.take m2) w h (hall.take m2) (by rw [List.length_take]; omega)
      have hrt := hr6.take m2 (by omega) (c' := c6) (by omega)
      rw [show (all.take m2).length = m2 by rw [List.length_take]; omega] at hrow
      generalize all.getD m2 0 = x at *
      generalize all.getD (m2 + 1) 0 = y at *
      obtain ⟨t, ht⟩ : ∃ t, t = y * H := ⟨_, rfl⟩
      obtain ⟨z, hz'⟩ : ∃ z, z = x + t := ⟨_, rfl⟩
      rw [← ht, ← hz'] at hz
      rw [H_eq] at ht hx hy
      have i3 : IntKind.u64.wrap ((y : Int) * 4294967296) = (t : Int) := by rw [IntKind.wrap_u64]; omega
      have i4 : IntKind.u64.wrap ((x : Int) + (t : Int)) = (z : Int) := by rw [IntKind.wrap_u64]; omega
      have HZ := Lib.hid hz
      have HR := Lib.hid (show (wd (all.take m2)).length = n ∧ val (wd (all.take m2)) = hv ds % B ^ n from ⟨r1, r3⟩)
      generalize wd (all.take m2) = row at *
      clear hcut1 hcut2 hz ht hz' hx hy r1 r2 r3 hlt hsnoc hown hlen hm0 hs
      go_wp2_with fail
      go_region_held3 (fun w' => w'.cell? (ad.add m2) = some (.int .u64 (x : Int)) ∧ w'.cell? ⟨ad.block, ad.off + (m2 + 1), none⟩ = some (.int .u64 (y : Int)))
        (first | go_keep | (go_split_ands; refine ⟨?_, ?_⟩ <;> (refine Ext.cell (w := wr) (by assumption) ?_; assumption)))
        ((go_at_call 123; (with_reducible refine (hrow _ hrt.drew).mono ?_); rintro e w2 ⟨v, rfl, ho2, hb2⟩; have hE2 : Ext wr w2 := (Ext.refl wr).drew.tr hb2))
      go_wp2
      go_ret2
      refine ⟨_, row, ?_, HR.out.1, HR.out.2, ho2.low hE.size, hE.tr hE2⟩
      rw [← HZ.out]; rfl

set_option maxHeartbeats 1000000 in
set_option maxRecDepth 100000 in
theorem rnat_c (A : Option Addr) (c : Nat) (ds : List Nat) (w : World) (h : Rd w A c ds) (hd : D32 ds) (hs : ds.length ≤ 400000000) :
    Calls Tryz.prog 106 #[.slice A ds.length c] w (Res w (cn (hv ds))) := by
  have hsh := rshort_c A c ds w h
  have hk := topN_le ds
  have hrt := h.take (topN ds) hk (c' := c) (by have := h.cap; omega)
  obtain ⟨n, hn⟩ : ∃ n, n = (topN ds + 1) / 2 := ⟨_, rfl⟩
  have hcut := fun w h => rcut_c A c (ds.take (topN ds)) n w h (hd.take _) (by rw [List.length_take]; omega) (by omega)
  have hlen : (ds.take (topN ds)).length = topN ds := by rw [List.length_take]; omega
  have hlt : hv (ds.take (topN ds)) < B ^ n := by
    have h1 := hv_lt (hd.take (topN ds))
    rw [hlen] at h1
    rw [← H_pow_two]
    exact Nat.lt_of_lt_of_le h1 (Nat.pow_le_pow_right H_pos (by omega))
  have hfin := fun row (hr : W64 row) (hl : row.length = n) (e : val row = hv (ds.take (topN ds))) => nat_words hd hr (hl.trans hn) e
  rw [hlen] at hcut
  have HF := Lib.hid hfin
  have HL := Lib.hid hlt
  have i1 : ((topN ds : Int) + 1) / 2 = (n : Int) := by omega
  clear hn hfin hlt hlen
  generalize topN ds = k at *
  generalize ds.take k = es at *
  go_enter Tryz.func106, Tryz.ntmps106
  go_wp2_with fail
  refine hsh.mono ?_
  rintro e w1 ⟨rfl, m, rfl⟩
  go_wp2_with fail
  refine (hcut _ (hrt.drewN m)).mono ?_
  rintro e w2 ⟨v, row, rfl, hr1, hr2, ho, hb⟩
  go_wp2
  go_ret
  have e := HF.out row ho.w64 hr1 (by rw [hr2]; exact Nat.mod_eq_of_lt HL.out)
  rw [← e]
  exact ⟨_, rfl, ho, ((Ext.refl w).drewN m).tr hb⟩
end Go.Proofs.YtlnfmngginihfaaGreatDoor
namespace Go.Proofs.YtlnfmngginihfaaGreatDoor
open Go.RowKit

/-- Digits in new memory: so many, with that value. -/
def DRes (w : World) (n V : Nat) (e : Ending) (w' : World) : Prop := ∃ v o, e = .returned v ∧ o.length = n ∧ D32 o ∧ hv o = V ∧ Own w' w.heap.size v o ∧ Ext w w'
set_option maxHeartbeats 400000 in
set_option maxRecDepth 100000 in
theorem rtrim_c (A : Option Addr) (c : Nat) (xs : List Nat) (w : World) (h : Rd w A c xs) (hs : xs.length ≤ 100000000) :
    Calls Tryz.prog 91 #[.slice A xs.length c] w (Res w (cn (val xs))) := by
  have h1 := rdigits_c A c xs w h (by omega)
  have hv1 := dg_val xs
  have hd := dg_d32 h.w64
  have hl := dg_len xs
  generalize dg xs = ds at *
  have HV := Lib.hid hv1
  have hlb : ds.length ≤ 400000000 := by omega
  clear hv1 hl
  go_enter Tryz.func91, Tryz.ntmps91
  go_wp2_with fail
  refine h1.mono ?_
  rintro e w1 ⟨v, rfl, ho, hb⟩
  obtain ⟨A1, c1, rfl, hr⟩ := ho.rd
  go_wp2_with fail
  refine (rnat_c A1 c1 ds _ hr hd hlb).mono ?_
  rintro e w2 ⟨v, rfl, ho2, hb2⟩
  rw [HV.out] at ho2
  go_wp2
  go_ret
  exact ⟨_, rfl, ho2.low hb.size, hb.tr hb2⟩
theorem rword_c (x : Nat) (w : World) (hx : x < B) : Calls Tryz.prog 122 #[.int .u64 (x : Int)] w (DRes w 2 x) := by
  obtain ⟨d, hd⟩ : ∃ d, d = x % H := ⟨_, rfl⟩
  obtain ⟨q, hq⟩ : ∃ q, q = x / H := ⟨_, rfl⟩
  have hdH : d < H := by rw [hd]; exact Nat.mod_lt _ H_pos
  have hqH : q < H := by rw [hq, Nat.div_lt_iff_lt_mul H_pos, ← HH]; exact hx
  have hval : hv [d, q] = x := by simp only [hv, valb, Nat.mul_zero, Nat.add_zero]; rw [hd, hq, Nat.mod_add_div]
  have i1 : (x : Int) % 4294967296 = (d : Int) := by rw [hd, H_eq]; omega
  have i2 : (x : Int) / 4294967296 = (q : Int) := by rw [hq, H_eq]; omega
  have i3 : IntKind.u64.wrap (q : Int) = q := by rw [IntKind.wrap_u64]; rw [H_eq] at hqH; omega
  have i4 : (x : Int).tmod 4294967296 = (d : Int) := by rw [Int.tmod_eq_emod_of_nonneg (by omega)]; exact i1
  have HV := Lib.hid hval
  clear hd hq hval
  go_enter Tryz.func122, Tryz.ntmps122
  go_wp2
  go_ret
  have hb : Bk (w.alloc (.cells #[.int .u64 (d : Int), .int .u64 (q : Int)] 45)) w.heap.size [d, q] := ⟨heap_alloc_new w _, (D32.cons hdH (D32.cons hqH D32.nil)).w64⟩
  exact ⟨_, [d, q], rfl, rfl, D32.cons hdH (D32.cons hqH D32.nil), HV.out, hb.own (Nat.le_refl _) (by simp), (Ext.refl w).al _⟩
end Go.Proofs.YtlnfmngginihfaaGreatDoor
