/- the references' numbers: Trim, FromWord, Plus, Add. -/
import Derived.Test.YtgkojhhodncpbaaDoorR2
set_option linter.unusedVariables false
set_option linter.unusedSimpArgs false
namespace Go.Proofs.YtgkojhhodncpbaaDoor
open Go.RowKit

/-- Digits in new memory: so many, with that value. -/
def DRes (w : World) (n V : Nat) (e : Ending) (w' : World) : Prop := ∃ v o, e = .returned v ∧ o.length = n ∧ D32 o ∧ hv o = V ∧ Own w' w.heap.size v o ∧ Ext w w'
set_option maxHeartbeats 400000 in
set_option maxRecDepth 100000 in
theorem rtrim_c (A : Option Addr) (c : Nat) (xs : List Nat) (w : World) (h : Rd w A c xs) (hs : xs.length ≤ 100000000) :
    Calls Tryd.prog 98 #[.slice A xs.length c] w (Res w (cn (val xs))) := by
  have h1 := rdigits_c A c xs w h (by omega)
  have hv1 := dg_val xs
  have hd := dg_d32 h.w64
  have hl := dg_len xs
  generalize dg xs = ds at *
  have HV := Lib.hid hv1
  have hlb : ds.length ≤ 400000000 := by omega
  clear hv1 hl
  go_enter Tryd.func98, Tryd.ntmps98
  go_wp2_with fail
  refine h1.mono ?_
  rintro e w1 ⟨v, rfl, ho, hb⟩
  obtain ⟨A1, c1, rfl, hr⟩ := ho.rd
  go_wp2_with fail
  refine (rnat_c A1 c1 ds _ hr hd hlb).mono ?_
  rintro e w2 ⟨v, rfl, ho2, hb2⟩
  rw [HV.out] at ho2
  go_wp2
  go_ret
  exact ⟨_, rfl, ho2.low hb.size, hb.tr hb2⟩
theorem rword_c (x : Nat) (w : World) (hx : x < B) : Calls Tryd.prog 96 #[.int .u64 (x : Int)] w (DRes w 2 x) := by
  obtain ⟨d, hd⟩ : ∃ d, d = x % H := ⟨_, rfl⟩
  obtain ⟨q, hq⟩ : ∃ q, q = x / H := ⟨_, rfl⟩
  have hdH : d < H := by rw [hd]; exact Nat.mod_lt _ H_pos
  have hqH : q < H := by rw [hq, Nat.div_lt_iff_lt_mul H_pos, ← HH]; exact hx
  have hval : hv [d, q] = x := by simp only [hv, valb, Nat.mul_zero, Nat.add_zero]; rw [hd, hq, Nat.mod_add_div]
  have i1 : (x : Int) % 4294967296 = (d : Int) := by rw [hd, H_eq]; omega
  have i2 : (x : Int) / 4294967296 = (q : Int) := by rw [hq, H_eq]; omega
  have i3 : IntKind.u64.wrap (q : Int) = q := by rw [IntKind.wrap_u64]; rw [H_eq] at hqH; omega
  have i4 : (x : Int).tmod 4294967296 = (d : Int) := by rw [Int.tmod_eq_emod_of_nonneg (by omega)]; exact i1
  have HV := Lib.hid hval
  clear hd hq hval
  go_enter Tryd.func96, Tryd.ntmps96
  go_wp2
  go_ret
  have hb : Bk (w.alloc (.cells #[.int .u64 (d : Int), .int .u64 (q : Int)] 70)) w.heap.size [d, q] := ⟨heap_alloc_new w _, (D32.cons hdH (D32.cons hqH D32.nil)).w64⟩
  exact ⟨_, [d, q], rfl, rfl, D32.cons hdH (D32.cons hqH D32.nil), HV.out, hb.own (Nat.le_refl _) (by simp), (Ext.refl w).al _⟩
set_option maxHeartbeats 400000 in
set_option maxRecDepth 100000 in
theorem rfrom_c (x : Nat) (w : World) (hx : x < B) : Calls Tryd.prog 56 #[.int .u64 (x : Int)] w (Res w (cn x)) := by
  go_enter Tryd.func56, Tryd.ntmps56
  go_wp2_with fail
  refine (rword_c x w hx).mono ?_
  rintro e w1 ⟨v, ds, rfl, hl, hd, hv1, ho, hb⟩
  obtain ⟨A1, c1, rfl, hr⟩ := ho.rd
  have HV := Lib.hid hv1
  have hlb : ds.length ≤ 400000000 := by omega
  clear hv1 hl
  go_wp2_with fail
  refine (rnat_c A1 c1 ds _ hr hd hlb).mono ?_
  rintro e w2 ⟨v, rfl, ho2, hb2⟩
  rw [HV.out] at ho2
  go_wp2
  go_ret
  exact ⟨_, rfl, ho2.low hb.size, hb.tr hb2⟩

set_option maxHeartbeats 2000000 in
set_option maxRecDepth 100000 in
theorem rplus_c (A A' : Option Addr) (c c' : Nat) (X Y : List Nat) (w : World) (h : Rd w A c X) (h' : Rd w A' c' Y) (hX : D32 X) (hY : D32 Y) (hs : X.length ≤ 400000000) (hs' : Y.length ≤ 400000000) :
    Calls Tryd.prog 169 #[.slice A X.length c, .slice A' Y.length c'] w (DRes w (max X.length Y.length + 1) (hv X + hv Y)) := by
  go_enter Tryd.func169, Tryd.ntmps169
  go_wp2
  go_loopw [5, 6, 7] (fun v5 v6 v7 wr => ∃ (i cy : Nat) (o : List Nat), (i ≤ X.length ∨ i ≤ Y.length) ∧ v7 = .int .i64 i ∧ v6 = .int .u64 cy ∧ cy ≤ 1 ∧ Own wr w.heap.size v5 o ∧ o.length = i ∧ D32 o ∧ hv o + H ^ i * cy = hv (X.take i) + hv (Y.take i) ∧ Ext w wr)
    (fun _ _ v _ => X.length + Y.length - (intOf v).toNat)
  case atStart => exact ⟨0, 0, [], .inl (Nat.zero_le _), rfl, rfl, by omega, Own.nil _ _, rfl, D32.nil, by simp [valb], Ext.refl _⟩
  case round =>
    obtain ⟨i, cy, o, hi, rfl, rfl, hc, hown, hl, hd, hv1, hE⟩ := hrel
    by_cases hlt : i < X.length ∨ i < Y.length
    · have hx := hX.get i
      have hy := hY.get i
      have dx := rdigit_c A c X i wr (h.ext hE)
      have dy := rdigit_c A' c' Y i wr (h'.ext hE)
      have hstep := fun t ht => plus_step (out := o) (a := X) (b := Y) (i := i) (c := cy) (t := t) hl ht hv1
      have hbd := plus_bound hc hx hy
      generalize X.getD i 0 = x at *
      generalize Y.getD i 0 = y at *
      obtain ⟨s, hs1⟩ : ∃ s, s = cy + x := ⟨_, rfl⟩
      obtain ⟨t, ht⟩ : ∃ t, t = cy + x + y := ⟨_, rfl⟩
      rw [← ht] at hbd
      replace hstep := hstep t ht
      obtain ⟨r, hr⟩ : ∃ r, r = t % H := ⟨_, rfl⟩
      obtain ⟨q, hq⟩ : ∃ q, q = t / H := ⟨_, rfl⟩
      have hrH : r < H := by rw [hr]; exact Nat.mod_lt _ H_pos
      rw [← hq] at hbd
      rw [← hr, ← hq] at hstep
      rw [H_eq] at hx hy
      have i1 : IntKind.u64.wrap ((cy : Int) + (x : Int)) = (s : Int) := by rw [IntKind.wrap_u64]; omega
      have i2 : IntKind.u64.wrap ((s : Int) + (y : Int)) = (t : Int) := by rw [IntKind.wrap_u64]; omega
      have i3 : (t : Int) % 4294967296 = (r : Int) := by rw [hr, H_eq]; omega
      have i4 : (t : Int).tmod 4294967296 = (r : Int) := by rw [Int.tmod_eq_emod_of_nonneg (by omega)]; exact i3
      have i5 : (t : Int) / 4294967296 = (q : Int) := by rw [hq, H_eq]; omega
      have i6 : IntKind.u64.wrap (q : Int) = q := by rw [IntKind.wrap_u64]; omega
      have HST := Lib.hid (show q ≤ 1 ∧ hv (o ++ [r]) + H ^ (i + 1) * q = hv (X.take (i + 1)) + hv (Y.take (i + 1)) from ⟨hbd, hstep⟩)
      have hrB : r < B := Nat.lt_trans hrH H_lt_B
      have hd2 := hd.snoc hrH
      have hil : i ≤ 400000000 := by omega
      have HI := Lib.hid hlt
      have HL := Lib.hid hl
      have hol : o.length ≤ 400000000 := by omega
      clear hs1 ht hr hq hx hy hstep hbd hv1 hi hl
      rcases (show i < X.length ∨ (¬ i < X.length ∧ i < Y.length) by omega) with hlt | ⟨hno, hlt⟩
      all_goals
        go_wp2_with fail
        refine dx.mono ?_
        rintro e w1 ⟨rfl, rfl⟩
        go_wp2_with fail
        refine dy.mono ?_
        rintro e w1 ⟨rfl, rfl⟩
        go_wp2_with (at_builtin; refine wp_append rfl _ _ _ rfl Tryd.underlying33 w.heap.size _ o rfl (hown.ext ((Ext.refl _).al _)) (some ⟨wr.heap.size, 0, none⟩) 1 1 [r] rfl rfl (Rd.new1 wr r hrB) ?hb ?hl ?_; (case hb => simp; have := hE.size; omega); (case hl => simp; omega); intro v' w1 ho hb1 hat hg)
        go_roundw
        case rel => exact ⟨i + 1, q, o ++ [r], by have := HI.out; omega, by go_num, rfl, HST.out.1, ho, by simp [HL.out], hd2, HST.out.2, Below.trans (hE.al _) hb1⟩
        case measure => simp [intOf]; omega
    · have e1 : X.length ≤ i := by omega
      have e2 : Y.length ≤ i := by omega
      rw [List.take_of_length_le e1, List.take_of_length_le e2] at hv1
      have hcB : cy < B := by have := two_le_B; omega
      have hcH : cy < H := by have := two_le_H; omega
      have hfin : hv (o ++ [cy]) = hv X + hv Y := by
        have := valb_snoc H o cy
        rw [hl] at this
        rw [hv, this]; exact hv1
      have hil : i = max X.length Y.length := by omega
      have HF := Lib.hid hfin
      have HL := Lib.hid (show o.length = max X.length Y.length by rw [hl]; exact hil)
      have hd2 := hd.snoc hcH
      have hl2 : o.length ≤ 400000000 := by omega
      clear hv1 hfin hil hi hl
      go_wp2_with (at_builtin; refine wp_append rfl _ _ _ rfl Tryd.underlying33 w.heap.size _ o rfl (hown.ext ((Ext.refl _).al _)) (some ⟨wr.heap.size, 0, none⟩) 1 1 [cy] rfl rfl (Rd.new1 wr cy hcB) ?hb ?hl ?_; (case hb => simp; have := hE.size; omega); (case hl => simp; omega); intro v' w1 ho hb1 hat hg)
      go_ret
      exact ⟨_, _, rfl, by have := HL.out; simp; omega, hd2, HF.out, ho, Below.trans (hE.al _) hb1⟩

set_option maxHeartbeats 400000 in
set_option maxRecDepth 100000 in
theorem radd_c (A A' : Option Addr) (c c' : Nat) (xs ys : List Nat) (w : World) (h : Rd w A c xs) (h' : Rd w A' c' ys) (hs : xs.length ≤ 10000000) (hs' : ys.length ≤ 10000000) :
    Calls Tryd.prog 160 #[.slice A xs.length c, .slice A' ys.length c'] w (Res w (cn (val xs + val ys))) := by
  have h1 := rdigits_c A c xs w h (by omega)
  have h2 := fun w1 h' => rdigits_c A' c' ys w1 h' (by omega)
  have e1 := dg_val xs
  have e2 := dg_val ys
  have d1 := dg_d32 h.w64
  have d2 := dg_d32 h'.w64
  have l1 := dg_len xs
  have l2 := dg_len ys
  generalize dg xs = ds at *
  generalize dg ys = es at *
  have HV := Lib.hid (show hv ds + hv es = val xs + val ys by rw [e1, e2])
  have b1 : ds.length ≤ 20000000 := by omega
  have b2 : es.length ≤ 20000000 := by omega
  clear e1 e2 l1 l2
  go_enter Tryd.func160, Tryd.ntmps160
  go_wp2_with fail
  refine h1.mono ?_
  rintro e w1 ⟨v, rfl, ho, hb⟩
  obtain ⟨A1, c1, rfl, hr⟩ := ho.rd
  go_wp2_with fail
  refine (h2 _ (h'.ext hb)).mono ?_
  rintro e w2 ⟨v, rfl, ho2, hb2⟩
  obtain ⟨A2, c2, rfl, hr2⟩ := ho2.rd
  go_wp2_with fail
  refine (rplus_c A1 A2 c1 c2 ds es _ (hr.ext hb2) hr2 d1 d2 (by omega) (by omega)).mono ?_
  rintro e w3 ⟨v, fs, rfl, hl3, hd3, hv3, ho3, hb3⟩
  obtain ⟨A3, c3, rfl, hr3⟩ := ho3.rd
  rw [HV.out] at hv3
  have HV3 := Lib.hid hv3
  have b3 : fs.length ≤ 40000000 := by omega
  clear hv3 hl3
  go_wp2_with fail
  refine (rnat_c A3 c3 fs _ hr3 hd3 (by omega)).mono ?_
  rintro e w4 ⟨v, rfl, ho4, hb4⟩
  rw [HV3.out] at ho4
  go_wp2
  go_ret
  have hE := (hb.tr hb2).tr hb3
  exact ⟨_, rfl, ho4.low hE.size, hE.tr hb4⟩
end Go.Proofs.YtgkojhhodncpbaaDoor
