/- package wide: DivMod by 1 (with divWord by 1, and bits.Div64 of one word by 1). -/
import Derived.Test.YtknafhogaheacaaDoorW3
set_option linter.unusedVariables false
set_option linter.unusedSimpArgs false
namespace Go.Proofs.YtknafhogaheacaaDoor
open Go.RowKit

set_option maxHeartbeats 400000 in
set_option maxRecDepth 100000 in
theorem div64_one (x : Nat) (hx : x < B) (w : World) : Calls Tryd.prog 56 #[.int .u64 0, .int .u64 (x : Int), .int .u64 1] w fun e w' => e = .returned (.tuple #[.int .u64 (x : Int), .int .u64 0]) ∧ ∃ n, w' = w.drewN n := by
  have hw : IntKind.u64.wrap (x : Int) = (x : Int) := by rw [IntKind.wrap_u64]; rw [B_eq] at hx; omega
  go_enter Tryd.func56, Tryd.ntmps56
  go_wp2
  go_quiet (fail)
  go_wp2
  go_ret2
  exact ⟨by simp, _, rfl⟩
set_option maxHeartbeats 1000000 in
set_option maxRecDepth 100000 in
theorem divword_one (A : Option Addr) (c : Nat) (xs : List Nat) (w : World) (h : Rd w A c xs) (hs : xs.length ≤ 1000000000) :
    Calls Tryd.prog 39 #[.slice A xs.length c, .int .u64 1] w fun e w' => ∃ v, e = .returned (.tuple #[v, .int .u64 0]) ∧ Own w' w.heap.size v (cn (val xs)) ∧ Ext w w' := by
  have hw := h.w64
  go_enter Tryd.func39, Tryd.ntmps39
  go_wp2_with (at_make; refine wp_make rfl _ _ _ rfl Tryd.underlying23 xs.length _ rfl rfl rfl (by omega) ?_; intro g w1 hg hbk hb1)
  have HBK := Lib.hid hbk
  have HB1 := Lib.hid hb1
  have HG := Lib.hid hg
  clear hbk hb1 hg
  go_loopw [7, 8] (fun v7 v8 wr => ∃ (k : Nat) (o : List Nat), k ≤ xs.length ∧ v8 = .int .i64 ((k : Int) - 1) ∧ v7 = .int .u64 0 ∧ Bk wr g o ∧ o.length = xs.length ∧ (∀ j, k ≤ j → j < xs.length → o.getD j 0 = xs.getD j 0) ∧ Ext w wr) (fun _ v _ => (intOf v + 1).toNat)
  case atStart => exact ⟨xs.length, _, Nat.le_refl _, rfl, rfl, HBK.out, by simp, fun j h1 h2 => absurd h1 (by omega), HB1.out⟩
  case round =>
    obtain ⟨k, o, hk, rfl, rfl, hbk, hol, ho, hE⟩ := hrel
    rcases Nat.eq_zero_or_pos k with rfl | h0
    · have e : o = xs := by
        refine List.ext_getElem hol fun j h1 h2 => ?_
        have := ho j (Nat.zero_le _) h2
        rwa [List.getD_eq_getElem?_getD, List.getD_eq_getElem?_getD, List.getElem?_eq_getElem h1, List.getElem?_eq_getElem h2] at this
      subst e
      have hr := hbk.rd (by omega) (Nat.le_refl o.length)
      clear ho
      go_wp2_with (go_at_call 38; refine (trim_c _ _ o _ hr (by omega)).mono ?_; rintro z w2 ⟨v, rfl, ho2, hb2⟩)
      go_ret2
      exact ⟨_, rfl, ho2.low hE.size, hE.tr hb2⟩
    · obtain ⟨ad, rfl, hcell⟩ := h.cell (k - 1) (by omega)
      obtain ⟨j, hj⟩ : ∃ j, k = j + 1 := ⟨k - 1, by omega⟩
      subst hj
      have e1 : ((j + 1 : Nat) : Int) - 1 = (j : Int) := by omega
      rw [show j + 1 - 1 = j by omega] at hcell
      have hblk : ad.block < w.heap.size := by
        have := World.block_lt_of_cell? w _ hcell
        have e : (ad.add j).block = ad.block := by unfold Addr.add; split <;> rfl
        rwa [e] at this
      have hne : ¬ ad.block = g := by have := HG.out; omega
      have hne2 : ¬ g = ad.block := by have := HG.out; omega
      have hx1 := hE.cell hcell
      have hx := hw.get j
      have hcell2 := hbk.cell j (by omega)
      have hfz := hbk.frozen j
      obtain ⟨x, hxx⟩ : ∃ x, xs.getD j 0 = x := ⟨_, rfl⟩
      rw [hxx] at hcell hx1 hx
      generalize o.getD j 0 = ov at hcell2
      have hstep : ∀ i, j ≤ i → i < xs.length → (o.set j x).getD i 0 = xs.getD i 0 := fun i h1 h2 => by
        rw [getD_set o j i x (by omega)]
        split
        · rename_i e; subst e; rw [hxx]
        · exact ho i (by omega) h2
      have hl2 : (o.set j x).length = xs.length := by rw [List.length_set]; exact hol
      have HL2 := Lib.hid hl2
      have HST := Lib.hid hstep
      have HBK2 := Lib.hid hbk
      have HEE := Lib.hid hE
      have hdv := fun w => div64_one x hx w
      rw [e1]
      clear hol ho hstep hl2 hxx hbk hE
      go_wp2_with fail
      refine (hdv _).mono ?_
      rintro z w2 ⟨rfl, n, rfl⟩
      have hb2 := (HBK2.out.drewN n).set j x hx
      have hE2 := (HEE.out.drewN n).set HG.out j (.int .u64 (x : Int))
      go_wp2
      go_roundw
      case rel => exact ⟨j, _, by omega, rfl, rfl, hb2, HL2.out, HST.out, hE2⟩
      case measure => simp [intOf]
set_option maxHeartbeats 1000000 in
set_option maxRecDepth 100000 in
/-- A quotient by 1. -/
theorem divmod_one (A A1 : Option Addr) (c c1 : Nat) (xs : List Nat) (w : World) (h : Rd w A c xs) (h1 : Rd w A1 c1 [1]) (hp : 0 < val xs) (hs : xs.length ≤ 1000000000) :
    Calls Tryd.prog 17 #[.slice A xs.length c, .slice A1 1 c1] w fun e w' => ∃ v v', e = .returned (.tuple #[v, v']) ∧ Own w' w.heap.size v (cn (val xs)) ∧ Own w' w.heap.size v' [] ∧ Ext w w' := by
  have v1 := view_c A c xs w h
  have v2 := fun n => view_c A1 c1 [1] (w.drewN n) (h1.drewN n)
  have e1 : cn (val [1]) = [1] := by decide +kernel
  have hr := h.view
  have hr1 : Rd w A1 1 [1] := by have := h1.view; rwa [e1] at this
  have hl := cn_val_le h.w64
  have hvc := val_cn (val xs)
  simp only [e1, List.length_cons, List.length_nil, Nat.zero_add] at v2
  have hc : cmp3 (val xs) (val [1]) = 0 ∨ cmp3 (val xs) (val [1]) = 1 := by
    have e : val [1] = 1 := by decide +kernel
    rw [e]
    rcases Nat.lt_or_ge 1 (val xs) with hh | hh
    · exact .inr (cmp3_gt hh)
    · exact .inl (cmp3_eq (by omega))
  generalize val xs = m at *
  have hcm := fun w h h' => cmp_c A A1 (cn m).length 1 (cn m) [1] w h h'
  rw [hvc] at hcm
  have hdw := fun w h => divword_one A (cn m).length (cn m) w h (by omega)
  rw [hvc] at hdw
  have hw0 : ∀ w, Calls Tryd.prog 34 #[.int .u64 0] w (Res w []) := fun w => by
    have := word_c 0 w (by decide +kernel)
    rwa [show cn 0 = [] from digs_zero B] at this
  generalize cmp3 m (val [1]) = t at *
  have ht : decide (t < 0) = false := by rw [decide_eq_false_iff_not]; omega
  obtain ⟨ad1, rfl⟩ := hr1.addr (by simp)
  have hx1 : w.cell? ad1 = some (.int .u64 1) := by have := hr1.get 0 (by simp); simpa [show ad1.add 0 = ad1 from rfl] using this
  clear hvc hc e1
  simp only [List.length_cons, List.length_nil, Nat.zero_add] at hcm
  generalize cn m = X at *
  go_enter Tryd.func17, Tryd.ntmps17
  go_wp2_with fail
  refine v1.mono ?_
  rintro z w1 ⟨rfl, n, rfl⟩
  go_wp2_with fail
  refine (v2 n).mono ?_
  rintro z w1 ⟨rfl, n', rfl⟩
  have hE := fun m => (Ext.refl w).drewN m
  go_wp2_with fail
  refine (hcm _ (hr.ext (hE _)) (hr1.ext (hE _))).mono ?_
  rintro z w1 ⟨rfl, n'', rfl⟩
  have hE2 := hE (n + n' + n'')
  have hx2 := hE2.cell hx1
  go_wp2_with fail
  refine (hdw _ (hr.ext (hE _))).mono ?_
  rintro z w3 ⟨v, rfl, ho3, hb3⟩
  go_wp2_with fail
  refine (hw0 _).mono ?_
  rintro z w4 ⟨v', rfl, ho4, hb4⟩
  go_wp2
  go_ret2
  exact ⟨_, _, rfl, (ho3.ext hb4).low hE2.size, ho4.low (hE2.tr hb3).size, (hE2.tr hb3).tr hb4⟩
end Go.Proofs.YtknafhogaheacaaDoor
