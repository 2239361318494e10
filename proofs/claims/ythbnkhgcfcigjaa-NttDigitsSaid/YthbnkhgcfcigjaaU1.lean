/- The references 02 and 03: products of natural numbers; Make, Trim, Neg, Sign of integers. -/
import Derived.Test.YthbnkhgcfcigjaaR6
import Derived.Test.YthbnkhgcfcigjaaR8
set_option linter.unusedVariables false
set_option linter.unusedSimpArgs false
namespace Go.Proofs.Ythbnkhgcfcigjaa
open Go.RowKit

set_option maxHeartbeats 400000 in
set_option maxRecDepth 100000 in
theorem rmul_c (A A' : Option Addr) (c c' : Nat) (xs ys : List Nat) (w : World) (h : Rd w A c xs) (h' : Rd w A' c' ys) (hs : xs.length ≤ 10000000) (hs' : ys.length ≤ 10000000) :
    Calls Try.prog 32 #[.slice A xs.length c, .slice A' ys.length c'] w (Res w (cn (val xs * val ys))) := by
  have h1 := rdigits_c A c xs w h (by omega)
  have h2 := fun w1 h' => rdigits_c A' c' ys w1 h' (by omega)
  have e1 := dg_val xs
  have e2 := dg_val ys
  have d1 := dg_d32 h.w64
  have d2 := dg_d32 h'.w64
  have l1 := dg_len xs
  have l2 := dg_len ys
  generalize dg xs = ds at *
  generalize dg ys = es at *
  have HV := Lib.hid (show hv ds * hv es = val xs * val ys by rw [e1, e2])
  have b1 : ds.length ≤ 20000000 := by omega
  have b2 : es.length ≤ 20000000 := by omega
  clear e1 e2 l1 l2
  go_enter Try.func32, Try.ntmps32
  go_wp2_with fail
  refine h1.mono ?_
  rintro e w1 ⟨v, rfl, ho, hb⟩
  obtain ⟨A1, c1, rfl, hr⟩ := ho.rd
  go_wp2_with fail
  refine (h2 _ (h'.ext hb)).mono ?_
  rintro e w2 ⟨v, rfl, ho2, hb2⟩
  obtain ⟨A2, c2, rfl, hr2⟩ := ho2.rd
  go_wp2_with fail
  refine (rtimes_c A1 A2 c1 c2 ds es _ (hr.ext hb2) hr2 d1 d2 (by omega) (by omega)).mono ?_
  rintro e w3 ⟨v, fs, rfl, hl3, hd3, hv3, ho3, hb3⟩
  obtain ⟨A3, c3, rfl, hr3⟩ := ho3.rd
  rw [HV.out] at hv3
  have HV3 := Lib.hid hv3
  have b3 : fs.length ≤ 40000000 := by omega
  clear hv3 hl3
  go_wp2_with fail
  refine (rnat_c A3 c3 fs _ hr3 hd3 (by omega)).mono ?_
  rintro e w4 ⟨v, rfl, ho4, hb4⟩
  rw [HV3.out] at ho4
  go_wp2
  go_ret
  have hE := (hb.tr hb2).tr hb3
  exact ⟨_, rfl, ho4.low hE.size, hE.tr hb4⟩

theorem Ext.puti {w w1 : World} (h : Ext w w1) {g : Nat} (hg : w.heap.size ≤ g) (a b : Value) : Ext w ((w1.setCell ⟨g, 0, none⟩ a).setCell ⟨g, 1, none⟩ b) := (h.set hg 0 a).set hg 1 b
theorem Own.setBelow' {w : World} {base : Nat} {v : Value} {xs : List Nat} (h : Own w base v xs) {a : Addr} (ha : a.block < base) (u : Value) : Own (w.setCell a u) base v xs := ⟨ownsRow_setCell_below h.own ha u, h.w64⟩
theorem Own.puti {w : World} {base : Nat} {v : Value} {xs : List Nat} (h : Own w base v xs) {g : Nat} (hg : g < base) (a b : Value) : Own ((w.setCell ⟨g, 0, none⟩ a).setCell ⟨g, 1, none⟩ b) base v xs :=
  (h.setBelow' (a := ⟨g, 0, none⟩) hg a).setBelow' (a := ⟨g, 1, none⟩) hg b

/-- The integer of a sign and a size. -/
def sg (neg : Bool) (m : Nat) : Int := if neg = true then -(m : Int) else m
theorem sg_neg (neg : Bool) (m : Nat) : decide (sg neg m < 0) = (neg && decide (0 < m)) := by
  unfold sg
  cases neg <;> simp
theorem sg_abs (neg : Bool) (m : Nat) : (sg neg m).natAbs = m := by unfold sg; cases neg <;> simp
theorem sg_self (z : Int) : sg (decide (z < 0)) z.natAbs = z := by
  unfold sg
  by_cases h : z < 0
  · rw [decide_eq_true h, if_pos rfl]; omega
  · rw [decide_eq_false h, if_neg (by simp)]; omega
/-- An integer as a value. -/
abbrev intV (neg : Bool) (A : Option Addr) (n c : Nat) : Value := .agg #[.bool neg, .slice A n c]
/-- What hands back an integer. -/
def IntR (w : World) (z : Int) (e : Ending) (w' : World) : Prop :=
  ∃ A c, e = .returned (intV (decide (z < 0)) A (cn z.natAbs).length c) ∧ Own w' w.heap.size (.slice A (cn z.natAbs).length c) (cn z.natAbs) ∧ Ext w w'
theorem Own.rdAt {w : World} {base : Nat} {A : Option Addr} {n c : Nat} {xs : List Nat} (h : Own w base (.slice A n c) xs) : n = xs.length ∧ Rd w A c xs := by
  obtain ⟨A', c', e, hr⟩ := h.rd
  injection e with e1 e2 e3
  subst e1 e2 e3
  exact ⟨rfl, hr⟩
end Go.Proofs.Ythbnkhgcfcigjaa
