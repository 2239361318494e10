/- Chapter 04's reference: Join. -/
import Derived.Test.YthbnkhgcfcigjaaJT
set_option linter.unusedVariables false
set_option linter.unusedSimpArgs false
namespace Go.Proofs.Ythbnkhgcfcigjaa
open Go.RowKit

theorem valb_up {P : Nat} (h : P ≤ B) : ∀ l : List Nat, valb P l ≤ valb B l
  | [] => Nat.le_refl _
  | x :: l => by
    rw [valb_cons, valb_cons]
    exact Nat.add_le_add_left (Nat.mul_le_mul h (valb_up h l)) x
theorem valb_drop_low (P : Nat) (l : List Nat) (k : Nat) (hk : k < l.length) : valb P (l.drop k) = valb P (l.drop (k + 1)) * P + l.getD k 0 := by
  rw [List.drop_eq_getElem_cons hk, valb_cons, List.getD_eq_getElem?_getD, List.getElem?_eq_getElem hk, Nat.mul_comm P, Nat.add_comm]
  rfl
theorem cn_drop_len {P : Nat} (h : P ≤ B) {l : List Nat} (hw : W64 l) (k : Nat) : (cn (valb P (l.drop k))).length ≤ l.length := by
  refine (cn_len_le _ _).2 (Nat.lt_of_le_of_lt (valb_up h _) ?_)
  refine Nat.lt_of_lt_of_le (valb_lt B _ (fun x hx => hw x (List.mem_of_mem_drop hx))) ?_
  rw [List.length_drop]
  exact Nat.pow_le_pow_right B_pos (Nat.sub_le _ _)
set_option maxHeartbeats 8000000 in
set_option maxRecDepth 100000 in
theorem rjoin04_c (s P : Nat) (hP : 2 ^ s = P) (hs : s ≤ 64) (A : Option Addr) (c : Nat) (l : List Nat) (w : World) (h : Rd w A c l) (hl : l.length ≤ 100000) :
    Calls Try.prog 45 #[.slice A l.length c, .int .i64 (s : Int)] w (Res w (cn (valb P l))) := by
  have hPB : P ≤ B := by rw [← hP, B_two]; exact Nat.pow_le_pow_right (by omega) hs
  have hcl := cn_drop_len hPB h.w64
  have hstep := valb_drop_low P l
  have hLf : ∀ (m : Nat) A c w, Rd w A c (cn m) → (cn m).length ≤ l.length → Calls Try.prog 30 #[.slice A (cn m).length c, .int .i64 (s : Int)] w (Res w (cn (m * P))) := by
    intro m A c w h hm
    have q := rleft_c A c (cn m) s w h (by omega) (by omega)
    rwa [val_cn, hP] at q
  have hAd : ∀ (m x : Nat) A A' c w, Rd w A c (cn (m * P)) → Rd w A' 1 [x] → (cn (m * P)).length ≤ 10000000 → Calls Try.prog 29 #[.slice A (cn (m * P)).length c, .slice A' 1 1] w (Res w (cn (m * P + x))) := by
    intro m x A A' c w h h' hm
    have q := radd_c A A' c 1 (cn (m * P)) [x] w h h' hm (by simp)
    rwa [val_cn, show val [x] = x from val1 x] at q
  go_enter Try.func45, Try.ntmps45
  go_wp2_with fail
  go_loopw [5, 6] (fun v5 v6 wr => ∃ (k m : Nat) (A5 : Option Addr) (c5 : Nat), k ≤ l.length ∧ v6 = .int .i64 ((k : Int) - 1) ∧ m = valb P (l.drop k) ∧ v5 = .slice A5 (cn m).length c5 ∧ Own wr w.heap.size (.slice A5 (cn m).length c5) (cn m) ∧ Ext w wr) (fun _ v _ => (intOf v + 1).toNat)
  case atStart =>
    refine ⟨l.length, 0, none, 0, Nat.le_refl _, by go_num, by rw [List.drop_length]; rfl, ?_, ?_, Ext.refl _⟩
    · rw [show cn 0 = [] from digs_zero B]; rfl
    · rw [show cn 0 = [] from digs_zero B]; exact Own.nil _ _
  case round =>
    obtain ⟨k, m, A5, c5, hk, rfl, hm, rfl, ho, hE⟩ := hrel
    have hml : (cn m).length ≤ l.length := by rw [hm]; exact hcl k
    rcases k with _ | k
    · rw [List.drop_zero] at hm
      have HO := Lib.hid ho
      have HM := Lib.hid hm
      clear hm ho hcl hstep
      go_wp2_with fail
      go_ret
      exact ⟨_, rfl, by rw [← HM.out]; exact HO.out, hE⟩
    · obtain ⟨ad, rfl, hx⟩ := h.cell k (by omega)
      replace hx := hE.cell hx
      have hxB := h.w64.get k
      have hst := hstep k (by omega)
      rw [← hm] at hst
      have hml2 : (cn (m * P)).length ≤ 10000000 := by
        refine Nat.le_trans (cn_mono (Nat.le_trans (Nat.le_add_right (m * P) (l.getD k 0)) (Nat.le_of_eq hst.symm))) ?_
        have := hcl k
        omega
      have hLf' := fun w h => hLf m A5 c5 w h hml
      have hAd' := fun A A' c w h h' => hAd m (l.getD k 0) A A' c w h h' hml2
      generalize l.getD k 0 = x at *
      have hr := ho.rd'
      have h6 : ((k + 1 : Nat) : Int) - 1 = (k : Int) := by omega
      have hkl : (k : Int) < (l.length : Int) := by omega
      have HST := Lib.hid hst
      have HSZ := Lib.hid hE.size
      have HM := Lib.hid hm
      rw [h6]
      clear hm ho hcl hstep h6 hst hml hml2 hLf hAd h
      generalize m * P = mp at *
      go_wp2_with fail
      go_region_held3 (fun w' => w'.cell? (ad.add k) = some (.int .u64 (x : Int)))
        (first | go_keep | (refine Ext.cell (w := wr) (by assumption) ?_; assumption))
        (first
          | (go_at_call 30; (with_reducible refine (hLf' _ hr.drew).mono ?_); rintro z w5 ⟨v, rfl, ho5, hb5⟩; obtain ⟨A6, c6, rfl, hr5⟩ := ho5.rd; have hE5 : Ext wr w5 := (Ext.refl wr).drew.tr hb5)
          | (go_at_call 30; (with_reducible refine (hLf' _ (hr.ext ((Ext.refl _).al _)).drew).mono ?_); rintro z w5 ⟨v, rfl, ho5, hb5⟩; obtain ⟨A6, c6, rfl, hr5⟩ := ho5.rd; have hE5 : Ext wr w5 := ((Ext.refl wr).al _).drew.tr hb5)
          | (go_at_call 29; (with_reducible refine (hAd' A6 _ c6 _ (hr5.ext ((Ext.refl _).al _)) (Rd.nw1 w5 x hxB)).mono ?_); rintro z w6 ⟨v, rfl, ho6, hb6⟩; obtain ⟨A7, c7, rfl, hr6⟩ := ho6.rd; have hE6 : Ext wr w6 := (hE5.al _).tr hb6)
          | (go_at_call 29; (with_reducible refine (hAd' A6 _ c6 _ hr5 ((Rd.nw1 wr x hxB).drew.ext hb5)).mono ?_); rintro z w6 ⟨v, rfl, ho6, hb6⟩; obtain ⟨A7, c7, rfl, hr6⟩ := ho6.rd; have hE6 : Ext wr w6 := hE5.tr hb6))
      all_goals
        go_wp2_with fail
        go_roundw
        case rel => exact ⟨k, mp + x, A7, c7, by omega, by go_num, HST.out.symm, rfl, ho6.low (by have h1 := HSZ.out; have h2 := hE5.size; first | omega | (simp; omega)), hE.tr hE6⟩
        case measure => simp [intOf]
end Go.Proofs.Ythbnkhgcfcigjaa
