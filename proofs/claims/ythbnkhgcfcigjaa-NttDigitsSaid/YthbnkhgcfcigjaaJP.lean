/- Chapter 04's reference: Long. -/
import Derived.Test.YthbnkhgcfcigjaaJI
import Derived.Test.YthbnkhgcfcigjaaJM
import Derived.Test.YthbnkhgcfcigjaaKX
import Derived.Test.YthbnkhgcfcigjaaQT
set_option linter.unusedVariables false
set_option linter.unusedSimpArgs false
namespace Go.Proofs.Ythbnkhgcfcigjaa
open Go.RowKit

theorem toNat_ij (i j : Nat) : ((i : Int) + (j : Int)).toNat = i + j := by omega
set_option maxHeartbeats 8000000 in
set_option maxRecDepth 100000 in
theorem rlong04_c (A A' : Option Addr) (c c' : Nat) (xs ys : List Nat) (w : World) (h : Rd w A c xs) (h' : Rd w A' c' ys) (hl : xs.length ≤ 32768) (hl' : ys.length ≤ 32768) (hal : Al xs) (hal' : Al ys) :
    Calls Try.prog 25 #[.slice A xs.length c, .slice A' ys.length c'] w (Res w (lgL xs ys)) := by
  have hnil := (⟨_, rfl, Own.nil w w.heap.size, Ext.refl w⟩ : Res w [] (.returned (.slice none 0 0)) w)
  by_cases h0 : xs.length = 0
  · have e : lgL xs ys = [] := by unfold lgL; rw [if_pos (.inl h0)]
    rw [e, h0]
    clear h0 e
    go_enter Try.func25, Try.ntmps25
    go_wp2_with fail
    go_ret
    exact hnil
  by_cases h1 : ys.length = 0
  · have e : lgL xs ys = [] := by unfold lgL; rw [if_pos (.inr h1)]
    have n0 : ((xs.length : Int) == 0) = false := by rw [beq_eq_false_iff_ne]; omega
    have n1 : ((xs.length : Int) = 0) = False := eq_false (by omega)
    rw [e, h1]
    clear h1 e h0
    go_enter Try.func25, Try.ntmps25
    go_wp2_with fail
    go_ret
    exact hnil
  · have n0 : ((xs.length : Int) == 0) = false := by rw [beq_eq_false_iff_ne]; omega
    have n1 : ((xs.length : Int) = 0) = False := eq_false (by omega)
    have n2 : ((ys.length : Int) == 0) = false := by rw [beq_eq_false_iff_ne]; omega
    have n3 : ((ys.length : Int) = 0) = False := eq_false (by omega)
    have hx0 : 0 < xs.length := by omega
    have hy0 : 0 < ys.length := by omega
    obtain ⟨ad, rfl⟩ := h.addr hx0
    obtain ⟨ad', rfl⟩ := h'.addr hy0
    have hst := Lgr.start (a := xs) (b := ys)
    obtain ⟨L, hL⟩ : ∃ L, xs.length + ys.length - 1 = L := ⟨_, rfl⟩
    have hLi : (xs.length : Int) + (ys.length : Int) - 1 = (L : Int) := by omega
    have hLb : L ≤ 65535 := by omega
    rw [hL] at hst
    have HL := Lib.hid hL
    have hgx : ∀ i, i < xs.length → w.cell? (ad.add i) = some (.int .u64 (xs.getD i 0 : Nat)) := fun i hi => h.get i hi
    have hgy : ∀ i, i < ys.length → w.cell? (ad'.add i) = some (.int .u64 (ys.getD i 0 : Nat)) := fun i hi => h'.get i hi
    clear hL h0 h1 hnil
    have HST := Lib.hid hst
    clear hst
    go_enter Try.func25, Try.ntmps25
    go_wp2_with (at_make; refine wp_make rfl _ _ _ rfl Try.underlying30 L _ rfl rfl rfl (by omega) ?_; intro g w1 hg1 hb1 he1)
    clear hLi
    go_loopw [6] (fun v6 wr => ∃ (i : Nat) (zs : List Nat), i ≤ xs.length ∧ v6 = .int .i64 (i : Int) ∧ Bk wr g zs ∧ Lgr xs ys zs i 0 ∧ Gb g w1 wr) (fun v _ => xs.length - (intOf v).toNat)
    case atStart => exact ⟨0, _, Nat.zero_le _, rfl, hb1, HST.out, Gb.refl _ _⟩
    case round =>
      obtain ⟨i, zs, hi, rfl, hb2, hz2, hg2⟩ := hrel
      by_cases hlt : i < xs.length
      · have HZ := Lib.hid hz2
        clear hz2
        go_wp2_with fail
        go_loopw [7] (fun v7 w2 => ∃ (j : Nat) (zs : List Nat), j ≤ ys.length ∧ v7 = .int .i64 (j : Int) ∧ Bk w2 g zs ∧ Lgr xs ys zs i j ∧ Gb g w1 w2) (fun v _ => ys.length - (intOf v).toNat)
        case atStart => exact ⟨0, zs, Nat.zero_le _, rfl, hb2, HZ.out, hg2⟩
        case round =>
          clear hb2 HZ hg2
          obtain ⟨j, zs, hj, rfl, hb3, hz3, hg3⟩ := hrel
          by_cases hjl : j < ys.length
          · have hzl : zs.length = L := by rw [hz3.1, HL.out]
            have hE3 := hg3.ext he1 hg1
            have hx := hE3.cell (hgx i hlt)
            have hy := hE3.cell (hgy j hjl)
            have hij : i + j < zs.length := by rw [hzl, ← HL.out]; omega
            have hc := hb3.cell (i + j) hij
            have hf := hb3.frozen (i + j)
            have hst := hz3.step hlt hjl
            have hzP : zs.getD (i + j) 0 < PP := by rw [hz3.2 _ hij]; exact Nat.mod_lt _ PP_pos
            have hT : ∀ w, Calls Try.prog 49 #[.int .u64 ((xs.getD i 0 : Nat) : Int), .int .u64 ((ys.getD j 0 : Nat) : Int)] w fun e w' => e = .returned (.int .u64 ((xs.getD i 0 * ys.getD j 0 % PP : Nat) : Int)) ∧ Ext w w' := fun w => rtimes04_c _ _ w (Nat.lt_trans (hal i) PP_lt_B) (Nat.lt_trans (hal' j) PP_lt_B)
            have hyP : xs.getD i 0 * ys.getD j 0 % PP < PP := Nat.mod_lt _ PP_pos
            have hA : ∀ w, Calls Try.prog 47 #[.int .u64 ((zs.getD (i + j) 0 : Nat) : Int), .int .u64 ((xs.getD i 0 * ys.getD j 0 % PP : Nat) : Int)] w fun e w' => e = .returned (.int .u64 (((zs.getD (i + j) 0 + xs.getD i 0 * ys.getD j 0 % PP) % PP : Nat) : Int)) ∧ Ext w w' := fun w => radd04_c _ _ w (Nat.lt_trans hzP PP_lt_B) (Nat.lt_trans hyP PP_lt_B)
            have hsB : (zs.getD (i + j) 0 + xs.getD i 0 * ys.getD j 0 % PP) % PP < B := Nat.lt_trans (Nat.mod_lt _ PP_pos) PP_lt_B
            have hijL : ((i : Int) + (j : Int)) < (L : Int) := by omega
            have hcast : (i : Int) + (j : Int) = ((i + j : Nat) : Int) := by omega
            have HST := Lib.hid hst
            have HB3 := Lib.hid hb3
            clear hst hb3 hz3 hzl hgx hgy
            have HQ : ∃ s y x z b, (zs.getD (i + j) 0 + xs.getD i 0 * ys.getD j 0 % PP) % PP = s ∧ xs.getD i 0 * ys.getD j 0 % PP = y ∧ xs.getD i 0 = x ∧ zs.getD (i + j) 0 = z ∧ ys.getD j 0 = b := ⟨_, _, _, _, _, rfl, rfl, rfl, rfl, rfl⟩
            obtain ⟨s1, y1, x1, z1, b1, q1, q2, q3, q4, q5⟩ := HQ
            rw [q1] at hA hsB HST
            rw [q2] at hT hA hyP
            rw [q3] at hT hx
            rw [q4] at hA hc hzP
            rw [q5] at hT hy
            clear q1 q2 q3 q4 q5
            have g0 : (0 : Int) ≤ (i : Int) + (j : Int) := by omega
            have hw1 : IntKind.i64.wrap ((i : Int) + (j : Int)) = (i : Int) + (j : Int) := by rw [IntKind.wrap_i64]; omega
            have hw2 : wrap64 ((i : Int) + (j : Int)) = (i : Int) + (j : Int) := by unfold wrap64; omega
            have ht1 : ((i : Int) + (j : Int)).toNat = i + j := toNat_ij i j
            have gi0 : (i : Int) < (xs.length : Int) := Int.ofNat_lt.2 hlt
            have gj0 : (j : Int) < (ys.length : Int) := Int.ofNat_lt.2 hjl
            clear hcast
            have qx := Later.cell hx
            have qy := Later.cell hy
            have qz := Later.cell hc
            clear hx hy
            go_wp2_with fail
            refine wp_region_later_tail 21 (by kernel_rfl) (by kernel_rfl) ?_
            simp only [List.take_succ_cons, List.take_zero, List.drop_succ_cons, List.drop_zero]
            repeat (go_big_quiet_step (first
              | (go_at_call 49; (with_reducible refine Calls.later (hT _)))
              | (go_at_call 47; (with_reducible refine Calls.later (hA _)))))
            refine wpQuiet_nil ?_
            intro wq hw'
            obtain ⟨⟨w5, hE5'⟩, hw5⟩ := hw'
            replace hw5 : wq = w5 := hw5
            rw [hw5]
            clear hw5 wq
            have c5 := hE5'.cell hc
            have f5 := (HB3.out.ext hE5').frozen (i + j)
            have hb5 := (HB3.out.ext hE5').set (i + j) s1 hsB
            have hg5 := (hg3.tr (Gb.of_ext hE5' g)).set (i + j) (.int .u64 (s1 : Int))
            have HB5 := Lib.hid hb5
            have HG5 := Lib.hid hg5
            clear hb5 hg5
            go_wp2_with fail
            go_roundw
            case rel => exact ⟨j + 1, _, hjl, by go_num, HB5.out, HST.out, HG5.out⟩
            case measure => simp [intOf]; omega
          · obtain rfl : j = ys.length := by omega
            have hnx := hz3.next
            have HN := Lib.hid hnx
            clear hz3 hnx
            go_wp2_with fail
            go_roundw
            case rel => exact ⟨i + 1, zs, hlt, by go_num, hb3, HN.out, hg3⟩
            case measure => simp [intOf]; omega
      · obtain rfl : i = xs.length := by omega
        have hd := hz2.done hx0 hy0
        have hzl : zs.length = L := by rw [hz2.1, HL.out]
        have ho := hb2.own hg1 (by rw [hzl]; omega)
        rw [hzl, hd] at ho
        have HO := Lib.hid ho
        clear hd hz2 hzl ho
        go_wp2_with fail
        go_ret
        exact ⟨_, rfl, HO.out, hg2.ext he1 hg1⟩
end Go.Proofs.Ythbnkhgcfcigjaa
