/- Chapter 04's reference: Round, Turned. -/
import Derived.Test.YthbnkhgcfcigjaaJP
set_option linter.unusedVariables false
set_option linter.unusedSimpArgs false
namespace Go.Proofs.Ythbnkhgcfcigjaa
open Go.RowKit

theorem Rnd.go {l zs : List Nat} {n i : Nat} (h : Rnd (fun x => x) l zs n i) (hi : i < 2 * n) : Rnd (fun x => x) l (zs.set (i % n) ((zs.getD (i % n) 0 + l.getD i 0) % PP)) n (i + 1) := by
  rcases Nat.lt_or_ge i n with h1 | h1
  · rw [Nat.mod_eq_of_lt h1]
    exact h.low h1
  · rw [Nat.mod_eq_sub_mod h1, Nat.mod_eq_of_lt (by omega)]
    exact h.high h1 hi
theorem Rnd.lt {F : Nat → Nat} {l zs : List Nat} {n i t : Nat} (h : Rnd F l zs n i) (ht : t < n) : zs.getD t 0 < PP := by
  rw [h.2 t ht]
  exact Nat.mod_lt _ PP_pos
set_option maxHeartbeats 8000000 in
set_option maxRecDepth 100000 in
theorem rround04_c (A A' : Option Addr) (c c' : Nat) (xs ys : List Nat) (w : World) (h : Rd w A c xs) (h' : Rd w A' c' ys) (n : Nat) (hl : xs.length = n) (hl' : ys.length = n) (hn0 : 0 < n) (hn : n ≤ 32768) (hal : Al xs) (hal' : Al ys) :
    Calls Try.prog 23 #[.slice A n c, .slice A' n c'] w (Res w (cycL xs ys)) := by
  have hlg := rlong04_c A A' c c' xs ys w h h' (by omega) (by omega) hal hal'
  have hlen := lgL_len (a := xs) (b := ys) (by omega) (by omega)
  have hll := lgL_al xs ys
  have hdn := fun zs => Rnd.round (a := xs) (b := ys) (zs := zs) hl hl' hn0
  rw [hl, hl'] at hlg hlen
  have hlen2 : (lgL xs ys).length = 2 * n - 1 := by omega
  generalize lgL xs ys = l at *
  have HLEN := Lib.hid hlen2
  clear hlen hlen2 h h' hl hl' hal hal'
  go_enter Try.func23, Try.ntmps23
  go_wp2_with fail
  refine hlg.mono ?_
  rintro z w0 ⟨v0, rfl, ho0, hE0⟩
  obtain ⟨A1, c1, rfl, hr0⟩ := ho0.rd
  obtain ⟨ad, rfl⟩ := hr0.addr (by rw [HLEN.out]; omega)
  have hgl : ∀ i, i < 2 * n - 1 → w0.cell? (ad.add i) = some (.int .u64 (l.getD i 0 : Nat)) := fun i hi => hr0.get i (by rw [HLEN.out]; exact hi)
  rw [HLEN.out]
  obtain ⟨L, hL⟩ : ∃ L, 2 * n - 1 = L := ⟨_, rfl⟩
  rw [hL] at hgl hdn ⊢
  have hLb : L ≤ 65535 := by omega
  have HL := Lib.hid hL
  clear hr0 ho0 hlg hL
  go_wp2_with (at_make; refine wp_make rfl _ _ _ rfl Try.underlying30 n _ rfl rfl rfl (by omega) ?_; intro g w1 hg1 hb1 he1)
  go_loopw [7] (fun v7 wr => ∃ (i : Nat) (zs : List Nat), i ≤ L ∧ v7 = .int .i64 (i : Int) ∧ Bk wr g zs ∧ Rnd (fun x => x) l zs n i ∧ Gb g w1 wr) (fun v _ => L - (intOf v).toNat)
  case atStart => exact ⟨0, _, Nat.zero_le _, rfl, hb1, Rnd.start _ l n, Gb.refl _ _⟩
  case round =>
    obtain ⟨i, zs, hi, rfl, hb3, hz3, hg3⟩ := hrel
    have hiL : L = 2 * n - 1 := HL.out.symm
    by_cases hlt : i < L
    · have hE3 := hg3.ext he1 hg1
      have hx := hE3.cell (hgl i hlt)
      have hee : i % n < n := Nat.mod_lt _ hn0
      have hzl := hz3.1
      have hc := hb3.cell (i % n) (by omega)
      have hf := hb3.frozen (i % n)
      have hst := hz3.go (by omega)
      have hzP := hz3.lt hee
      have hA : ∀ w, Calls Try.prog 47 #[.int .u64 ((zs.getD (i % n) 0 : Nat) : Int), .int .u64 ((l.getD i 0 : Nat) : Int)] w fun e w' => e = .returned (.int .u64 (((zs.getD (i % n) 0 + l.getD i 0) % PP : Nat) : Int)) ∧ Ext w w' := fun w => radd04_c _ _ w (Nat.lt_trans hzP PP_lt_B) (Nat.lt_trans (hll i) PP_lt_B)
      have hsB : (zs.getD (i % n) 0 + l.getD i 0) % PP < B := Nat.lt_trans (Nat.mod_lt _ PP_pos) PP_lt_B
      have hrem : (i : Int).tmod (n : Int) = ((i % n : Nat) : Int) := by rw [Int.tmod_eq_emod_of_nonneg (by omega), Int.natCast_emod]
      have hi0 : ((n : Int) == 0) = false := by rw [beq_eq_false_iff_ne]; omega
      have hee2 : ((i % n : Nat) : Int) < (n : Int) := by omega
      have HST := Lib.hid hst
      have HB3 := Lib.hid hb3
      clear hst hb3 hz3 hzl hgl hdn hiL
      have HQ : ∃ s x z, (zs.getD (i % n) 0 + l.getD i 0) % PP = s ∧ l.getD i 0 = x ∧ zs.getD (i % n) 0 = z := ⟨_, _, _, rfl, rfl, rfl⟩
      obtain ⟨s1, x1, z1, q1, q2, q3⟩ := HQ
      rw [q1] at hA hsB HST
      rw [q2] at hA hx
      rw [q3] at hA hc hzP
      clear q1 q2 q3
      generalize i % n = ee at *
      go_wp2_with fail
      have qx := Later.cell hx
      have qz := Later.cell hc
      clear hx
      refine wp_region_later_tail 18 (by kernel_rfl) (by kernel_rfl) ?_
      simp only [List.take_succ_cons, List.take_zero, List.drop_succ_cons, List.drop_zero]
      repeat (go_big_quiet_step (first
        | (go_at_call 47; (with_reducible refine Calls.later (hA _)))))
      refine wpQuiet_nil ?_
      intro wq hw'
      obtain ⟨⟨w5, hE5'⟩, hw5⟩ := hw'
      replace hw5 : wq = w5 := hw5
      rw [hw5]
      clear hw5 wq
      have c5 := hE5'.cell hc
      have f5 := (HB3.out.ext hE5').frozen ee
      have hb5 := (HB3.out.ext hE5').set ee s1 hsB
      have hg5 := (hg3.tr (Gb.of_ext hE5' g)).set ee (.int .u64 (s1 : Int))
      have HB5 := Lib.hid hb5
      have HG5 := Lib.hid hg5
      clear hb5 hg5
      go_wp2_with fail
      go_roundw
      case rel => exact ⟨i + 1, _, hlt, by go_num, HB5.out, HST.out, HG5.out⟩
      case measure => simp [intOf]; omega
    · obtain rfl : i = L := by omega
      have hd := hdn zs hz3
      have ho := hb3.own hg1 (by rw [hz3.1]; omega)
      rw [hz3.1, hd] at ho
      have HO := Lib.hid ho
      clear hd hz3 ho hdn hiL
      go_wp2_with fail
      go_ret
      have hE3 := hg3.ext he1 hg1
      exact ⟨_, rfl, HO.out.low hE0.size, hE0.tr hE3⟩
set_option maxHeartbeats 8000000 in
set_option maxRecDepth 100000 in
theorem rturned04_c (A A' : Option Addr) (c c' : Nat) (xs ys : List Nat) (w : World) (h : Rd w A c xs) (h' : Rd w A' c' ys) (n : Nat) (hl : xs.length = n) (hl' : ys.length = n) (hn0 : 0 < n) (hn : n ≤ 32768) (hal : Al xs) (hal' : Al ys) :
    Calls Try.prog 24 #[.slice A n c, .slice A' n c'] w (Res w (trL xs ys)) := by
  have hlg := rlong04_c A A' c c' xs ys w h h' (by omega) (by omega) hal hal'
  have hlen := lgL_len (a := xs) (b := ys) (by omega) (by omega)
  have hll := lgL_al xs ys
  have hdn := fun zs => Rnd.turned (a := xs) (b := ys) (zs := zs) hl hl' hn0
  rw [hl, hl'] at hlg hlen
  have hlen2 : (lgL xs ys).length = 2 * n - 1 := by omega
  generalize lgL xs ys = l at *
  have HLEN := Lib.hid hlen2
  clear hlen hlen2 h h' hl hl' hal hal'
  go_enter Try.func24, Try.ntmps24
  go_wp2_with fail
  refine hlg.mono ?_
  rintro z w0 ⟨v0, rfl, ho0, hE0⟩
  obtain ⟨A1, c1, rfl, hr0⟩ := ho0.rd
  obtain ⟨ad, rfl⟩ := hr0.addr (by rw [HLEN.out]; omega)
  have hgl : ∀ i, i < 2 * n - 1 → w0.cell? (ad.add i) = some (.int .u64 (l.getD i 0 : Nat)) := fun i hi => hr0.get i (by rw [HLEN.out]; exact hi)
  rw [HLEN.out]
  obtain ⟨L, hL⟩ : ∃ L, 2 * n - 1 = L := ⟨_, rfl⟩
  rw [hL] at hgl hdn ⊢
  have hLb : L ≤ 65535 := by omega
  have HL := Lib.hid hL
  clear hr0 ho0 hlg hL
  go_wp2_with (at_make; refine wp_make rfl _ _ _ rfl Try.underlying30 n _ rfl rfl rfl (by omega) ?_; intro g w1 hg1 hb1 he1)
  go_loopw [7] (fun v7 wr => ∃ (i : Nat) (zs : List Nat), i ≤ L ∧ v7 = .int .i64 (i : Int) ∧ Bk wr g zs ∧ Rnd (fun x => PP - x) l zs n i ∧ Gb g w1 wr) (fun v _ => L - (intOf v).toNat)
  case atStart => exact ⟨0, _, Nat.zero_le _, rfl, hb1, Rnd.start _ l n, Gb.refl _ _⟩
  case round =>
    obtain ⟨i, zs, hi, rfl, hb3, hz3, hg3⟩ := hrel
    have hiL : L = 2 * n - 1 := HL.out.symm
    by_cases hlt : i < L
    · have hE3 := hg3.ext he1 hg1
      have hx := hE3.cell (hgl i hlt)
      have hzl := hz3.1
      by_cases hin : i < n
      · have hc := hb3.cell i (by omega)
        have hf := hb3.frozen i
        have hst := hz3.low hin
        have hzP := hz3.lt hin
        have hA : ∀ w, Calls Try.prog 47 #[.int .u64 ((zs.getD i 0 : Nat) : Int), .int .u64 ((l.getD i 0 : Nat) : Int)] w fun e w' => e = .returned (.int .u64 (((zs.getD i 0 + l.getD i 0) % PP : Nat) : Int)) ∧ Ext w w' := fun w => radd04_c _ _ w (Nat.lt_trans hzP PP_lt_B) (Nat.lt_trans (hll i) PP_lt_B)
        have hsB : (zs.getD i 0 + l.getD i 0) % PP < B := Nat.lt_trans (Nat.mod_lt _ PP_pos) PP_lt_B
        have d1 : decide (i < n) = true := decide_eq_true hin
        have HST := Lib.hid hst
        have HB3 := Lib.hid hb3
        clear hst hb3 hz3 hzl hgl hdn hiL
        have HQ : ∃ s x z, (zs.getD i 0 + l.getD i 0) % PP = s ∧ l.getD i 0 = x ∧ zs.getD i 0 = z := ⟨_, _, _, rfl, rfl, rfl⟩
        obtain ⟨s1, x1, z1, q1, q2, q3⟩ := HQ
        rw [q1] at hA hsB HST
        rw [q2] at hA hx
        rw [q3] at hA hc hzP
        clear q1 q2 q3
        go_wp2_with fail
        have qx := Later.cell hx
        have qz := Later.cell hc
        clear hx
        refine wp_region_later_tail 12 (by kernel_rfl) (by kernel_rfl) ?_
        simp only [List.take_succ_cons, List.take_zero, List.drop_succ_cons, List.drop_zero]
        repeat (go_big_quiet_step (first
          | (go_at_call 47; (with_reducible refine Calls.later (hA _)))))
        refine wpQuiet_nil ?_
        intro wq hw'
        obtain ⟨⟨w5, hE5'⟩, hw5⟩ := hw'
        replace hw5 : wq = w5 := hw5
        rw [hw5]
        clear hw5 wq
        have c5 := hE5'.cell hc
        have f5 := (HB3.out.ext hE5').frozen i
        have hb5 := (HB3.out.ext hE5').set i s1 hsB
        have hg5 := (hg3.tr (Gb.of_ext hE5' g)).set i (.int .u64 (s1 : Int))
        have HB5 := Lib.hid hb5
        have HG5 := Lib.hid hg5
        clear hb5 hg5
        go_wp2_with fail
        go_roundw
        case rel => exact ⟨i + 1, _, hlt, by go_num, HB5.out, HST.out, HG5.out⟩
        case measure => simp [intOf]; omega
      · have hen : i - n < n := by omega
        have hc := hb3.cell (i - n) (by omega)
        have hf := hb3.frozen (i - n)
        have hst := hz3.high (by omega) (by omega)
        have hzP := hz3.lt hen
        have e1 : zs.getD (i - n) 0 + (PP - l.getD i 0) = zs.getD (i - n) 0 + PP - l.getD i 0 := by have := hll i; omega
        rw [e1] at hst
        have hA : ∀ w, Calls Try.prog 48 #[.int .u64 ((zs.getD (i - n) 0 : Nat) : Int), .int .u64 ((l.getD i 0 : Nat) : Int)] w fun e w' => e = .returned (.int .u64 (((zs.getD (i - n) 0 + PP - l.getD i 0) % PP : Nat) : Int)) ∧ Ext w w' := fun w => rsub04_c _ _ w (Nat.lt_trans hzP PP_lt_B) (hll i)
        have hsB : (zs.getD (i - n) 0 + PP - l.getD i 0) % PP < B := Nat.lt_trans (Nat.mod_lt _ PP_pos) PP_lt_B
        have d1 : decide (i < n) = false := decide_eq_false hin
        have hsub : (i : Int) - (n : Int) = ((i - n : Nat) : Int) := by omega
        have hen2 : ((i - n : Nat) : Int) < (n : Int) := by omega
        have HST := Lib.hid hst
        have HB3 := Lib.hid hb3
        clear hst hb3 hz3 hzl hgl hdn hiL e1
        have HQ : ∃ s x z, (zs.getD (i - n) 0 + PP - l.getD i 0) % PP = s ∧ l.getD i 0 = x ∧ zs.getD (i - n) 0 = z := ⟨_, _, _, rfl, rfl, rfl⟩
        obtain ⟨s1, x1, z1, q1, q2, q3⟩ := HQ
        rw [q1] at hA hsB HST
        rw [q2] at hA hx
        rw [q3] at hA hc hzP
        clear q1 q2 q3
        generalize i - n = ee at *
        go_wp2_with fail
        have qx := Later.cell hx
        have qz := Later.cell hc
        clear hx
        refine wp_region_later_tail 18 (by kernel_rfl) (by kernel_rfl) ?_
        simp only [List.take_succ_cons, List.take_zero, List.drop_succ_cons, List.drop_zero]
        repeat (go_big_quiet_step (first
          | (go_at_call 48; (with_reducible refine Calls.later (hA _)))))
        refine wpQuiet_nil ?_
        intro wq hw'
        obtain ⟨⟨w5, hE5'⟩, hw5⟩ := hw'
        replace hw5 : wq = w5 := hw5
        rw [hw5]
        clear hw5 wq
        have c5 := hE5'.cell hc
        have f5 := (HB3.out.ext hE5').frozen ee
        have hb5 := (HB3.out.ext hE5').set ee s1 hsB
        have hg5 := (hg3.tr (Gb.of_ext hE5' g)).set ee (.int .u64 (s1 : Int))
        have HB5 := Lib.hid hb5
        have HG5 := Lib.hid hg5
        clear hb5 hg5
        go_wp2_with fail
        go_roundw
        case rel => exact ⟨i + 1, _, hlt, by go_num, HB5.out, HST.out, HG5.out⟩
        case measure => simp [intOf]; omega
    · obtain rfl : i = L := by omega
      have hd := hdn zs hz3
      have ho := hb3.own hg1 (by rw [hz3.1]; omega)
      rw [hz3.1, hd] at ho
      have HO := Lib.hid ho
      clear hd hz3 ho hdn hiL
      go_wp2_with fail
      go_ret
      have hE3 := hg3.ext he1 hg1
      exact ⟨_, rfl, HO.out.low hE0.size, hE0.tr hE3⟩
end Go.Proofs.Ythbnkhgcfcigjaa
