/- package format: Value, where it hands back a finite number. -/
import Derived.Test.YtgkojhhodncpbaaDoorT3
set_option linter.unusedVariables false
set_option linter.unusedSimpArgs false
namespace Go.Proofs.YtgkojhhodncpbaaDoor
open Go.RowKit
attribute [local go_sem ↓] Go.wp_at_zero Go.wp_at_succ

set_option maxHeartbeats 2000000 in
set_option maxRecDepth 100000 in
theorem value_fin (a : FA) (f : Fl) (w : World) (hT : Tab w) (h : Rd w a.A a.c a.xs) (hl : a.xs.length ≤ 10000000) (h0 : capE a = 0) (h1 : capF a = f) (hk : f.kind = 1) (hbd : -1048576 ≤ f.exp ∧ f.exp ≤ 1048576 ∧ bl f.mag ≤ 1000000 ∧ (cn f.mag).length ≤ 1000000) (hb1 : decide ((262144 : Int) < (f.exp.toNat : Int) + bl f.mag) = false) (hb2 : decide ((262144 : Int) < -f.exp + 1) = false) :
    Calls Tryd.prog 27 #[a.v] w (RatR w 0 f.neg (f.mag * 2 ^ f.exp.toNat) (2 ^ (-f.exp).toNat)) := by
  obtain ⟨hX, hQ, hE⟩ := boxesV w a h _ rfl
  have hcn := fun w hT h => ccanon_c a.k a.e a.neg a.A a.c a.xs w hT h hl
  obtain ⟨k, neg, e, A, c, xs⟩ := a
  simp only at hcn hX hQ hE h
  rw [h0, h1] at hcn
  have HX := Lib.hid hX
  have HQ := Lib.hid hQ
  have HE := Lib.hid hE
  clear hX hQ hE h0 h1
  obtain ⟨fk, fn, fe, fm⟩ := f
  simp only at hk hcn hbd hb1 hb2
  subst hk
  have hlen := fun A1 c1 w hr => len_c A1 c1 (cn fm) w hr (by omega)
  rw [val_cn] at hlen
  have hm1 : max fe 0 = ((fe.toNat : Nat) : Int) := by omega
  have hm2 : max (-fe) 0 = (((-fe).toNat : Nat) : Int) := by omega
  have hw1 : IntKind.i64.wrap (-fe) = -fe := by rw [IntKind.wrap_i64]; omega
  have hw2 : IntKind.i64.wrap (-fe + 1) = -fe + 1 := by rw [IntKind.wrap_i64]; omega
  have hw3 : IntKind.i64.wrap (((fe.toNat : Nat) : Int) + bl fm) = ((fe.toNat : Nat) : Int) + bl fm := by rw [IntKind.wrap_i64]; omega
  have hshA := fun A0 c0 w h => shl_i A0 c0 (cn fm) (fe.toNat : Int) w h (by omega) (by omega) (by omega)
  have hone : ∀ A0 w, Rd w A0 1 [1] → Calls Tryd.prog 53 #[.slice A0 1 1, .int .i64 ((-fe).toNat : Int)] w (Res w (cn (2 ^ (-fe).toNat))) := fun A0 w h => by
    have h1 := shl_i A0 1 [1] ((-fe).toNat : Int) w h (by omega) (by omega) (by simp)
    rwa [val_one, Nat.one_mul, Int.toNat_natCast] at h1
  simp only [val_cn, Int.toNat_natCast] at hshA
  generalize fm * 2 ^ fe.toNat = N at *
  generalize 2 ^ (-fe).toNat = D at *
  generalize fe.toNat = s1 at *
  generalize (-fe).toNat = s2 at *
  generalize bl fm = ℓ at *
  go_enter Tryd.func27, Tryd.ntmps27
  go_wp2_with fail
  have hX := HX.out
  have hQ := HQ.out
  have hE := HE.out
  clear HX HQ HE
  generalize ((w.alloc (.cells #[.int .i64 k, .bool neg, .int .i64 e, .slice A xs.length c] 36)).alloc (.cells #[.bool false, .slice none 0 0, .slice none 0 0] 52)) = W at *
  have hszW := hX.lt
  refine (hcn _ (hT.ext hE) (h.ext hE)).mono ?_
  rintro z w1 ⟨u, rfl, ⟨v, rfl, ho1⟩, hb1⟩
  obtain ⟨A1, c1, rfl, -⟩ := ho1.rd
  have hX1 := hX.ext hb1
  have hQ1 := hQ.ext hb1
  obtain ⟨x0, x1, x2, x3, xf⟩ := hX1.facts
  have hlx := hX1.lt
  have hlq := hQ1.lt
  have hX2 := hX1.put (.int .i64 1) (.bool fn) (.int .i64 fe) (.slice A1 (cn fm).length c1)
  have hQ2 := hQ1.apart (g' := w.heap.size) (by omega) (.int .i64 1) (.bool fn) (.int .i64 fe) (.slice A1 (cn fm).length c1)
  have hE2 := (hE.tr hb1).put (g := w.heap.size) (by omega) (.int .i64 1) (.bool fn) (.int .i64 fe) (.slice A1 (cn fm).length c1)
  have ho2 := ho1.putBelow (g := w.heap.size) hszW (.int .i64 1) (.bool fn) (.int .i64 fe) (.slice A1 (cn fm).length c1)
  obtain ⟨A1', c1', hAc, hr2⟩ := ho2.rd
  injection hAc with e1 e2 e3
  subst e1 e3
  clear e2
  obtain ⟨y0, y1, y2, y3, yf⟩ := hX2.facts
  go_wp2_with fail
  generalize ((((w1.setCell ⟨w.heap.size, 0, none⟩ (.int .i64 1)).setCell ⟨w.heap.size, 1, none⟩ (.bool fn)).setCell ⟨w.heap.size, 2, none⟩ (.int .i64 fe)).setCell ⟨w.heap.size, 3, none⟩ (.slice A1 (cn fm).length c1)) = W2 at *
  clear x0 x1 x2 x3 xf
  have p2 := Later.cell y2
  have p3 := Later.cell y3
  refine wp_region_later (by kernel_rfl) (by kernel_rfl) ?_
  repeat (go_big_quiet_step (first
    | (go_at_call 59; refine Calls.later ((hlen A1 c1 _ (hr2.ext (Later.h _))).mono fun z w' hz => ⟨hz.1, hz.2.elim fun n hn => by rw [hn]; exact (Ext.refl _).drewN n⟩))))
  refine wpQuiet_nil ?_
  intro wq hw'
  obtain ⟨⟨_, hq⟩, rfl⟩ := hw'
  clear p2 p3 y0 y1 y2 y3 yf
  have hX3 := hX2.ext hq
  have hQ3 := hQ2.ext hq
  have hE3 := hE2.tr hq
  have hr3 := hr2.ext hq
  obtain ⟨y0, y1, y2, y3, yf⟩ := hX3.facts
  obtain ⟨q0, q1, q2, qf⟩ := hQ3.facts
  have hA0 := (Ext.refl wq).al (.cells #[.int .u64 1] 70)
  have hN0 : Rd (wq.alloc (.cells #[.int .u64 1] 70)) (some ⟨wq.heap.size, 0, none⟩) 1 [1] := Rd.new1 wq 1 (by rw [B_eq]; omega)
  have hlx3 := hX3.lt
  have hlq3 := hQ3.lt
  go_wp2_with fail
  go_region_held3 (fun w' => w'.cell? ⟨w.heap.size, 1, none⟩ = some (.bool fn) ∧ w'.cell? ⟨w.heap.size, 2, none⟩ = some (.int .i64 fe) ∧ w'.cell? ⟨w.heap.size, 3, none⟩ = some (.slice A1 (cn fm).length c1))
    (first | go_keep | (go_split_ands; refine ⟨?_, ?_, ?_⟩ <;> (refine Ext.cell (w := wq) ?_ ?_ <;> assumption)))
    (first
      | (go_at_call 53; (with_reducible refine (hshA A1 c1 _ ?hr).mono ?_); (case hr => first | exact hr3.drew | exact (hr3.ext hA0).drew); rintro z w5 ⟨v, rfl, ho5, hb5⟩; obtain ⟨A5, c5, rfl, hr5⟩ := ho5.rd; (have hE5 : Ext wq w5 := (by first | exact (Ext.refl wq).drew.tr hb5 | exact hA0.drew.tr hb5)); (try have hN5 := hN0.drew.ext hb5); (have ho5 := ho5.low (b := wq.heap.size) (by simp)))
      | (go_at_call 53; (with_reducible refine (hone _ _ ?hr).mono ?_); (case hr => first | assumption | exact Rd.new1 w5 1 (by rw [B_eq]; omega)); rintro z w7 ⟨v, rfl, ho7, hb7⟩; obtain ⟨A7, c7, rfl, hr7⟩ := ho7.rd; (have hb7 : Ext w5 w7 := (by first | exact hb7 | exact ((Ext.refl w5).al _).tr hb7)); (have ho7 := ho7.low (b := w5.heap.size) (by simp)); have hE7 : Ext wq w7 := hE5.tr hb7; obtain ⟨z0, z1, z2, zf⟩ := (hQ3.ext hE7).facts; obtain ⟨k0, k1, k2, k3, kf⟩ := (hX3.ext hE7).facts))
  all_goals
    have hs1 := hE3.size
    have hlq5 := (hQ3.ext hE5).lt
    have hQ8 := (hQ3.ext hE7).put (.bool fn) (.slice A5 (cn N).length c5) (.slice A7 (cn D).length c7)
    have hE8 := (hE3.tr hE7).putq (g := w.heap.size + 1) (by omega) (.bool fn) (.slice A5 (cn N).length c5) (.slice A7 (cn D).length c7)
    have h5 := ((((ho5.ext hb7).setBelow (a := ⟨w.heap.size + 1, 0, none⟩) hlq3 (.bool fn)).setBelow (a := ⟨w.heap.size + 1, 1, none⟩) hlq3 (.slice A5 (cn N).length c5)).setBelow (a := ⟨w.heap.size + 1, 2, none⟩) hlq3 (.slice A7 (cn D).length c7)).low (b := w.heap.size) (by omega)
    have h7 := (((ho7.setBelow (a := ⟨w.heap.size + 1, 0, none⟩) hlq5 (.bool fn)).setBelow (a := ⟨w.heap.size + 1, 1, none⟩) hlq5 (.slice A5 (cn N).length c5)).setBelow (a := ⟨w.heap.size + 1, 2, none⟩) hlq5 (.slice A7 (cn D).length c7)).low (b := w.heap.size) (by omega)
    obtain ⟨r0, r1, r2, rf⟩ := hQ8.facts
    go_wp2
    refine bodyPost_ret (v := .tuple #[ratV fn (.slice A5 (cn N).length c5) (.slice A7 (cn D).length c7), .int .i64 0]) (by simp [results, Tryd.results27, go_sem, r0, r1, r2]) rfl ?_
    exact ⟨_, _, rfl, h5, h7, hE8⟩
end Go.Proofs.YtgkojhhodncpbaaDoor
