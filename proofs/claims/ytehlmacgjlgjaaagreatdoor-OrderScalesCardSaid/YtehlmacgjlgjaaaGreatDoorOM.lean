/- Chapter 21, numbers with too many words: fin.Args, order.Exponent, At, Scale, Sort; the law's Fits. -/
import Derived.Test.YtehlmacgjlgjaaaGreatDoorOG
set_option linter.unusedVariables false
set_option linter.unusedSimpArgs false
namespace Go.Proofs.YtehlmacgjlgjaaaGreatDoor
open Go.RowKit

/-- The loop of Args. -/
def AgL (w : World) (l : List FA) (v : Value) (wr : World) : Prop := ∃ i : Nat, i ≤ l.length ∧ v = .int .i64 i ∧ (∀ j (hj : j < l.length), j < i → ¬ 4096 < l[j].xs.length) ∧ Ext w wr
set_option maxHeartbeats 4000000 in
set_option maxRecDepth 100000 in
theorem args_size (k p r : Int) (out : Bool) (A : Option Addr) (c : Nat) (l : List FA) (hb : l.any (fun a => decide (4096 < a.xs.length)) = true) (w : World) (h : FRd w A c l) :
    Calls Tryz.prog 25 #[.agg #[.int .i64 k, .int .i64 p], .int .i64 r, .bool out, .slice A l.length c] w fun e w' => e = .returned (.tuple #[.slice none 0 0, .int .i64 2]) ∧ Ext w w' := by
  have hll := h.len
  have hE := (Ext.refl w).al (Obj.cells #[Value.int IntKind.i64 k, Value.int IntKind.i64 p] 23)
  have HE := Lib.hid hE
  clear hE
  have HB := Lib.hid hb
  clear hb
  go_enter Tryz.func25, Tryz.ntmps25
  go_wp2
  go_loopw [14] (fun v16 wr => AgL w l v16 wr) (fun v _ => l.length - (intOf v).toNat)
  case atStart => exact ⟨0, Nat.zero_le _, rfl, fun j _ hj => absurd hj (by omega), HE.out⟩
  case round =>
    clear HE
    obtain ⟨i, hi, rfl, hsm, hE⟩ := hrel
    have HSM := Lib.hid hsm
    clear hsm
    by_cases hlt : i < l.length
    · obtain ⟨ad, rfl, h0, h1, h2, h3, hr⟩ := h.cell i hlt
      replace h0 := hE.cell h0
      replace h1 := hE.cell h1
      replace h2 := hE.cell h2
      replace h3 := hE.cell h3
      have hidx : ((i : Int) * 4).toNat = i * 4 := by omega
      by_cases hbig : 4096 < l[i].xs.length
      · have hd : decide ((4096 : Int) < (l[i].xs.length : Int)) = true := decide_eq_true (by omega)
        clear hbig
        go_wp2
        go_ret2
        exact ⟨rfl, hE.al _⟩
      · have hsm : ∀ j (hj : j < l.length), j < i + 1 → ¬ 4096 < l[j].xs.length := fun j hj hji => by
          rcases Nat.lt_or_ge j i with h4 | h4
          · exact HSM.out j hj h4
          · have e : j = i := by omega
            subst e; exact hbig
        have HSM2 := Lib.hid hsm
        have hd : decide ((4096 : Int) < (l[i].xs.length : Int)) = false := decide_eq_false (by omega)
        clear hsm hbig
        go_wp2
        go_roundw
        case rel => exact ⟨i + 1, hlt, by go_num, HSM2.out, hE.al _⟩
        case measure => simp [intOf]; omega
    · obtain rfl : i = l.length := by omega
      have hany := any_of_small (l := l) (fun j hj => HSM.out j hj hj)
      rw [HB.out] at hany
      cases hany
set_option maxHeartbeats 4000000 in
set_option maxRecDepth 100000 in
theorem Exponent_bad (k p : Int) (a : FA) (ec : Int) (hfl : FlsS k p [a] = (ec, [])) (he : ec ≠ 0) (w : World) (hT : Tab w) (ha : Rd w a.A a.c a.xs) :
    Calls Tryz.prog 9 #[.agg #[.int .i64 k, .int .i64 p], a.v] w fun e w' => e = .returned (.tuple #[.int .i64 0, .int .i64 ec]) ∧ Ext w w' := by
  obtain ⟨hE, -, -, hfl'⟩ := boxes3 w k p a hT ha _ rfl
  rw [hfl] at hfl'
  have hbe : (ec != 0) = true := by rw [bne_iff_ne]; exact he
  clear hfl he
  obtain ⟨ak, an, ae, aA, ac, axs⟩ := a
  simp only at ha hE hfl'
  have HE := Lib.hid hE
  clear hE
  go_enter Tryz.func9, Tryz.ntmps9
  go_wp2_with fail
  refine hfl'.mono ?_
  rintro e w2 ⟨v, rfl, -, hb2⟩
  go_wp2
  go_ret2
  exact ⟨rfl, HE.out.tr hb2⟩
theorem boxesI3 (w : World) (k p : Int) (a b : Value) : ∀ W, W = (((w.alloc (.cells #[.int .i64 k, .int .i64 p] 23)).alloc (.cells #[a, b] 64)).alloc (.cells #[.int .i64 0, .bool false, .int .i64 0, .slice none 0 0] 29)) →
    Bx W (w.heap.size + 1 + 1) (.int .i64 0) (.bool false) (.int .i64 0) (.slice none 0 0) ∧ Ext w W := by
  rintro W rfl
  have x3 := Bx.new ((w.alloc (.cells #[.int .i64 k, .int .i64 p] 23)).alloc (.cells #[a, b] 64)) (.int .i64 0) (.bool false) (.int .i64 0) (.slice none 0 0)
  rw [World.size_alloc, World.size_alloc] at x3
  exact ⟨x3, (((Ext.refl w).al _).al _).al _⟩
set_option maxHeartbeats 4000000 in
set_option maxRecDepth 100000 in
theorem Scale_size (k p r : Int) (a : FA) (hbig : 4096 < a.xs.length) (w : World) (ha : Rd w a.A a.c a.xs) :
    Calls Tryz.prog 8 #[.agg #[.int .i64 k, .int .i64 p], .int .i64 r, a.v, .int .i64 (-9223372036854775808)] w fun e w' => e = .returned (.tuple #[flV 0 false 0 (.slice none 0 0), .int .i64 0, .int .i64 2]) ∧ Ext w w' := by
  obtain ⟨hF, hX, hR, hE⟩ := boxesN w k p (.int .i64 a.k) (.bool a.neg) (.int .i64 a.e) (.slice a.A a.xs.length a.c) _ rfl
  have hfl' := fun A c w h => args_size k p r true A c [a] (any_of_large 0 (by simp) hbig) w h
  clear hbig
  obtain ⟨ak, an, ae, aA, ac, axs⟩ := a
  simp only at ha hF hX hR hE
  have HR := Lib.hid hR
  have HE := Lib.hid hE
  clear hF hX hR hE
  go_enter Tryz.func8, Tryz.ntmps8
  go_wp2_with fail
  have hR := HR.out
  have hE := HE.out
  have hsW : (((w.alloc (.cells #[.int .i64 k, .int .i64 p] 23)).alloc (.cells #[.int .i64 ak, .bool an, .int .i64 ae, .slice aA axs.length ac] 29)).alloc (.cells #[.int .i64 0, .bool false, .int .i64 0, .slice none 0 0] 29)).heap.size = w.heap.size + 1 + 1 + 1 := by simp only [World.size_alloc]
  clear HR HE
  generalize (((w.alloc (.cells #[.int .i64 k, .int .i64 p] 23)).alloc (.cells #[.int .i64 ak, .bool an, .int .i64 ae, .slice aA axs.length ac] 29)).alloc (.cells #[.int .i64 0, .bool false, .int .i64 0, .slice none 0 0] 29)) = W at *
  have hA := (Ext.refl W).al (.cells #[.int .i64 ak, .bool an, .int .i64 ae, .slice aA axs.length ac] 29)
  have hL := FRd.one (a := ⟨ak, an, ae, aA, ac, axs⟩) (Bx.new W (.int .i64 ak) (.bool an) (.int .i64 ae) (.slice aA axs.length ac)) (ha.ext (hE.tr hA))
  rw [hsW] at hL
  clear hsW
  refine (hfl' _ _ _ hL).mono ?_
  rintro e w2 ⟨rfl, hb2⟩
  have hR2 := (hR.ext hA).ext hb2
  have hE2 := (hE.tr hA).tr hb2
  obtain ⟨r0, r1, r2, r3, rf⟩ := hR2.facts
  go_wp2
  have hR3 := hR2.put (.int .i64 0) (.bool false) (.int .i64 0) (.slice none 0 0)
  have hE3 := hE2.put (g := w.heap.size + 1 + 1) (by omega) (.int .i64 0) (.bool false) (.int .i64 0) (.slice none 0 0)
  obtain ⟨s0, s1, s2, s3, -⟩ := hR3.facts
  refine bodyPost_ret (v := .tuple #[flV 0 false 0 (.slice none 0 0), .int .i64 0, .int .i64 2]) (by simp [results, Tryz.results8, go_sem, s0, s1, s2, s3]) rfl ?_
  exact ⟨rfl, hE3⟩
set_option maxHeartbeats 4000000 in
set_option maxRecDepth 100000 in
theorem Sort_size (k p : Int) (A : Option Addr) (c : Nat) (l : List FA) (hb : l.any (fun a => decide (4096 < a.xs.length)) = true) (hl : l.length ≤ 1000) (w : World) (h : FRd w A c l) :
    Calls Tryz.prog 18 #[.agg #[.int .i64 k, .int .i64 p], .slice A l.length c] w fun e w' => e = .returned (.tuple #[.slice none 0 0, .int .i64 2]) ∧ Ext w w' := by
  have hE := (Ext.refl w).al (.cells #[.int .i64 k, .int .i64 p] 23)
  have hfl' := fun w h => args_size k p 0 false A c l hb w h
  have hd : decide ((1000 : Int) < (l.length : Int)) = false := decide_eq_false (by omega)
  clear hl hb
  have HE := Lib.hid hE
  clear hE
  generalize l.length = n at *
  go_enter Tryz.func18, Tryz.ntmps18
  go_wp2_with fail
  refine (hfl' _ (h.ext HE.out)).mono ?_
  rintro e w2 ⟨rfl, hb2⟩
  go_wp2
  go_ret2
  exact ⟨rfl, HE.out.tr hb2⟩
set_option maxHeartbeats 4000000 in
set_option maxRecDepth 100000 in
theorem fits_none (A : Option Addr) (c : Nat) (w : World) :
    Calls Tryz.prog 14 #[flV 0 false 0 (.slice A 0 c), .int .i64 0, .int .i64 2, flV 0 false 0 (.slice none 0 0), .int .i64 0, .int .i64 2] w fun e w' => e = .returned (.bool true) ∧ Ext w w' := by
  have hE := ((Ext.refl w).al (.cells #[.int .i64 0, .bool false, .int .i64 0, .slice A 0 c] 29)).al (.cells #[.int .i64 0, .bool false, .int .i64 0, .slice none 0 0] 41)
  have hnn := fun w => none_c 0 0 false A 0 c w
  simp only [show decide ((0 : Int) = 0 ∧ false = false ∧ (0 : Int) = 0 ∧ (0 : Nat) = 0) = true by decide] at hnn
  have HE := Lib.hid hE
  clear hE
  go_enter Tryz.func14, Tryz.ntmps14
  go_wp2_with fail
  refine (hnn _).mono ?_
  rintro e w2 ⟨rfl, hb2⟩
  go_wp2
  go_ret
  exact ⟨rfl, HE.out.tr hb2⟩
end Go.Proofs.YtehlmacgjlgjaaaGreatDoor
