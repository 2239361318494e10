/- Chapter 21, numbers with too many words: fin.Args, order.Exponent, At, Scale, Sort; the law's Fits. -/
import Derived.Test.YtlnfmngginihfaaGreatDoorOG
set_option linter.unusedVariables false
set_option linter.unusedSimpArgs false
namespace Go.Proofs.YtlnfmngginihfaaGreatDoor
open Go.RowKit

/-- The loop of Args. -/
def AgL (w : World) (l : List FA) (v : Value) (wr : World) : Prop := ∃ i : Nat, i ≤ l.length ∧ v = .int .i64 i ∧ (∀ j (hj : j < l.length), j < i → ¬ 4096 < l[j].xs.length) ∧ Ext w wr
set_option maxHeartbeats 4000000 in
set_option maxRecDepth 100000 in
theorem args_size (k p r : Int) (out : Bool) (A : Option Addr) (c : Nat) (l : List FA) (hb : l.any (fun a => decide (4096 < a.xs.length)) = true) (w : World) (h : FRd w A c l) :
    Calls Tryz.prog 15 #[.agg #[.int .i64 k, .int .i64 p], .int .i64 r, .bool out, .slice A l.length c] w fun e w' => e = .returned (.tuple #[.slice none 0 0, .int .i64 2]) ∧ Ext w w' := by
  have hll := h.len
  have hE := (Ext.refl w).al (Obj.cells #[Value.int IntKind.i64 k, Value.int IntKind.i64 p] 23)
  have HE := Lib.hid hE
  clear hE
  have HB := Lib.hid hb
  clear hb
  go_enter Tryz.func15, Tryz.ntmps15
  go_wp2
  go_loopw [14] (fun v16 wr => AgL w l v16 wr) (fun v _ => l.length - (intOf v).toNat)
  case atStart => exact ⟨0, Nat.zero_le _, rfl, fun j _ hj => absurd hj (by omega), HE.out⟩
  case round =>
    clear HE
    obtain ⟨i, hi, rfl, hsm, hE⟩ := hrel
    have HSM := Lib.hid hsm
    clear hsm
    by_cases hlt : i < l.length
    · obtain ⟨ad, rfl, h0, h1, h2, h3, hr⟩ := h.cell i hlt
      replace h0 := hE.cell h0
      replace h1 := hE.cell h1
      replace h2 := hE.cell h2
      replace h3 := hE.cell h3
      have hidx : ((i : Int) * 4).toNat = i * 4 := by omega
      by_cases hbig : 4096 < l[i].xs.length
      · have hd : decide ((4096 : Int) < (l[i].xs.length : Int)) = true := decide_eq_true (by omega)
        clear hbig
        go_wp2
        go_ret2
        exact ⟨rfl, hE.al _⟩
      · have hsm : ∀ j (hj : j < l.length), j < i + 1 → ¬ 4096 < l[j].xs.length := fun j hj hji => by
          rcases Nat.lt_or_ge j i with h4 | h4
          · exact HSM.out j hj h4
          · have e : j = i := by omega
            subst e; exact hbig
        have HSM2 := Lib.hid hsm
        have hd : decide ((4096 : Int) < (l[i].xs.length : Int)) = false := decide_eq_false (by omega)
        clear hsm hbig
        go_wp2
        go_roundw
        case rel => exact ⟨i + 1, hlt, by go_num, HSM2.out, hE.al _⟩
        case measure => simp [intOf]; omega
    · obtain rfl : i = l.length := by omega
      have hany := any_of_small (l := l) (fun j hj => HSM.out j hj hj)
      rw [HB.out] at hany
      cases hany
theorem boxesI3 (w : World) (k p : Int) (a b : Value) : ∀ W, W = (((w.alloc (.cells #[.int .i64 k, .int .i64 p] 23)).alloc (.cells #[a, b] 49)).alloc (.cells #[.int .i64 0, .bool false, .int .i64 0, .slice none 0 0] 40)) →
    Bx W (w.heap.size + 1 + 1) (.int .i64 0) (.bool false) (.int .i64 0) (.slice none 0 0) ∧ Ext w W := by
  rintro W rfl
  have x3 := Bx.new ((w.alloc (.cells #[.int .i64 k, .int .i64 p] 23)).alloc (.cells #[a, b] 49)) (.int .i64 0) (.bool false) (.int .i64 0) (.slice none 0 0)
  rw [World.size_alloc, World.size_alloc] at x3
  exact ⟨x3, (((Ext.refl w).al _).al _).al _⟩
set_option maxHeartbeats 4000000 in
set_option maxRecDepth 100000 in
theorem Sort_size (k p : Int) (A : Option Addr) (c : Nat) (l : List FA) (hb : l.any (fun a => decide (4096 < a.xs.length)) = true) (hl : l.length ≤ 1000) (w : World) (h : FRd w A c l) :
    Calls Tryz.prog 6 #[.agg #[.int .i64 k, .int .i64 p], .slice A l.length c] w fun e w' => e = .returned (.tuple #[.slice none 0 0, .int .i64 2]) ∧ Ext w w' := by
  have hE := (Ext.refl w).al (.cells #[.int .i64 k, .int .i64 p] 23)
  have hfl' := fun w h => args_size k p 0 false A c l hb w h
  have hd : decide ((1000 : Int) < (l.length : Int)) = false := decide_eq_false (by omega)
  clear hl hb
  have HE := Lib.hid hE
  clear hE
  generalize l.length = n at *
  go_enter Tryz.func6, Tryz.ntmps6
  go_wp2_with fail
  refine (hfl' _ (h.ext HE.out)).mono ?_
  rintro e w2 ⟨rfl, hb2⟩
  go_wp2
  go_ret2
  exact ⟨rfl, HE.out.tr hb2⟩
end Go.Proofs.YtlnfmngginihfaaGreatDoor
