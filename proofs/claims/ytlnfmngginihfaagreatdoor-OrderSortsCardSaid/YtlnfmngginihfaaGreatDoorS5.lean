/- the references' Low. the reference's Exponent, Class, bits. -/
import Derived.Test.YtlnfmngginihfaaGreatDoorR7
import Derived.Test.YtlnfmngginihfaaGreatDoorS4
import Derived.Test.YtlnfmngginihfaaGreatDoorTB
set_option linter.unusedVariables false
set_option linter.unusedSimpArgs false
namespace Go.Proofs.YtlnfmngginihfaaGreatDoor
open Go.RowKit

theorem low_step {V i x q : Nat} (hV : V < B ^ i) : (V + B ^ i * x) % (B ^ i * q) = V + B ^ i * (x % q) := by
  rw [Nat.mod_mul, Nat.add_mul_mod_self_left, Nat.mod_eq_of_lt hV, Nat.add_mul_div_left _ _ (Nat.pow_pos B_pos), Nat.div_eq_of_lt hV, Nat.zero_add]
end Go.Proofs.YtlnfmngginihfaaGreatDoor
namespace Go.Proofs.YtlnfmngginihfaaGreatDoor
open Go.RowKit
attribute [local go_sem ↓] Go.wp_at_zero Go.wp_at_succ

set_option maxHeartbeats 1000000 in
set_option maxRecDepth 100000 in
theorem rexp_c (k e : Int) (neg : Bool) (A : Option Addr) (c : Nat) (xs : List Nat) (w : World) (h : Rd w A c xs) (hl : xs.length ≤ 4096) (he1 : -1048576 ≤ e) (he2 : e ≤ 1048576) :
    Calls Tryz.prog 103 #[flV k neg e (.slice A xs.length c)] w fun z w' => z = .returned (.int .i64 ((bl (val xs) : Int) - 1 + e)) ∧ Ext w w' := by
  have hX := Br.new w (.int .i64 k) (.bool neg) (.int .i64 e) (.slice A xs.length c)
  have hA := (Ext.refl w).al (.cells #[.int .i64 k, .bool neg, .int .i64 e, .slice A xs.length c] 42)
  have hlen := fun w h => rlen_c A c xs w h (by omega)
  have hbl := bl_val_le h.w64
  have hbl2 : bl (val xs) ≤ 262144 := by omega
  generalize bl (val xs) = l at *
  have w1 : IntKind.i64.wrap ((l : Int) - 1) = (l : Int) - 1 := by rw [IntKind.wrap_i64]; omega
  have w2 : IntKind.i64.wrap ((l : Int) - 1 + e) = (l : Int) - 1 + e := by rw [IntKind.wrap_i64]; omega
  have HX := Lib.hid hX
  have HA := Lib.hid hA
  clear hX hA hbl
  go_enter Tryz.func103, Tryz.ntmps103
  go_wp2_with fail
  have hX := HX.out
  have hA := HA.out
  clear HX HA
  generalize w.alloc (.cells #[.int .i64 k, .bool neg, .int .i64 e, .slice A xs.length c] 42) = W at *
  obtain ⟨x0, x1, x2, x3, -⟩ := hX.facts
  have q2 := Later.cell x2
  have q3 := Later.cell x3
  refine wp_region_later (by kernel_rfl) (by kernel_rfl) ?_
  repeat (go_big_quiet_step (first
    | (go_at_call 57; refine Calls.later_same (hlen _ (h.ext (hA.tr (Later.h _)))))))
  refine wpQuiet_nil ?_
  intro _ hw'
  obtain ⟨⟨wq, hq⟩, rfl⟩ := hw'
  go_wp2
  go_ret
  exact ⟨rfl, hA.tr hq⟩
/-- The class of a canonical float in a right format. -/
def clsF (k : Int) (f : Fl) : Int := if f.kind = 0 then 0 else if f.kind = 2 then 3 else if f.kind = 3 then 4 else if f.exp + bl f.mag - 1 < le k then 1 else 2
theorem canon_bl {neg : Bool} {e : Int} {m : Nat} {f : Fl} (h : canon 1 neg e m = some f) : (bl m : Int) + e = bl f.mag + f.exp := by
  obtain ⟨rfl, h0, -, -⟩ := canon_fin h
  simp only
  have h1 := (tz_div m h0).1
  have h2 : 0 < m / 2 ^ tz m := by
    rcases Nat.eq_zero_or_pos (m / 2 ^ tz m) with hz | hz
    · rw [hz, Nat.zero_mul] at h1; omega
    · exact hz
  have h3 := bl_mul_pow (m / 2 ^ tz m) (tz m) h2
  rw [h1] at h3
  omega
end Go.Proofs.YtlnfmngginihfaaGreatDoor
