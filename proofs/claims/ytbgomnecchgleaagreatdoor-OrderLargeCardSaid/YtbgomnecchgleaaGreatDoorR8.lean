/- the references' Minus, Sub, Compare, Cmp, Canonical, Same, Is. -/
import Derived.Test.YtbgomnecchgleaaGreatDoorR4
set_option linter.unusedVariables false
set_option linter.unusedSimpArgs false
namespace Go.Proofs.YtbgomnecchgleaaGreatDoor
open Go.RowKit

theorem cmp_at {X Y : List Nat} {j : Nat} (hX : D32 X) (hY : D32 Y) (hdr : hv (X.drop (j + 1)) = hv (Y.drop (j + 1))) (hlt : X.getD j 0 < Y.getD j 0) : hv X < hv Y := by
  have e1 := valb_split H X j
  have e2 := valb_split H Y j
  rw [valb_drop_step] at e1 e2
  have h1 : valb H (X.take j) < H ^ j := Nat.lt_of_lt_of_le (hv_lt (hX.take j)) (Nat.pow_le_pow_right H_pos (by rw [List.length_take]; omega))
  simp only [hv] at hdr ⊢
  rw [hdr] at e1
  have h2 : H ^ j * (X.getD j 0 + 1 + H * valb H (Y.drop (j + 1))) ≤ H ^ j * (Y.getD j 0 + H * valb H (Y.drop (j + 1))) := Nat.mul_le_mul_left _ (by omega)
  rw [e1, e2]
  rw [Nat.mul_add, Nat.mul_add, Nat.mul_one] at h2
  rw [Nat.mul_add, Nat.mul_add]
  rw [Nat.mul_add] at h2
  omega
end Go.Proofs.YtbgomnecchgleaaGreatDoor
