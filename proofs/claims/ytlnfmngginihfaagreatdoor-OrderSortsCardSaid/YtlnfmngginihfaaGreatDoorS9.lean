/- package format: Same. -/
import Derived.Test.YtlnfmngginihfaaGreatDoorF6
import Derived.Test.YtlnfmngginihfaaGreatDoorW3
set_option linter.unusedVariables false
set_option linter.unusedSimpArgs false
namespace Go.Proofs.YtlnfmngginihfaaGreatDoor
open Go.RowKit
attribute [local go_sem ↓] Go.wp_at_zero Go.wp_at_succ

/-- What Same answers of two canonical floats, where there are. -/
def sameO : Option Fl → Option Fl → Bool
  | some f, some g => (f.kind == g.kind) && (f.neg == g.neg) && (f.exp == g.exp) && (cmp3 f.mag g.mag == 0)
  | _, _ => false
theorem cmp3_zero (a b : Nat) : (cmp3 a b == 0) = decide (a = b) := by
  rcases Nat.lt_trichotomy a b with h | h | h
  · rw [cmp3_lt h, decide_eq_false (by omega)]; rfl
  · rw [cmp3_eq h, decide_eq_true h]; rfl
  · rw [cmp3_gt h, decide_eq_false (by omega)]; rfl
theorem sameO_self (o : Option Fl) : sameO o o = o.isSome := by
  cases o with
  | none => rfl
  | some f => simp only [sameO, cmp3_zero]; simp
theorem sameO_comm (o o' : Option Fl) : sameO o o' = sameO o' o := by
  cases o with
  | none => cases o' <;> rfl
  | some f =>
    cases o' with
    | none => rfl
    | some g =>
      simp only [sameO, cmp3_zero]
      rw [show (f.kind == g.kind) = (g.kind == f.kind) from Bool.beq_comm, show (f.neg == g.neg) = (g.neg == f.neg) from Bool.beq_comm, show (f.exp == g.exp) = (g.exp == f.exp) from Bool.beq_comm, show decide (f.mag = g.mag) = decide (g.mag = f.mag) from by simp only [eq_comm]]
theorem CanR.use {w : World} {o : Option Fl} {z : Ending} {w' : World} (h : CanR w o z w') :
    ∃ k n e A c l, z = .returned (.tuple #[flV k n e (.slice A l c), .bool o.isSome]) ∧ Ext w w' ∧ ∀ f, o = some f → k = f.kind ∧ n = f.neg ∧ e = f.exp ∧ l = (cn f.mag).length ∧ Rd w' A c (cn f.mag) := by
  obtain ⟨u, rfl, hE, hf, k, n, e, A, l, c, rfl⟩ := h
  refine ⟨k, n, e, A, c, l, rfl, hE, ?_⟩
  intro f hof
  obtain ⟨v, hv, hown⟩ := hf f hof
  obtain ⟨A1, c1, rfl, hr⟩ := hown.rd
  simp only [flV, Value.agg.injEq, Array.mk.injEq, List.cons.injEq, Value.int.injEq, Value.bool.injEq, Value.slice.injEq, true_and, and_true] at hv
  obtain ⟨rfl, rfl, rfl, rfl, rfl, rfl⟩ := hv
  exact ⟨rfl, rfl, rfl, rfl, hr⟩
end Go.Proofs.YtlnfmngginihfaaGreatDoor
