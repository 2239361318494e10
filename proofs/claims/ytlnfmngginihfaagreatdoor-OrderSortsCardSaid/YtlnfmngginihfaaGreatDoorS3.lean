/- package format: Canonical; the reference's and the laws' Is. -/
import Derived.Test.YtlnfmngginihfaaGreatDoorS2
import Derived.Test.YtlnfmngginihfaaGreatDoorF9
set_option linter.unusedVariables false
set_option linter.unusedSimpArgs false
namespace Go.Proofs.YtlnfmngginihfaaGreatDoor
open Go.RowKit

/-- The error of Canonical, and the float. -/
def capE (a : FA) : Int := if 4096 < a.xs.length then 2 else if a.can.isSome then 0 else 151
def capF (a : FA) : Fl := if 4096 < a.xs.length then ⟨0, false, 0, 0⟩ else a.can.getD ⟨0, false, 0, 0⟩
set_option maxHeartbeats 1000000 in
set_option maxRecDepth 100000 in
theorem ris15_c (k k' e e' : Int) (neg neg' : Bool) (A A' : Option Addr) (c c' : Nat) (xs ys : List Nat) (w : World) (h : Rd w A c xs) (h' : Rd w A' c' ys) (hl : ys.length ≤ 4096) (f : Fl) (hf : canon k' neg' e' (val ys) = some f) :
    Calls Tryz.prog 23 #[flV k neg e (.slice A xs.length c), flV k' neg' e' (.slice A' ys.length c')] w fun z w' => z = .returned (.bool (decide (k = f.kind ∧ neg = f.neg ∧ e = f.exp ∧ xs = cn f.mag))) ∧ Ext w w' := by
  have hX := Br.new w (.int .i64 k) (.bool neg) (.int .i64 e) (.slice A xs.length c)
  have hA := (Ext.refl w).al (.cells #[.int .i64 k, .bool neg, .int .i64 e, .slice A xs.length c] 42)
  have hA2 := hA.al (.cells #[.int .i64 k', .bool neg', .int .i64 e', .slice A' ys.length c'] 42)
  have hX2 := hX.ext ((Ext.refl _).al (.cells #[.int .i64 k', .bool neg', .int .i64 e', .slice A' ys.length c'] 42))
  have hY2 := Br.new (w.alloc (.cells #[.int .i64 k, .bool neg, .int .i64 e, .slice A xs.length c] 42)) (.int .i64 k') (.bool neg') (.int .i64 e') (.slice A' ys.length c')
  rw [World.size_alloc] at hY2
  have hcn := fun w h => rcanonical_c k' e' neg' A' c' ys w h hl f hf
  have heq := fun A2 c2 w h h2 => requal_c k f.kind e f.exp neg f.neg A A2 c c2 xs (cn f.mag) w h h2
  have HX := Lib.hid hX2
  have HY := Lib.hid hY2
  have HA := Lib.hid hA2
  generalize decide (k = f.kind ∧ neg = f.neg ∧ e = f.exp ∧ xs = cn f.mag) = b at *
  clear hX hA hA2 hX2 hY2 hf
  go_enter Tryz.func23, Tryz.ntmps23
  go_wp2_with fail
  have hX := HX.out
  have hY := HY.out
  have hA := HA.out
  clear HX HY HA
  generalize ((w.alloc (.cells #[.int .i64 k, .bool neg, .int .i64 e, .slice A xs.length c] 42)).alloc (.cells #[.int .i64 k', .bool neg', .int .i64 e', .slice A' ys.length c'] 42)) = W at *
  obtain ⟨x0, x1, x2, x3, -⟩ := hX.facts
  obtain ⟨y0, y1, y2, y3, -⟩ := hY.facts
  go_region_held3 (fun w' => w'.cell? ⟨w.heap.size, 0, none⟩ = some (.int .i64 k) ∧ w'.cell? ⟨w.heap.size, 1, none⟩ = some (.bool neg) ∧ w'.cell? ⟨w.heap.size, 2, none⟩ = some (.int .i64 e) ∧ w'.cell? ⟨w.heap.size, 3, none⟩ = some (.slice A xs.length c) ∧
      w'.cell? ⟨w.heap.size + 1, 0, none⟩ = some (.int .i64 k') ∧ w'.cell? ⟨w.heap.size + 1, 1, none⟩ = some (.bool neg') ∧ w'.cell? ⟨w.heap.size + 1, 2, none⟩ = some (.int .i64 e') ∧ w'.cell? ⟨w.heap.size + 1, 3, none⟩ = some (.slice A' ys.length c'))
    (first | go_keep | (go_split_ands; refine ⟨?_, ?_, ?_, ?_, ?_, ?_, ?_, ?_⟩ <;> (refine Ext.cell (w := W) (by assumption) ?_; assumption)))
    (first
      | (go_at_call 22; (with_reducible refine (hcn _ ((h'.ext hA).drew)).mono ?_); rintro z w2 ⟨u, rfl, ⟨v, rfl, ho⟩, hb⟩; have hE2 : Ext W w2 := (Ext.refl W).drew.tr hb; obtain ⟨A2, c2, rfl, hr2⟩ := ho.rd)
      | (go_at_call 39; (with_reducible refine (heq A2 c2 _ ((h.ext hA).ext hE2) hr2).mono ?_); rintro z w3 ⟨rfl, hb3⟩; have hE3 : Ext W w3 := hE2.tr hb3))
  go_wp2
  go_ret
  exact ⟨rfl, hA.tr hE3⟩
set_option maxHeartbeats 1000000 in
set_option maxRecDepth 100000 in
theorem lis_c (k k' e e' : Int) (neg neg' : Bool) (A A' : Option Addr) (c c' : Nat) (xs ys : List Nat) (w : World) (h : Rd w A c xs) (h' : Rd w A' c' ys) (hl : ys.length ≤ 4096) (f : Fl) (hf : canon k' neg' e' (val ys) = some f) :
    Calls Tryz.prog 10 #[flV k neg e (.slice A xs.length c), flV k' neg' e' (.slice A' ys.length c')] w fun z w' => z = .returned (.bool (decide (k = f.kind ∧ neg = f.neg ∧ e = f.exp ∧ xs = cn f.mag))) ∧ Ext w w' := by
  have hX := Bx.new w (.int .i64 k) (.bool neg) (.int .i64 e) (.slice A xs.length c)
  have hA := (Ext.refl w).al (.cells #[.int .i64 k, .bool neg, .int .i64 e, .slice A xs.length c] 40)
  have hA2 := hA.al (.cells #[.int .i64 k', .bool neg', .int .i64 e', .slice A' ys.length c'] 42)
  have hX2 := hX.ext ((Ext.refl _).al (.cells #[.int .i64 k', .bool neg', .int .i64 e', .slice A' ys.length c'] 42))
  have hY2 := Br.new (w.alloc (.cells #[.int .i64 k, .bool neg, .int .i64 e, .slice A xs.length c] 40)) (.int .i64 k') (.bool neg') (.int .i64 e') (.slice A' ys.length c')
  rw [World.size_alloc] at hY2
  have hth := fun w => their_c k e neg A xs.length c w
  have heq := fun w h h2 => ris15_c k k' e e' neg neg' A A' c c' xs ys w h h2 hl f hf
  have HX := Lib.hid hX2
  have HY := Lib.hid hY2
  have HA := Lib.hid hA2
  generalize decide (k = f.kind ∧ neg = f.neg ∧ e = f.exp ∧ xs = cn f.mag) = b at *
  clear hX hA hA2 hX2 hY2 hf
  go_enter Tryz.func10, Tryz.ntmps10
  go_wp2_with fail
  have hX := HX.out
  have hY := HY.out
  have hA := HA.out
  clear HX HY HA
  generalize ((w.alloc (.cells #[.int .i64 k, .bool neg, .int .i64 e, .slice A xs.length c] 40)).alloc (.cells #[.int .i64 k', .bool neg', .int .i64 e', .slice A' ys.length c'] 42)) = W at *
  obtain ⟨x0, x1, x2, x3, -⟩ := hX.facts
  obtain ⟨y0, y1, y2, y3, -⟩ := hY.facts
  go_region_held3 (fun w' => w'.cell? ⟨w.heap.size, 0, none⟩ = some (.int .i64 k) ∧ w'.cell? ⟨w.heap.size, 1, none⟩ = some (.bool neg) ∧ w'.cell? ⟨w.heap.size, 2, none⟩ = some (.int .i64 e) ∧ w'.cell? ⟨w.heap.size, 3, none⟩ = some (.slice A xs.length c) ∧
      w'.cell? ⟨w.heap.size + 1, 0, none⟩ = some (.int .i64 k') ∧ w'.cell? ⟨w.heap.size + 1, 1, none⟩ = some (.bool neg') ∧ w'.cell? ⟨w.heap.size + 1, 2, none⟩ = some (.int .i64 e') ∧ w'.cell? ⟨w.heap.size + 1, 3, none⟩ = some (.slice A' ys.length c'))
    (first | go_keep | (go_split_ands; refine ⟨?_, ?_, ?_, ?_, ?_, ?_, ?_, ?_⟩ <;> (refine Ext.cell (w := W) (by assumption) ?_; assumption)))
    (first
      | (go_at_call 11; (with_reducible refine (hth _).mono ?_); rintro z w2 ⟨rfl, hb⟩; have hE2 : Ext W w2 := (Ext.refl W).drew.tr hb)
      | (go_at_call 23; (with_reducible refine (heq _ ((h.ext hA).ext hE2) ((h'.ext hA).ext hE2)).mono ?_); rintro z w3 ⟨rfl, hb3⟩; have hE3 : Ext W w3 := hE2.tr hb3))
  go_wp2
  go_ret
  exact ⟨rfl, hA.tr hE3⟩
end Go.Proofs.YtlnfmngginihfaaGreatDoor
