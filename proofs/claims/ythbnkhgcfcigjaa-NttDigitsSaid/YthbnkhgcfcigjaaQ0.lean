/- A region whose order is open, whose operations read and whose callees make new memory only and hand back numbers: one walk in the text's order. -/
import Derived.Test.YthbnkhgcfcigjaaB0
set_option linter.unusedVariables false
set_option linter.unusedSimpArgs false
namespace Go.Proofs.Ythbnkhgcfcigjaa
open Go.RowKit

/-- A later world. -/
structure Later (w : World) where
  v : World
  h : Ext w v
instance later_some (w : World) : Nonempty (Later w) := ⟨⟨w, Ext.refl w⟩⟩
theorem wp_region_later {id : Nat} {Q : Exit → Act → World → Prop} {a : Act} {w : World} {l : List Oper} (hm : Try.prog.follows .mixedOrders = true) (hB : Region.lexB .any l.toArray = true)
    (h : wpQuiet Try.prog l.toArray (fun w' => ∃ i : Later w, w' = i.v) (fun a' => ∀ w', (∃ i : Later w, w' = i.v) → Q .normal a' w') l a) : (Code.region id l.toArray true).wp Try.prog Q a w :=
  wp_region_quiet (C := fun w' => ∃ i : Later w, w' = i.v) hm hB ⟨⟨w.drew, (Ext.refl w).drew⟩, rfl⟩ (by simpa using h)
theorem Calls.later {f : FuncId} {args : Array Value} {w : World} {i : Later w} {v : Value} (h : Calls Try.prog f args i.v fun e w' => e = .returned v ∧ Ext i.v w') : Calls Try.prog f args i.v fun e w' => e = .returned v ∧ ∃ j : Later w, w' = j.v :=
  h.mono fun _ w' ⟨he, hb⟩ => ⟨he, ⟨w', i.h.tr hb⟩, rfl⟩
theorem Calls.later_same {f : FuncId} {args : Array Value} {w : World} {i : Later w} {v : Value} (h : Calls Try.prog f args i.v fun e w' => e = .returned v ∧ i.v = w') : Calls Try.prog f args i.v fun e w' => e = .returned v ∧ ∃ j : Later w, w' = j.v :=
  h.mono fun _ _ ⟨he, hb⟩ => ⟨he, i, hb.symm⟩
theorem Later.cell {w : World} {a : Addr} {v : Value} (hc : w.cell? a = some v) : ∀ i : Later w, i.v.cell? a = some v := fun i => i.h.cell hc
end Go.Proofs.Ythbnkhgcfcigjaa
