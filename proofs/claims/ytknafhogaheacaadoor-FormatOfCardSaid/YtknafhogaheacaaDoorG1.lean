/- package format: Named: the map of names. -/
import Derived.Test.YtknafhogaheacaaDoorFA
import Derived.Test.YtknafhogaheacaaDoorRows
import Derived.LaidMore
import Derived.ProofKit
import Derived.OpenShut
import Derived.Stop.Joined
import Derived.Laws.IdiomMaps
import Derived.Laws.IdiomElems
set_option linter.unusedVariables false
set_option linter.unusedSimpArgs false
namespace Go.Proofs.YtknafhogaheacaaDoor
open Go.ChangeShapes Go.WideShapes Go.WideMaps Go.WideElems Go.RowKit

/-- The formats that have names. -/
def nmKP (l : List UInt8) : Option (Int × Int) :=
  if l = [109, 105, 110, 105] then some (4, 4) else if l = [104, 97, 108, 102] then some (5, 11) else if l = [98, 102, 108, 111, 97, 116] then some (8, 8) else
  if l = [115, 105, 110, 103, 108, 101] then some (8, 24) else if l = [100, 111, 117, 98, 108, 101] then some (11, 53) else if l = [101, 120, 116, 101, 110, 100, 101, 100] then some (15, 64) else
  if l = [113, 117, 97, 100] then some (15, 113) else none
def nmV (o : Option (Int × Int)) : Value := .agg #[.int .i64 (o.getD (0, 0)).1, .int .i64 (o.getD (0, 0)).2]
theorem named_at {H : Type} (l : List UInt8) : (Rows.laid_reckoner_format_named (H := H)).atKey (.string l) .nil = match nmKP l with | some kp => .agg [.lit (.int .i64 kp.1), .lit (.int .i64 kp.2)] | none => .nil := by
  unfold nmKP Rows.laid_reckoner_format_named DataW.atKey
  by_cases h1 : l = [98, 102, 108, 111, 97, 116]
  · subst h1; rfl
  by_cases h2 : l = [100, 111, 117, 98, 108, 101]
  · subst h2; rfl
  by_cases h3 : l = [101, 120, 116, 101, 110, 100, 101, 100]
  · subst h3; rfl
  by_cases h4 : l = [104, 97, 108, 102]
  · subst h4; rfl
  by_cases h5 : l = [109, 105, 110, 105]
  · subst h5; rfl
  by_cases h6 : l = [113, 117, 97, 100]
  · subst h6; rfl
  by_cases h7 : l = [115, 105, 110, 103, 108, 101]
  · subst h7; rfl
  simp only [List.find?, Lit.sameKey, beq_eq_false_iff_ne.2 (fun h => h1 h.symm), beq_eq_false_iff_ne.2 (fun h => h2 h.symm), beq_eq_false_iff_ne.2 (fun h => h3 h.symm), beq_eq_false_iff_ne.2 (fun h => h4 h.symm), beq_eq_false_iff_ne.2 (fun h => h5 h.symm), beq_eq_false_iff_ne.2 (fun h => h6 h.symm), beq_eq_false_iff_ne.2 (fun h => h7 h.symm), h1, h2, h3, h4, h5, h6, h7, if_false]
/-- The map of names is laid, and whatever is read off it. -/
structure MapT (w : World) : Prop where
  m : ∃ bm es clock, w.cell? ⟨0, 0, none⟩ = some (.map (some bm)) ∧ w.heap[bm]? = some (.map es clock) ∧ ∀ w' : World, w'.heap[bm]? = some (.map es clock) → ∀ s : ByteArray, s.size ≤ maxLen →
    (Instr.lookup 69 (.map (some bm)) (.string s) true).run Tryd.prog w' = .ok (.tuple #[nmV (nmKP s.data.toList), .bool (nmKP s.data.toList).isSome]) w'
theorem MapT.ext {w w' : World} (h : MapT w) (hb : Ext w w') : MapT w' := by
  obtain ⟨bm, es, clock, h1, h2, h3⟩ := h.m
  exact ⟨bm, es, clock, hb.cell h1, (hb.block bm (Array.getElem?_eq_some_iff.1 h2).1).trans h2, h3⟩
theorem gNamed : Tryd.prog.globalNamed "reckoner/format.named" = some 0 := by kernel_rfl
theorem gTab : Tryd.prog.globalNamed "math/bits.deBruijn64tab" = some 1 := by kernel_rfl
theorem tNamed : (Tryd.prog.globals[0]?).map (·.type) = some 69 := by kernel_rfl
theorem lawKey : KeyLaw Tryd.prog 9 := string_law Tryd.underlying9
theorem tTab : (Tryd.prog.globals[1]?).map (·.type) = some 92 := by kernel_rfl
/-- A table of bytes, as it is laid, in its cells. -/
theorem bytes_laid {H : Type} {enc : TypeId × Value → H} {W : World} {base : Nat} {sp : Nat → Bool} {held : Bool} {fuel n : Nat} {t e : TypeId} {cs : List Value} {p : List MemPlace} {L : List Nat}
    (ht : Tryd.prog.underlying t = some (.array n e)) (he : Tryd.prog.underlying e = some (.int .u8)) (ce : Tryd.prog.cellsOf e = 1)
    (h : DataW.trod enc Tryd.prog W base sp held fuel t cs = some (.agg (L.map fun j : Nat => .lit (.int .u8 j)), p)) : ∀ j, j < L.length → cs[j]? = some (.int .u8 (L.getD j 0 : Nat)) := by
  obtain ⟨xs, m, -, hx, -, hn, hel⟩ := DataW.trod_array ht h
  simp only [Prod.mk.injEq, DataW.agg.injEq] at hx
  intro j hj
  have hlen : L.length = xs.length := by simpa using congrArg List.length hx.1
  have h1 := hel j (by omega)
  rw [ce, Nat.mul_one] at h1
  obtain ⟨x, hxj⟩ : ∃ x, xs[j]? = some x := ⟨_, List.getElem?_eq_getElem (by omega)⟩
  rw [hxj] at h1
  obtain ⟨k, e1, e2, -⟩ := DataW.trod_int he h1
  have h2 : (L.map fun j : Nat => (DataW.lit (.int .u8 j) : DataW H))[j]? = (xs.map fun x => x.fst)[j]? := by rw [hx.1]
  rw [List.getElem?_map, List.getElem?_map, hxj, List.getElem?_eq_getElem hj] at h2
  subst e2
  simp at h2
  rw [List.getD_eq_getElem?_getD, List.getElem?_eq_getElem hj, Option.getD_some]
  rw [h2]
  have h3 := congrArg (fun l : List Value => l[0]?) e1
  simpa using h3
theorem of_laid {W : World} (h : laidMetH Tryd.prog [("math/bits.deBruijn64tab", Rows.laid_math_bits_deBruijn64tab), ("reckoner/format.named", Rows.laid_reckoner_format_named)] W) : Tab W ∧ MapT W := by
  rw [MakeChecks.laidMetH_plain _ _ _ (by kernel_rfl)] at h
  obtain ⟨ps, ⟨g1, t1, cs1, f1, p1, q1, hg1, ht1, hv1, hd1, ⟨g0, t0, cs0, f0, p0, q0, hg0, ht0, hv0, hd0, _, _⟩, _⟩, _, _⟩ := h
  obtain rfl := Option.some.inj (gNamed.symm.trans hg0)
  obtain rfl := Option.some.inj (gTab.symm.trans hg1)
  obtain rfl := Option.some.inj (tNamed.symm.trans ht0)
  obtain rfl := Option.some.inj (tTab.symm.trans ht1)
  constructor
  · refine ⟨fun j hj => ?_⟩
    have hL : (Rows.laid_math_bits_deBruijn64tab : DataW Unit) = .agg (Lib.deBruijn64tab.map fun j : Nat => .lit (.int .u8 j)) := rfl
    rw [hL] at hd1
    have := World.var?_cell hg1 hv1 j
    rw [this]
    have h2 := bytes_laid Tryd.underlying92 Tryd.underlying5 (by kernel_rfl) hd1 j hj
    simpa using h2
  · rcases WideElems.open_map Tryd.underlying69 hd0 with ⟨_, hx⟩ | ⟨bm, es, clock, m, rfl, hcs, hb, _, F, hx⟩
    · simp [Rows.laid_reckoner_format_named] at hx
    simp only [Prod.mk.injEq] at hx
    have hcell : W.cell? ⟨0, 0, none⟩ = some (.map (some bm)) := by
      have := World.var?_cell hg0 hv0 0
      rw [Array.eq_one_of_toList hcs] at this
      simpa using this
    refine ⟨bm, es, clock, hcell, hb, fun w' hb' s hs => ?_⟩
    have zero : (zeroValue 44).run Tryd.prog w' = .ok (nmV none) w' := by kernel_rfl
    have hat0 := named_at (H := Unit) s.data.toList
    rcases fit_lookup_ok (w := w') lawKey Tryd.underlying69 zero hb' F (keyOf_string_mk (s := s) Tryd.underlying9 hs) with ⟨hrun, hat⟩ | ⟨v, y, hrun, hRv, hat, _⟩
    · have h1 := hat .nil
      rw [← hx.1, hat0] at h1
      cases hk : nmKP s.data.toList with
      | none => exact hrun
      | some kp => rw [hk] at h1; cases h1
    · obtain ⟨a, b, rfl, rfl, _, _⟩ := elemAt_pair Tryd.underlying44 rfl rfl Tryd.underlying3 Tryd.underlying3 (by kernel_rfl) (by kernel_rfl) (by kernel_rfl) hRv
      have h1 := hat .nil
      rw [← hx.1, hat0] at h1
      cases hk : nmKP s.data.toList with
      | none => rw [hk] at h1; cases h1
      | some kp =>
        rw [hk] at h1
        simp at h1
        obtain ⟨rfl, rfl⟩ := h1
        exact hrun
/-- What Named hands back. -/
def NamE (s : ByteArray) : Int := if 65536 < s.size then 2 else if (nmKP s.data.toList).isSome then 0 else 4
def NamV (s : ByteArray) : Value := if 65536 < s.size then nmV none else nmV (nmKP s.data.toList)
set_option maxHeartbeats 4000000 in
set_option maxRecDepth 100000 in
theorem named_c (s : ByteArray) (w : World) (hM : MapT w) (hs : s.size ≤ 65536) :
    Calls Tryd.prog 10 #[.string s] w fun e w' => e = .returned (.tuple #[nmV (nmKP s.data.toList), .int .i64 (if (nmKP s.data.toList).isSome then 0 else 4)]) ∧ Ext w w' := by
  obtain ⟨bm, es, clock, hc, hh, hl⟩ := hM.m
  have hlk := fun w' h => hl w' h s (Nat.le_trans hs (by decide))
  have hd : decide ((65536 : Int) < (s.size : Int)) = false := by simp; omega
  have hA := (Ext.refl w).al (Obj.cells #[Value.int IntKind.i64 0, Value.int IntKind.i64 0] 44)
  have hcA := hA.cell hc
  have hlA := hlk _ ((hA.block bm (Array.getElem?_eq_some_iff.1 hh).1).trans hh)
  clear hl hlk hM
  generalize nmKP s.data.toList = o at *
  generalize hsz : s.size = n at *
  have hE := hA.al (Obj.cells #[Value.int IntKind.i64 0, Value.int IntKind.i64 0] 44)
  cases o with
  | none =>
    simp only [nmV, Option.getD, Option.isSome] at hlA ⊢
    go_enter Tryd.func10, Tryd.ntmps10
    go_wp2
    refine bodyPost_ret (v := .tuple #[.agg #[.int .i64 0, .int .i64 0], .int .i64 4]) (by simp [results, Tryd.results10, go_sem]) rfl ?_
    exact ⟨rfl, by repeat (with_reducible first | exact hE | exact Ext.refl _ | refine Ext.set ?_ (by omega) _ _ | refine Ext.al ?_ _ | refine Ext.drewN ?_ _ | refine Ext.drew ?_)⟩
  | some kp =>
    obtain ⟨a, b⟩ := kp
    simp only [nmV, Option.getD, Option.isSome] at hlA ⊢
    go_enter Tryd.func10, Tryd.ntmps10
    go_wp2
    refine bodyPost_ret (v := .tuple #[.agg #[.int .i64 a, .int .i64 b], .int .i64 0]) (by simp [results, Tryd.results10, go_sem]) rfl ?_
    exact ⟨rfl, by repeat (with_reducible first | exact hE | exact Ext.refl _ | refine Ext.set ?_ (by omega) _ _ | refine Ext.al ?_ _ | refine Ext.drewN ?_ _ | refine Ext.drew ?_)⟩
end Go.Proofs.YtknafhogaheacaaDoor
