/- FormatOwn: what writes into one row leave; Value at any float. -/
import Derived.Test.YtknafhogaheacaaDoorT4
import Derived.Test.YtknafhogaheacaaDoorF8
set_option linter.unusedVariables false
set_option linter.unusedSimpArgs false
namespace Go.Proofs.YtknafhogaheacaaDoor
open Go.RowKit
attribute [local go_sem ↓] Go.wp_at_zero Go.wp_at_succ

/-! ### a row that is counted up -/
/-- What there was is there, but for the block at A. -/
structure Kb (A : Option Addr) (w w' : World) : Prop where
  os : w'.os = w.os
  tape : w'.tape = w.tape
  output : w'.output = w.output
  size : w.heap.size ≤ w'.heap.size
  block : ∀ k, k < w.heap.size → (∀ a, A = some a → k ≠ a.block) → w'.heap[k]? = w.heap[k]?
theorem Kb.refl (A : Option Addr) (w : World) : Kb A w w := ⟨rfl, rfl, rfl, Nat.le_refl _, fun _ _ _ => rfl⟩
theorem Kb.set {A : Option Addr} {w w1 : World} (h : Kb A w w1) {p a : Addr} (hA : A = some a) (hp : a.block = p.block) (u : Value) : Kb A w (w1.setCell p u) :=
  ⟨h.os, h.tape, h.output, by have := h.size; simpa using this, fun k hk hn => by
    rw [Below.heap_setCell _ _ _ _ (by rw [← hp]; exact hn a hA)]
    exact h.block k hk hn⟩
theorem Kb.drewN {A : Option Addr} {w w1 : World} (h : Kb A w w1) (n : Nat) : Kb A w (w1.drewN n) := ⟨h.os, h.tape, h.output, h.size, h.block⟩
theorem Kb.drew {A : Option Addr} {w w1 : World} (h : Kb A w w1) : Kb A w w1.drew := ⟨h.os, h.tape, h.output, h.size, h.block⟩
/-- What lies below the block is kept. -/
theorem Kb.ext {A : Option Addr} {v w w1 : World} (h : Kb A w w1) (he : Ext v w) (hA : ∀ a, A = some a → v.heap.size ≤ a.block) : Ext v w1 :=
  ⟨h.os.trans he.os, h.tape.trans he.tape, h.output.trans he.output, Nat.le_trans he.size h.size, fun k hk => by
    rw [h.block k (Nat.lt_of_lt_of_le hk he.size) (fun a ha => by have := hA a ha; omega)]
    exact he.block k hk⟩
/-- A row above the block is kept. -/
theorem Kb.own {A : Option Addr} {w w1 : World} (h : Kb A w w1) {base : Nat} {v : Value} {xs : List Nat} (ho : Own w base v xs) (hA : ∀ a, A = some a → a.block < base) : Own w1 base v xs := by
  obtain ⟨⟨h0, h1⟩, h2⟩ := ho
  refine ⟨⟨h0, ?_⟩, h2⟩
  rcases h1 with h1 | ⟨g, cap, cur, r1, r2, r3, r⟩
  · exact .inl h1
  · refine .inr ⟨g, cap, cur, r1, r2, ?_, r⟩
    rw [h.block g (Array.getElem?_eq_some_iff.1 r3).1 (fun a ha => by have := hA a ha; omega)]
    exact r3
theorem Kb.bx {A : Option Addr} {w w1 : World} (h : Kb A w w1) {g : Nat} {a b c d : Value} (x : Bx w g a b c d) (hA : ∀ a, A = some a → g ≠ a.block) : Bx w1 g a b c d :=
  ⟨(h.block g (Array.getElem?_eq_some_iff.1 x.h).1 hA).trans x.h⟩
theorem Kb.bq {A : Option Addr} {w w1 : World} (h : Kb A w w1) {g : Nat} {a b c : Value} (x : Bq w g a b c) (hA : ∀ a, A = some a → g ≠ a.block) : Bq w1 g a b c :=
  ⟨(h.block g (Array.getElem?_eq_some_iff.1 x.h).1 hA).trans x.h⟩
theorem Kb.bf {A : Option Addr} {w w1 : World} (h : Kb A w w1) {g : Nat} {a b : Value} (x : Bf w g a b) (hA : ∀ a, A = some a → g ≠ a.block) : Bf w1 g a b :=
  ⟨(h.block g (Array.getElem?_eq_some_iff.1 x.h).1 hA).trans x.h⟩

/-- A row whose words nobody knows: it may be written. -/
structure Rw (w : World) (base : Nat) (A : Option Addr) (n : Nat) : Prop where
  len : n ≤ 9223372036854775807
  addr : ∀ a, A = some a → base ≤ a.block ∧ a.block < w.heap.size
  cell : ∀ i, i < n → ∃ (g : Nat) (cur : Array Value) (x : Int), A = some ⟨g, 0, none⟩ ∧ w.heap[g]? = some (.cells cur 50 (0, 0)) ∧ cur[i]? = some (.int .u64 x)
theorem Own.rw {w : World} {base : Nat} {A : Option Addr} {n c : Nat} {xs : List Nat} (h : Own w base (.slice A n c) xs) : Rw w base A n := by
  obtain ⟨h0, h1⟩ := h.own
  rcases h1 with ⟨e, hn⟩ | ⟨g, cap, cur, e, hb, hh, h1, h2, h3, h4⟩
  · injection e with e1 e2 e3
    subst e1 e2
    exact ⟨by omega, by simp, fun i hi => absurd hi (by omega)⟩
  · injection e with e1 e2 e3
    subst e1 e2
    simp only [maxLen] at h2
    refine ⟨by omega, ?_, ?_⟩
    · intro a ha
      obtain rfl := Option.some.inj ha
      exact ⟨hb, (Array.getElem?_eq_some_iff.1 hh).1⟩
    · intro i hi
      refine ⟨g, cur, ((xs.getD i 0 : Nat) : Int), rfl, hh, ?_⟩
      have e := enc_get xs i hi
      rw [← h4, List.getElem?_take_of_lt (by omega)] at e
      simpa using e
theorem Rw.get {w : World} {base : Nat} {A : Option Addr} {n : Nat} (h : Rw w base A n) (i : Nat) (hi : i < n) : ∃ (g : Nat) (x : Int), A = some ⟨g, 0, none⟩ ∧ w.cell? ⟨g, i, none⟩ = some (.int .u64 x) ∧ w.frozen? ⟨g, i, none⟩ = false := by
  obtain ⟨g, cur, x, e, hh, hc⟩ := h.cell i hi
  refine ⟨g, x, e, ?_, by simp [World.frozen?, hh]⟩
  rw [cell_of_row w g i _ _ _ hh, hc]
theorem Rw.set {w : World} {base : Nat} {g n : Nat} (h : Rw w base (some ⟨g, 0, none⟩) n) (i : Nat) (y : Int) : Rw (w.setCell ⟨g, i, none⟩ (.int .u64 y)) base (some ⟨g, 0, none⟩) n := by
  refine ⟨h.len, fun a ha => by have := h.addr a ha; simpa using this, fun j hj => ?_⟩
  obtain ⟨g', cur, x, e, hh, hc⟩ := h.cell j hj
  obtain rfl : g = g' := by injection e with e; injection e
  by_cases hji : j = i
  · subst hji
    have hlt : j < cur.size := (Array.getElem?_eq_some_iff.1 hc).1
    exact ⟨g, cur.setIfInBounds j (.int .u64 y), y, rfl, by simp [World.setCell, Array.getElem?_modify, hh], by simp [hlt]⟩
  · refine ⟨g, cur.setIfInBounds i (.int .u64 y), x, rfl, by simp [World.setCell, Array.getElem?_modify, hh], ?_⟩
    rw [Array.getElem?_setIfInBounds_ne (by omega)]
    exact hc
theorem Rw.drewN {w : World} {base : Nat} {A : Option Addr} {n : Nat} (h : Rw w base A n) (m : Nat) : Rw (w.drewN m) base A n := ⟨h.len, h.addr, h.cell⟩
theorem Rw.kb {A A' : Option Addr} {w w1 : World} (h : Kb A w w1) {base n : Nat} (x : Rw w base A' n) (hA : ∀ a a', A = some a → A' = some a' → a'.block ≠ a.block) : Rw w1 base A' n := by
  refine ⟨x.len, fun a ha => ⟨(x.addr a ha).1, Nat.lt_of_lt_of_le (x.addr a ha).2 h.size⟩, fun i hi => ?_⟩
  obtain ⟨g, cur, y, e, hh, hc⟩ := x.cell i hi
  refine ⟨g, cur, y, e, ?_, hc⟩
  rw [h.block g (Array.getElem?_eq_some_iff.1 hh).1 (fun a ha => hA a _ ha e)]
  exact hh
theorem Rw.ext {w w1 : World} (h : Ext w w1) {base n : Nat} {A : Option Addr} (x : Rw w base A n) : Rw w1 base A n := by
  refine ⟨x.len, fun a ha => ⟨(x.addr a ha).1, Nat.lt_of_lt_of_le (x.addr a ha).2 h.size⟩, fun i hi => ?_⟩
  obtain ⟨g, cur, y, e, hh, hc⟩ := x.cell i hi
  exact ⟨g, cur, y, e, (h.block g (Array.getElem?_eq_some_iff.1 hh).1).trans hh, hc⟩
/-- The relation of a loop that counts a row up. -/
def Inc (W : World) (base : Nat) (A : Option Addr) (n : Nat) (v : Value) (wr : World) : Prop := ∃ i : Nat, i ≤ n ∧ v = .int .i64 i ∧ Rw wr base A n ∧ Kb A W wr

theorem Own.rdHere {w : World} {base : Nat} {A : Option Addr} {n c : Nat} {xs : List Nat} (h : Own w base (.slice A n c) xs) : n = xs.length ∧ Rd w A c xs := by
  obtain ⟨A1, c1, e, hr⟩ := h.rd
  injection e with e1 e2 e3
  subst e1 e3
  exact ⟨e2, hr⟩

/-! ### Value at any float -/
/-! ### Copy -/
end Go.Proofs.YtknafhogaheacaaDoor
