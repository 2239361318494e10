/- FormatOwn: what writes into one row leave; Value at any float. -/
import Derived.Test.YtgkojhhodncpbaaDoorT4
import Derived.Test.YtgkojhhodncpbaaDoorF8
set_option linter.unusedVariables false
set_option linter.unusedSimpArgs false
namespace Go.Proofs.YtgkojhhodncpbaaDoor
open Go.RowKit
attribute [local go_sem ↓] Go.wp_at_zero Go.wp_at_succ

/-! ### a row that is counted up -/
/-- What there was is there, but for the block at A. -/
structure Kb (A : Option Addr) (w w' : World) : Prop where
  os : w'.os = w.os
  tape : w'.tape = w.tape
  output : w'.output = w.output
  size : w.heap.size ≤ w'.heap.size
  block : ∀ k, k < w.heap.size → (∀ a, A = some a → k ≠ a.block) → w'.heap[k]? = w.heap[k]?
theorem Kb.refl (A : Option Addr) (w : World) : Kb A w w := ⟨rfl, rfl, rfl, Nat.le_refl _, fun _ _ _ => rfl⟩
theorem Kb.set {A : Option Addr} {w w1 : World} (h : Kb A w w1) {p a : Addr} (hA : A = some a) (hp : a.block = p.block) (u : Value) : Kb A w (w1.setCell p u) :=
  ⟨h.os, h.tape, h.output, by have := h.size; simpa using this, fun k hk hn => by
    rw [Below.heap_setCell _ _ _ _ (by rw [← hp]; exact hn a hA)]
    exact h.block k hk hn⟩
theorem Kb.drewN {A : Option Addr} {w w1 : World} (h : Kb A w w1) (n : Nat) : Kb A w (w1.drewN n) := ⟨h.os, h.tape, h.output, h.size, h.block⟩
theorem Kb.drew {A : Option Addr} {w w1 : World} (h : Kb A w w1) : Kb A w w1.drew := ⟨h.os, h.tape, h.output, h.size, h.block⟩
/-- What lies below the block is kept. -/
theorem Kb.ext {A : Option Addr} {v w w1 : World} (h : Kb A w w1) (he : Ext v w) (hA : ∀ a, A = some a → v.heap.size ≤ a.block) : Ext v w1 :=
  ⟨h.os.trans he.os, h.tape.trans he.tape, h.output.trans he.output, Nat.le_trans he.size h.size, fun k hk => by
    rw [h.block k (Nat.lt_of_lt_of_le hk he.size) (fun a ha => by have := hA a ha; omega)]
    exact he.block k hk⟩
/-- A row above the block is kept. -/
theorem Kb.own {A : Option Addr} {w w1 : World} (h : Kb A w w1) {base : Nat} {v : Value} {xs : List Nat} (ho : Own w base v xs) (hA : ∀ a, A = some a → a.block < base) : Own w1 base v xs := by
  obtain ⟨⟨h0, h1⟩, h2⟩ := ho
  refine ⟨⟨h0, ?_⟩, h2⟩
  rcases h1 with h1 | ⟨g, cap, cur, r1, r2, r3, r⟩
  · exact .inl h1
  · refine .inr ⟨g, cap, cur, r1, r2, ?_, r⟩
    rw [h.block g (Array.getElem?_eq_some_iff.1 r3).1 (fun a ha => by have := hA a ha; omega)]
    exact r3
theorem Kb.bx {A : Option Addr} {w w1 : World} (h : Kb A w w1) {g : Nat} {a b c d : Value} (x : Bx w g a b c d) (hA : ∀ a, A = some a → g ≠ a.block) : Bx w1 g a b c d :=
  ⟨(h.block g (Array.getElem?_eq_some_iff.1 x.h).1 hA).trans x.h⟩
theorem Kb.bq {A : Option Addr} {w w1 : World} (h : Kb A w w1) {g : Nat} {a b c : Value} (x : Bq w g a b c) (hA : ∀ a, A = some a → g ≠ a.block) : Bq w1 g a b c :=
  ⟨(h.block g (Array.getElem?_eq_some_iff.1 x.h).1 hA).trans x.h⟩
theorem Kb.bf {A : Option Addr} {w w1 : World} (h : Kb A w w1) {g : Nat} {a b : Value} (x : Bf w g a b) (hA : ∀ a, A = some a → g ≠ a.block) : Bf w1 g a b :=
  ⟨(h.block g (Array.getElem?_eq_some_iff.1 x.h).1 hA).trans x.h⟩

/-- A row whose words nobody knows: it may be written. -/
structure Rw (w : World) (base : Nat) (A : Option Addr) (n : Nat) : Prop where
  len : n ≤ 9223372036854775807
  addr : ∀ a, A = some a → base ≤ a.block ∧ a.block < w.heap.size
  cell : ∀ i, i < n → ∃ (g : Nat) (cur : Array Value) (x : Int), A = some ⟨g, 0, none⟩ ∧ w.heap[g]? = some (.cells cur 70 (0, 0)) ∧ cur[i]? = some (.int .u64 x)
theorem Own.rw {w : World} {base : Nat} {A : Option Addr} {n c : Nat} {xs : List Nat} (h : Own w base (.slice A n c) xs) : Rw w base A n := by
  obtain ⟨h0, h1⟩ := h.own
  rcases h1 with ⟨e, hn⟩ | ⟨g, cap, cur, e, hb, hh, h1, h2, h3, h4⟩
  · injection e with e1 e2 e3
    subst e1 e2
    exact ⟨by omega, by simp, fun i hi => absurd hi (by omega)⟩
  · injection e with e1 e2 e3
    subst e1 e2
    simp only [maxLen] at h2
    refine ⟨by omega, ?_, ?_⟩
    · intro a ha
      obtain rfl := Option.some.inj ha
      exact ⟨hb, (Array.getElem?_eq_some_iff.1 hh).1⟩
    · intro i hi
      refine ⟨g, cur, ((xs.getD i 0 : Nat) : Int), rfl, hh, ?_⟩
      have e := enc_get xs i hi
      rw [← h4, List.getElem?_take_of_lt (by omega)] at e
      simpa using e
theorem Rw.get {w : World} {base : Nat} {A : Option Addr} {n : Nat} (h : Rw w base A n) (i : Nat) (hi : i < n) : ∃ (g : Nat) (x : Int), A = some ⟨g, 0, none⟩ ∧ w.cell? ⟨g, i, none⟩ = some (.int .u64 x) ∧ w.frozen? ⟨g, i, none⟩ = false := by
  obtain ⟨g, cur, x, e, hh, hc⟩ := h.cell i hi
  refine ⟨g, x, e, ?_, by simp [World.frozen?, hh]⟩
  rw [cell_of_row w g i _ _ _ hh, hc]
theorem Rw.set {w : World} {base : Nat} {g n : Nat} (h : Rw w base (some ⟨g, 0, none⟩) n) (i : Nat) (y : Int) : Rw (w.setCell ⟨g, i, none⟩ (.int .u64 y)) base (some ⟨g, 0, none⟩) n := by
  refine ⟨h.len, fun a ha => by have := h.addr a ha; simpa using this, fun j hj => ?_⟩
  obtain ⟨g', cur, x, e, hh, hc⟩ := h.cell j hj
  obtain rfl : g = g' := by injection e with e; injection e
  by_cases hji : j = i
  · subst hji
    have hlt : j < cur.size := (Array.getElem?_eq_some_iff.1 hc).1
    exact ⟨g, cur.setIfInBounds j (.int .u64 y), y, rfl, by simp [World.setCell, Array.getElem?_modify, hh], by simp [hlt]⟩
  · refine ⟨g, cur.setIfInBounds i (.int .u64 y), x, rfl, by simp [World.setCell, Array.getElem?_modify, hh], ?_⟩
    rw [Array.getElem?_setIfInBounds_ne (by omega)]
    exact hc
theorem Rw.drewN {w : World} {base : Nat} {A : Option Addr} {n : Nat} (h : Rw w base A n) (m : Nat) : Rw (w.drewN m) base A n := ⟨h.len, h.addr, h.cell⟩
theorem Rw.kb {A A' : Option Addr} {w w1 : World} (h : Kb A w w1) {base n : Nat} (x : Rw w base A' n) (hA : ∀ a a', A = some a → A' = some a' → a'.block ≠ a.block) : Rw w1 base A' n := by
  refine ⟨x.len, fun a ha => ⟨(x.addr a ha).1, Nat.lt_of_lt_of_le (x.addr a ha).2 h.size⟩, fun i hi => ?_⟩
  obtain ⟨g, cur, y, e, hh, hc⟩ := x.cell i hi
  refine ⟨g, cur, y, e, ?_, hc⟩
  rw [h.block g (Array.getElem?_eq_some_iff.1 hh).1 (fun a ha => hA a _ ha e)]
  exact hh
theorem Rw.ext {w w1 : World} (h : Ext w w1) {base n : Nat} {A : Option Addr} (x : Rw w base A n) : Rw w1 base A n := by
  refine ⟨x.len, fun a ha => ⟨(x.addr a ha).1, Nat.lt_of_lt_of_le (x.addr a ha).2 h.size⟩, fun i hi => ?_⟩
  obtain ⟨g, cur, y, e, hh, hc⟩ := x.cell i hi
  exact ⟨g, cur, y, e, (h.block g (Array.getElem?_eq_some_iff.1 hh).1).trans hh, hc⟩
/-- The relation of a loop that counts a row up. -/
def Inc (W : World) (base : Nat) (A : Option Addr) (n : Nat) (v : Value) (wr : World) : Prop := ∃ i : Nat, i ≤ n ∧ v = .int .i64 i ∧ Rw wr base A n ∧ Kb A W wr

theorem Own.rdHere {w : World} {base : Nat} {A : Option Addr} {n c : Nat} {xs : List Nat} (h : Own w base (.slice A n c) xs) : n = xs.length ∧ Rd w A c xs := by
  obtain ⟨A1, c1, e, hr⟩ := h.rd
  injection e with e1 e2 e3
  subst e1 e3
  exact ⟨e2, hr⟩

/-! ### Value at any float -/
theorem value_any (a : FA) (h64 : W64 a.xs) (hl : a.xs.length ≤ 40) : ∃ ec neg num den, ∀ w, Tab w → Rd w a.A a.c a.xs → Calls Tryd.prog 27 #[a.v] w (RatR w ec neg num den) := by
  have hl' : a.xs.length ≤ 10000000 := by omega
  cases hc : a.can with
  | none =>
    have h0 : capE a = 151 := by unfold capE; rw [if_neg (by omega), hc]; rfl
    have h1 : capF a = ⟨0, false, 0, 0⟩ := by unfold capF; rw [if_neg (by omega), hc]; rfl
    exact ⟨_, _, _, _, fun w hT h => value_err a w hT h hl' (by rw [h0]; decide) h1⟩
  | some f =>
    have h0 : capE a = 0 := by unfold capE; rw [if_neg (by omega), hc]; rfl
    have h1 : capF a = f := by unfold capF; rw [if_neg (by omega), hc]; rfl
    by_cases hk : f.kind = 0
    · exact ⟨_, _, _, _, fun w hT h => value_zero a f w hT h hl' h0 h1 hk⟩
    by_cases hk1 : f.kind = 1
    · have hok : f.Ok := canon_ok hc
      have hb := canon_fin_bl hc h64 (by omega)
      have hbd : -1048576 ≤ f.exp ∧ f.exp ≤ 1048576 ∧ bl f.mag ≤ 1000000 ∧ (cn f.mag).length ≤ 1000000 := ⟨hok.lo, hok.hi, by omega, by omega⟩
      cases hb1 : decide ((262144 : Int) < (f.exp.toNat : Int) + bl f.mag) with
      | true => exact ⟨_, _, _, _, fun w hT h => value_big a f w hT h hl' h0 h1 hk1 hbd (.inl hb1)⟩
      | false =>
        cases hb2 : decide ((262144 : Int) < -f.exp + 1) with
        | true => exact ⟨_, _, _, _, fun w hT h => value_big a f w hT h hl' h0 h1 hk1 hbd (.inr ⟨hb1, hb2⟩)⟩
        | false => exact ⟨_, _, _, _, fun w hT h => value_fin a f w hT h hl' h0 h1 hk1 hbd hb1 hb2⟩
    · exact ⟨_, _, _, _, fun w hT h => value_none a f w hT h hl' h0 h1 hk hk1⟩
/-! ### Copy -/
set_option maxHeartbeats 2000000 in
set_option maxRecDepth 100000 in
theorem copy_c (k e : Int) (neg : Bool) (A : Option Addr) (c : Nat) (xs : List Nat) (w : World) (h : Rd w A c xs) (hs : xs.length ≤ 1000000) :
    Calls Tryd.prog 36 #[flV k neg e (.slice A xs.length c)] w fun z w' => ∃ v, z = .returned (flV k neg e v) ∧ Own w' w.heap.size v xs ∧ Ext w w' := by
  have hX := Bx.new w (.int .i64 k) (.bool neg) (.int .i64 e) (.slice A xs.length c)
  have hY := Bx.new (w.alloc (.cells #[.int .i64 k, .bool neg, .int .i64 e, .slice A xs.length c] 36)) (.int .i64 0) (.bool false) (.int .i64 0) (.slice none 0 0)
  have hE := ((Ext.refl w).al (.cells #[.int .i64 k, .bool neg, .int .i64 e, .slice A xs.length c] 36)).al (.cells #[.int .i64 0, .bool false, .int .i64 0, .slice none 0 0] 36)
  rw [World.size_alloc] at hY
  replace hX := hX.ext ((Ext.refl _).al (.cells #[.int .i64 0, .bool false, .int .i64 0, .slice none 0 0] 36))
  have HX := Lib.hid hX
  have HY := Lib.hid hY
  have HE := Lib.hid hE
  clear hX hY hE
  go_enter Tryd.func36, Tryd.ntmps36
  go_wp2_with (at_builtin; refine wp_append rfl _ _ _ rfl Tryd.underlying34 (w.heap.size + 2) _ [] rfl (Own.nil _ _) A xs.length c xs rfl rfl (h.ext HE.out) ?hb ?hl ?_; (case hb => simp); (case hl => simp; omega); intro v' w1 ho hb1 hat hg; rw [List.nil_append] at ho; obtain ⟨A1, c1, rfl, hr1⟩ := ho.rd; have hX := HX.out.ext (hb1.mono (by simp)); have hY := HY.out.ext (hb1.mono (by simp)); have hE := HE.out.tr (hb1.mono (by simp)); clear hat hg hb1; obtain ⟨x0, x1, x2, x3, xf⟩ := hX.facts; have hlx := hX.lt; have hly := hY.lt; have hXs := hX.s3 (.slice A1 xs.length c1); have hYs := hY.far (p := ⟨w.heap.size, 3, none⟩) (by simp) (.slice A1 xs.length c1); obtain ⟨s0, s1, s2, s3, sf⟩ := hXs.facts; obtain ⟨t0, t1, t2, t3, tf⟩ := hYs.facts)
  have hYf := hYs.put (.int .i64 k) (.bool neg) (.int .i64 e) (.slice A1 xs.length c1)
  have hof := ((ho.setBelow (a := ⟨w.heap.size, 3, none⟩) (by simp) (.slice A1 xs.length c1)).putBelow (g := w.heap.size + 1) (by omega) (.int .i64 k) (.bool neg) (.int .i64 e) (.slice A1 xs.length c1)).low (b := w.heap.size) (by omega)
  have hef := (hE.set (g := w.heap.size) (Nat.le_refl _) 3 (.slice A1 xs.length c1)).put (g := w.heap.size + 1) (by omega) (.int .i64 k) (.bool neg) (.int .i64 e) (.slice A1 xs.length c1)
  obtain ⟨r0, r1, r2, r3, rf⟩ := hYf.facts
  refine bodyPost_ret (v := flV k neg e (.slice A1 xs.length c1)) (by simp [results, Tryd.results36, go_sem, r0, r1, r2, r3]) rfl ?_
  exact ⟨_, rfl, hof, hef⟩
end Go.Proofs.YtgkojhhodncpbaaDoor
