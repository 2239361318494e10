/- Words for memory: a slice of words that is read, a block that the call itself made, a result in new memory. A region whose order is open, whose operations read and whose callees make new memory only and hand back numbers: one walk in the text's order. -/
import Derived.Test.YtlnfmngginihfaaGreatDoorProg
import Derived.Test.YtlnfmngginihfaaGreatDoorM1
import Derived.Below
import Derived.Deep.Draws
import Derived.Deep.AppendLies
import Derived.Maps.AppendAt
import Derived.OwnWalk
import Derived.Laws.MakeOwn
import Derived.Laws.OwnMore
import Derived.Tactics
import Derived.Laws.Slices
import Derived.WalkKit
import Derived.KernelRfl
import Derived.RowKit3
import Derived.Deep.LoopGhost
import Derived.Deep.QuietTactic
import Derived.BigQuiet
import Derived.Deep.DeepCutAuto
import Derived.Deep.RegionHeld3
import Derived.Laws.Rows
import Derived.Laws.Externs
import Derived.WalkSpells
import Derived.WalkLawsBesides
import Derived.Outline
import Derived.Deep.DeepMust
import Derived.Lib.Hide
set_option linter.unusedVariables false
set_option linter.unusedSimpArgs false
namespace Go.Proofs.YtlnfmngginihfaaGreatDoor
open Go.RowKit

/-! ### worlds -/
/-- What there was in w is there in w', unchanged. -/
abbrev Ext (w w' : World) : Prop := Below w.heap.size w w'
theorem Ext.refl (w : World) : Ext w w := Below.refl _ _
theorem Ext.tr {w w1 w2 : World} (h : Ext w w1) (k : Ext w1 w2) : Ext w w2 := Below.trans h (k.mono h.size)
theorem Ext.drew {w w1 : World} (h : Ext w w1) : Ext w w1.drew := Below.drew h
theorem Ext.drewN {w w1 : World} (h : Ext w w1) (n : Nat) : Ext w (w1.drewN n) := ⟨h.os, h.tape, h.output, h.size, h.block⟩
theorem Ext.al {w w1 : World} (h : Ext w w1) (o : Obj) : Ext w (w1.alloc o) := h.alloc h.size o
theorem Ext.set {w w1 : World} (h : Ext w w1) {g : Nat} (hg : w.heap.size ≤ g) (i : Nat) (u : Value) : Ext w (w1.setCell ⟨g, i, none⟩ u) := Below.setCell h hg u
theorem Ext.cell {w w1 : World} (h : Ext w w1) {a : Addr} {v : Value} (hc : w.cell? a = some v) : w1.cell? a = some v := (Below.cell h (World.block_lt_of_cell? w a hc)).trans hc

/-- Behind a call: old cells read as they did (for the walk: rules). -/
theorem Ext.rules {w w1 : World} (h : Ext w w1) : (∀ b o, b < w.heap.size → w1.cell? ⟨b, o, none⟩ = w.cell? ⟨b, o, none⟩) ∧ (∀ b o, b < w.heap.size → w1.frozen? ⟨b, o, none⟩ = w.frozen? ⟨b, o, none⟩) :=
  ⟨fun b o hb => Below.cell (p := ⟨b, o, none⟩) h hb, fun b o hb => Below.frozen (p := ⟨b, o, none⟩) h hb⟩

/-! ### a slice of words that is read -/
structure Rd (w : World) (A : Option Addr) (c : Nat) (xs : List Nat) : Prop where
  cap : xs.length ≤ c
  len : xs.length ≤ 9223372036854775807
  w64 : W64 xs
  cell : ∀ i, i < xs.length → ∃ ad, A = some ad ∧ w.cell? (ad.add i) = some (.int .u64 (xs.getD i 0 : Nat))
theorem Rd.ext {w w' : World} {A : Option Addr} {c : Nat} {xs : List Nat} (h : Rd w A c xs) (hb : Ext w w') : Rd w' A c xs :=
  ⟨h.cap, h.len, h.w64, fun i hi => by
    obtain ⟨ad, e, hc⟩ := h.cell i hi
    exact ⟨ad, e, hb.cell hc⟩⟩
theorem Rd.nil (w : World) (A : Option Addr) (c : Nat) : Rd w A c [] := ⟨by simp, by simp, W64.nil, by simp⟩
theorem Rd.drew {w : World} {A : Option Addr} {c : Nat} {xs : List Nat} (h : Rd w A c xs) : Rd w.drew A c xs := h.ext (Ext.refl w).drew
theorem Rd.drewN {w : World} {A : Option Addr} {c : Nat} {xs : List Nat} (h : Rd w A c xs) (n : Nat) : Rd (w.drewN n) A c xs := h.ext ((Ext.refl w).drewN n)
theorem Rd.take {w : World} {A : Option Addr} {c : Nat} {xs : List Nat} (h : Rd w A c xs) (k : Nat) (hk : k ≤ xs.length) {c' : Nat} (hc : k ≤ c') : Rd w A c' (xs.take k) := by
  have hl : (xs.take k).length = k := by rw [List.length_take]; omega
  refine ⟨by omega, by have := h.len; omega, h.w64.take k, fun i hi => ?_⟩
  obtain ⟨ad, e, hc⟩ := h.cell i (by omega)
  refine ⟨ad, e, ?_⟩
  rw [List.getD_eq_getElem?_getD, List.getElem?_take_of_lt (by omega), ← List.getD_eq_getElem?_getD]
  exact hc
theorem add_add' (a : Addr) (i j : Nat) : (a.add i).add j = a.add (i + j) := by
  unfold Addr.add
  by_cases hi : i = 0 <;> by_cases hj : j = 0 <;> simp [hi, hj, Nat.add_assoc]
theorem add_zero' (g j : Nat) : (⟨g, 0, none⟩ : Addr).add j = ⟨g, j, none⟩ := by unfold Addr.add; split <;> simp_all
theorem Rd.drop {w : World} {ad : Addr} {c : Nat} {xs : List Nat} (h : Rd w (some ad) c xs) (k : Nat) : Rd w (some (ad.add k)) (c - k) (xs.drop k) := by
  refine ⟨by have := h.cap; rw [List.length_drop]; omega, by have := h.len; rw [List.length_drop]; omega, h.w64.drop k, fun i hi => ?_⟩
  rw [List.length_drop] at hi
  obtain ⟨ad', e, hc⟩ := h.cell (k + i) (by omega)
  obtain rfl := Option.some.inj e
  refine ⟨_, rfl, ?_⟩
  rw [add_add', List.getD_eq_getElem?_getD, List.getElem?_drop, ← List.getD_eq_getElem?_getD]
  exact hc
theorem Rd.addr {w : World} {A : Option Addr} {c : Nat} {xs : List Nat} (h : Rd w A c xs) (hp : 0 < xs.length) : ∃ ad, A = some ad := by
  obtain ⟨ad, e, _⟩ := h.cell 0 hp
  exact ⟨ad, e⟩
/-- The cells of a read slice, its address known. -/
theorem Rd.get {w : World} {ad : Addr} {c : Nat} {xs : List Nat} (h : Rd w (some ad) c xs) (i : Nat) (hi : i < xs.length) : w.cell? (ad.add i) = some (.int .u64 (xs.getD i 0 : Nat)) := by
  obtain ⟨ad', e, hc⟩ := h.cell i hi
  obtain rfl := Option.some.inj e
  exact hc

/-! ### a block of words that the call itself made -/
def enc (xs : List Nat) : List Value := xs.map fun x : Nat => Value.int .u64 (x : Int)
theorem enc_len (xs : List Nat) : (enc xs).length = xs.length := by simp [enc]
theorem enc_get (xs : List Nat) (i : Nat) (hi : i < xs.length) : (enc xs)[i]? = some (.int .u64 (xs.getD i 0 : Nat)) := by
  simp [enc, List.getElem?_eq_getElem hi, List.getD_eq_getElem?_getD]
theorem enc_one (xs : List Nat) : ∀ u ∈ enc xs, u.oneCell' = true := by
  intro u hu
  obtain ⟨x, _, rfl⟩ := List.mem_map.1 hu
  rfl
structure Bk (w : World) (g : Nat) (xs : List Nat) : Prop where
  h : w.heap[g]? = some (.cells (enc xs).toArray 45 (0, 0))
  w64 : W64 xs
section
variable {w w' : World} {g : Nat} {xs : List Nat}
theorem Bk.lt (b : Bk w g xs) : g < w.heap.size := (Array.getElem?_eq_some_iff.1 b.h).1
theorem Bk.cell (b : Bk w g xs) (i : Nat) (hi : i < xs.length) : w.cell? ⟨g, i, none⟩ = some (.int .u64 (xs.getD i 0 : Nat)) := by
  rw [cell_of_row w g i _ _ _ b.h, List.getElem?_toArray, enc_get xs i hi]
theorem Bk.frozen (b : Bk w g xs) (i : Nat) : w.frozen? ⟨g, i, none⟩ = false := by
  have h := b.h
  simp [World.frozen?, h]
theorem Bk.ext (b : Bk w g xs) (h : Ext w w') : Bk w' g xs := ⟨(h.block g b.lt).trans b.h, b.w64⟩
theorem Bk.drew (b : Bk w g xs) : Bk w.drew g xs := ⟨b.h, b.w64⟩
theorem Bk.drewN (b : Bk w g xs) (n : Nat) : Bk (w.drewN n) g xs := ⟨b.h, b.w64⟩
theorem Bk.al (b : Bk w g xs) (o : Obj) : Bk (w.alloc o) g xs := b.ext ((Ext.refl w).al o)
theorem Bk.set (b : Bk w g xs) (i v : Nat) (hv : v < B) : Bk (w.setCell ⟨g, i, none⟩ (.int .u64 (v : Int))) g (xs.set i v) := by
  refine ⟨?_, b.w64.set i hv⟩
  have h := b.h
  simp [World.setCell, Array.getElem?_modify, h, enc, List.map_set]
theorem Bk.far (b : Bk w g xs) {p : Addr} (hp : g ≠ p.block) (u : Value) : Bk (w.setCell p u) g xs := ⟨(Below.heap_setCell w p u g hp).trans b.h, b.w64⟩
theorem Bk.rd (b : Bk w g xs) (hl : xs.length ≤ 9223372036854775807) {c : Nat} (hc : xs.length ≤ c) : Rd w (some ⟨g, 0, none⟩) c xs :=
  ⟨hc, hl, b.w64, fun i hi => ⟨_, rfl, by rw [add_zero']; exact b.cell i hi⟩⟩
end

/-! ### a row of the call's own: what a call hands back in new memory -/
structure Own (w : World) (base : Nat) (v : Value) (xs : List Nat) : Prop where
  own : w.ownsRow base 45 1 v xs.length (enc xs)
  w64 : W64 xs
section
variable {w w' : World} {base : Nat} {v : Value} {xs : List Nat}
theorem Own.rd (h : Own w base v xs) : ∃ A c, v = .slice A xs.length c ∧ Rd w A c xs := by
  obtain ⟨h0, h1⟩ := h.own
  rcases h1 with ⟨rfl, hn⟩ | ⟨g, cap, cur, rfl, hb, hh, h1, h2, h3, h4⟩
  · exact ⟨none, 0, by rw [hn], by omega, by omega, h.w64, fun i hi => absurd hi (by omega)⟩
  · simp only [maxLen] at h2
    refine ⟨_, cap, rfl, h1, by omega, h.w64, fun i hi => ⟨_, rfl, ?_⟩⟩
    rw [add_zero', cell_of_row w g i _ _ _ hh]
    have e := enc_get xs i hi
    rw [← h4, List.getElem?_take_of_lt (by omega)] at e
    simpa using e
theorem Own.nil (w : World) (base : Nat) : Own w base (.slice none 0 0) [] := ⟨by simpa [enc] using World.ownsRow_nil w base 45 1, W64.nil⟩
theorem Own.ext (h : Own w base v xs) (hb : Ext w w') : Own w' base v xs := by
  refine ⟨h.own.kept (row := none) ⟨hb.os, hb.tape, hb.output, hb.size, fun i hi _ => hb.block i hi⟩ (by cases v.ownBlock <;> simp), h.w64⟩
theorem Own.low (h : Own w base v xs) {b : Nat} (hb : b ≤ base) : Own w b v xs := by
  obtain ⟨⟨h0, h1⟩, h2⟩ := h
  refine ⟨⟨h0, ?_⟩, h2⟩
  rcases h1 with h1 | ⟨g, cap, cur, r1, r2, r⟩
  · exact .inl h1
  · exact .inr ⟨g, cap, cur, r1, Nat.le_trans hb r2, r⟩
theorem Bk.own {g : Nat} (b : Bk w g xs) (hb : base ≤ g) (hl : xs.length ≤ 9223372036854775807) : Own w base (.slice (some ⟨g, 0, none⟩) xs.length xs.length) xs :=
  ⟨⟨by simp [enc], .inr ⟨g, xs.length, (enc xs).toArray, rfl, hb, b.h, Nat.le_refl _, by simp only [maxLen]; omega, by simp [enc], by rw [Nat.mul_one, ← enc_len xs]; exact List.take_length⟩⟩, b.w64⟩
/-- What a call hands back: a row of words in new memory; nothing that there was has changed. -/
def Res (w : World) (xs : List Nat) (e : Ending) (w' : World) : Prop := ∃ v, e = .returned v ∧ Own w' w.heap.size v xs ∧ Ext w w'
end

theorem info64 : (Tryz.prog.info? 45).map (fun i => (i.zero, i.size, i.bytes)) = some (some (.int .u64 0), 1, 8) := by kernel_rfl

section
variable {ops : Array Oper} {rest : List Oper} {o : Oper} {a : Act} {Q : Exit → Act → World → Prop} {w : World}
/-- 'make([]uint64, n)': a new block of zeros. -/
theorem wp_make (hg : o.guard = none) (l c : Operand) (t : TypeId) (hop : o.op = Op.makeSlice t l c) (ht : Tryz.prog.underlying t = some (.slice 45)) (n : Nat) (N : Int) (hl : a.eval l = .int .i64 N) (hc : a.eval c = .int .i64 N) (hN : N = (n : Int))
    (hn : n ≤ 1099511627776) (hK : ∀ g w', w.heap.size ≤ g → Bk w' g (List.replicate n 0) → Ext w w' → wpList Tryz.prog ops Q rest (a.put o.dst (.slice (some ⟨g, 0, none⟩) n n)) w') :
    wpList Tryz.prog ops Q (o :: rest) a w := by
  obtain ⟨i, h2, h3, h4, h5⟩ := info_parts info64
  have key : ∃ w', (Instr.makeSlice t (.int .i64 (n : Int)) (.int .i64 (n : Int))).run Tryz.prog w = .ok (.slice (some ⟨w.heap.size, 0, none⟩) n n) w' ∧ Bk w' w.heap.size (List.replicate n 0) ∧ Ext w w' := by
    have hr := run_make (P := Tryz.prog) w t 45 i _ ht h2 h3 .i64 .i64 n n (by omega) (Int.le_refl _) (by rw [h5]; omega) (by omega)
    simp only [Int.toNat_natCast] at hr
    refine ⟨_, hr, ⟨?_, ?_⟩, (Ext.refl w).al _⟩
    · rw [heap_alloc_new, h4, Nat.mul_one]
      refine congrArg (fun cs => some (Obj.cells cs 45 (0, 0))) ?_
      apply Array.toList_inj.1
      rw [show (Value.int IntKind.u64 0).cells = #[Value.int IntKind.u64 0] from rfl, toList_madeCells_one]
      simp [enc]
    · intro x hx
      rw [List.eq_of_mem_replicate hx]
      exact B_pos
  obtain ⟨w', hrun, r1, r2⟩ := key
  subst hN
  refine wpList_plain hg fun K hK' => ?_
  unfold Oper.wp
  simp [execOp, hop, hl, hc, hrun, Result.andThen]
  exact hK' _ _ (hK _ _ (Nat.le_refl _) r1 r2)
/-- 'append(s, x...)' onto a row of the call's own. -/
theorem wp_append (hg : o.guard = none) (s x : Operand) (t : TypeId) (hop : o.op = .call { callee := .builtin .append, args := #[s, x], argTypes := #[t, t] }) (ht : Tryz.prog.underlying t = some (.slice 45))
    (base : Nat) (v : Value) (xs : List Nat) (hs : a.eval s = v) (hown : Own w base v xs) (A : Option Addr) (n c : Nat) (ys : List Nat) (hn : ys.length = n) (hx : a.eval x = .slice A n c) (hr : Rd w A c ys)
    (hb : base ≤ w.heap.size) (hl : xs.length + ys.length ≤ 1099511627776)
    (hK : ∀ v' w', Own w' base v' (xs ++ ys) → Below base w w' → (∀ k, v'.ownBlock = some k → v.ownBlock = some k ∨ w.heap.size ≤ k) → w.grownBy w' v.ownBlock → wpList Tryz.prog ops Q rest (a.put o.dst v') w') :
    wpList Tryz.prog ops Q (o :: rest) a w := by
  obtain ⟨i, h2, h3, h4, h5⟩ := info_parts info64
  subst hn
  have key : ∃ v' w', (Builtin.append_ #[t, t] o.type #[v, .slice A ys.length c]).run Tryz.prog w = .ok v' w' ∧ Own w' base v' (xs ++ ys) ∧ w.grownBy w' v.ownBlock ∧ (v'.ownBlock = v.ownBlock ∨ v'.ownBlock = some w.heap.size) := by
    cases A with
    | none =>
      have e : ys = [] := by
        rcases Nat.eq_zero_or_pos ys.length with h0 | h0
        · exact List.eq_nil_of_length_eq_zero h0
        · obtain ⟨ad, h⟩ := hr.addr h0; cases h
      subst e
      refine ⟨v, w, ?_, by simpa using hown, World.grownBy.refl w _, .inl rfl⟩
      rcases hown.own.2 with ⟨rfl, he⟩ | ⟨g, cap, cur, rfl, _, _, hnc, _⟩
      · simp [Builtin.append_, run_underlying ht, sizeOf, typeInfo, h2, Builtin.lenOf, Builtin.firstCells]
      · simp [Builtin.append_, run_underlying ht, sizeOf, typeInfo, h2, Builtin.lenOf, Builtin.firstCells, hnc, storeCells]
    | some ad =>
      obtain ⟨v', w', r1, r2, r3, _, r5⟩ := run_append_own_at (P := Tryz.prog) w base t o.type 45 i _ 1 8 ht h2 h3 h4 h5 rfl (by omega) v xs.length (enc xs) hown.own ad ys.length c (enc ys) (by simp [enc])
        (fun j u hu => by
          have hj : j < ys.length := by have := (List.getElem?_eq_some_iff.1 hu).1; rwa [enc_len] at this
          rw [enc_get ys j hj] at hu
          rw [← hu]; exact hr.get j hj) (enc_one ys) (by simp only [maxLen]; omega) (by omega) hb
      exact ⟨v', w', r1, ⟨by rw [List.length_append]; simpa [enc] using r2, hown.w64.append hr.w64⟩, r3, r5⟩
  obtain ⟨v', w', r1, r2, r3, r4⟩ := key
  refine wpList_plain hg fun K hK' => ?_
  unfold Oper.wp execOp
  simp only [hop, resolve, invoke, builtin, Sem.run_bind, Sem.run_pure, Result.andThen_ok, List.map_toArray, List.map_cons, List.map_nil, hs, hx, r1]
  refine hK' _ _ (hK v' w' r2 ((Below.refl base w).grown r3 hb fun k hk => (hown.own.lt k hk).1) (fun k hk => ?_) r3)
  rcases r4 with e | e
  · exact .inl (e ▸ hk)
  · rw [e] at hk; obtain rfl := Option.some.inj hk; exact .inr (Nat.le_refl _)
end

/-! ### sums and differences with a carry: the machine's own -/
theorem run_a64 (x y c : Nat) (hc : c ≤ 1) (w : World) : (callFunc 68 #[.int .u64 x, .int .u64 y, .int .u64 c]).run Tryz.prog w =
    .ok (.value (.tuple #[.int .u64 (((x + y + c) % B : Nat) : Int), .int .u64 (((x + y + c) / B : Nat) : Int)])) w := by
  rw [run_callFunc_extern Tryz.func68 (by kernel_rfl) (by kernel_rfl) (by kernel_rfl) (e := add64Entry) (by kernel_rfl), run_add64 x y c (by omega) (by omega) (by omega) (by omega)]
  simp only [Result.andThen, B_eq]
  congr 5 <;> omega
def sub64E : Array Value → Sem Value := fun args => do
  let (x, y, b) ← Extern.MathBitsCarry.three "Sub64" args
  pure (Extern.MathBitsCarry.pair ((x + Extern.MathBitsCarry.m64 - y - b) % Extern.MathBitsCarry.m64) (if x < y + b then 1 else 0))
theorem run_sub64E (x y b : Nat) (hb : b ≤ 1) (w : World) : (sub64E #[.int .u64 x, .int .u64 y, .int .u64 b]).run Tryz.prog w =
    .ok (.tuple #[.int .u64 (((x + B - y - b) % B : Nat) : Int), .int .u64 ((if x < y + b then 1 else 0 : Nat) : Int)]) w := by
  have : b = 0 ∨ b = 1 := by omega
  rcases this with rfl | rfl <;> rfl
theorem run_s64 (x y b : Nat) (hb : b ≤ 1) (w : World) : (callFunc 71 #[.int .u64 x, .int .u64 y, .int .u64 b]).run Tryz.prog w =
    .ok (.value (.tuple #[.int .u64 (((x + B - y - b) % B : Nat) : Int), .int .u64 ((brw x y b : Nat) : Int)])) w := by
  rw [run_callFunc_extern Tryz.func71 (by kernel_rfl) (by kernel_rfl) (by kernel_rfl) (e := sub64E) (by kernel_rfl), run_sub64E x y b hb]
  rfl
end Go.Proofs.YtlnfmngginihfaaGreatDoor
namespace Go.Proofs.YtlnfmngginihfaaGreatDoor
open Go.RowKit

/-- A later world. -/
structure Later (w : World) where
  v : World
  h : Ext w v
instance later_some (w : World) : Nonempty (Later w) := ⟨⟨w, Ext.refl w⟩⟩
theorem wp_region_later {id : Nat} {Q : Exit → Act → World → Prop} {a : Act} {w : World} {l : List Oper} (hm : Tryz.prog.follows .mixedOrders = true) (hB : Region.lexB .any l.toArray = true)
    (h : wpQuiet Tryz.prog l.toArray (fun w' => ∃ i : Later w, w' = i.v) (fun a' => ∀ w', (∃ i : Later w, w' = i.v) → Q .normal a' w') l a) : (Code.region id l.toArray true).wp Tryz.prog Q a w :=
  wp_region_quiet (C := fun w' => ∃ i : Later w, w' = i.v) hm hB ⟨⟨w.drew, (Ext.refl w).drew⟩, rfl⟩ (by simpa using h)
theorem Calls.later {f : FuncId} {args : Array Value} {w : World} {i : Later w} {v : Value} (h : Calls Tryz.prog f args i.v fun e w' => e = .returned v ∧ Ext i.v w') : Calls Tryz.prog f args i.v fun e w' => e = .returned v ∧ ∃ j : Later w, w' = j.v :=
  h.mono fun _ w' ⟨he, hb⟩ => ⟨he, ⟨w', i.h.tr hb⟩, rfl⟩
theorem Calls.later_same {f : FuncId} {args : Array Value} {w : World} {i : Later w} {v : Value} (h : Calls Tryz.prog f args i.v fun e w' => e = .returned v ∧ i.v = w') : Calls Tryz.prog f args i.v fun e w' => e = .returned v ∧ ∃ j : Later w, w' = j.v :=
  h.mono fun _ _ ⟨he, hb⟩ => ⟨he, i, hb.symm⟩
theorem Later.cell {w : World} {a : Addr} {v : Value} (hc : w.cell? a = some v) : ∀ i : Later w, i.v.cell? a = some v := fun i => i.h.cell hc
end Go.Proofs.YtlnfmngginihfaaGreatDoor
