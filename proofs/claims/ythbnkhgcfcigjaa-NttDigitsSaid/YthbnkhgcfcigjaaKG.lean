/- Rows of residues: blocks, rows of a call's own, make, append (as for words). -/
import Derived.Test.YthbnkhgcfcigjaaB0
set_option linter.unusedVariables false
set_option linter.unusedSimpArgs false
namespace Go.Proofs.Ythbnkhgcfcigjaa.Rs
open Go.RowKit Go.Proofs.Ythbnkhgcfcigjaa

structure Bk (w : World) (g : Nat) (xs : List Nat) : Prop where
  h : w.heap[g]? = some (.cells (enc xs).toArray 59 (0, 0))
  w64 : W64 xs
section
variable {w w' : World} {g : Nat} {xs : List Nat}
theorem Bk.lt (b : Bk w g xs) : g < w.heap.size := (Array.getElem?_eq_some_iff.1 b.h).1
theorem Bk.cell (b : Bk w g xs) (i : Nat) (hi : i < xs.length) : w.cell? ⟨g, i, none⟩ = some (.int .u64 (xs.getD i 0 : Nat)) := by
  rw [cell_of_row w g i _ _ _ b.h, List.getElem?_toArray, enc_get xs i hi]
theorem Bk.frozen (b : Bk w g xs) (i : Nat) : w.frozen? ⟨g, i, none⟩ = false := by
  have h := b.h
  simp [World.frozen?, h]
theorem Bk.ext (b : Bk w g xs) (h : Ext w w') : Bk w' g xs := ⟨(h.block g b.lt).trans b.h, b.w64⟩
theorem Bk.drew (b : Bk w g xs) : Bk w.drew g xs := ⟨b.h, b.w64⟩
theorem Bk.drewN (b : Bk w g xs) (n : Nat) : Bk (w.drewN n) g xs := ⟨b.h, b.w64⟩
theorem Bk.al (b : Bk w g xs) (o : Obj) : Bk (w.alloc o) g xs := b.ext ((Ext.refl w).al o)
theorem Bk.set (b : Bk w g xs) (i v : Nat) (hv : v < B) : Bk (w.setCell ⟨g, i, none⟩ (.int .u64 (v : Int))) g (xs.set i v) := by
  refine ⟨?_, b.w64.set i hv⟩
  have h := b.h
  simp [World.setCell, Array.getElem?_modify, h, enc, List.map_set]
theorem Bk.far (b : Bk w g xs) {p : Addr} (hp : g ≠ p.block) (u : Value) : Bk (w.setCell p u) g xs := ⟨(Below.heap_setCell w p u g hp).trans b.h, b.w64⟩
theorem Bk.rd (b : Bk w g xs) (hl : xs.length ≤ 9223372036854775807) {c : Nat} (hc : xs.length ≤ c) : Rd w (some ⟨g, 0, none⟩) c xs :=
  ⟨hc, hl, b.w64, fun i hi => ⟨_, rfl, by rw [add_zero']; exact b.cell i hi⟩⟩
end

/-! ### a row of the call's own: what a call hands back in new memory -/
structure Own (w : World) (base : Nat) (v : Value) (xs : List Nat) : Prop where
  own : w.ownsRow base 59 1 v xs.length (enc xs)
  w64 : W64 xs
section
variable {w w' : World} {base : Nat} {v : Value} {xs : List Nat}
theorem Own.rd (h : Own w base v xs) : ∃ A c, v = .slice A xs.length c ∧ Rd w A c xs := by
  obtain ⟨h0, h1⟩ := h.own
  rcases h1 with ⟨rfl, hn⟩ | ⟨g, cap, cur, rfl, hb, hh, h1, h2, h3, h4⟩
  · exact ⟨none, 0, by rw [hn], by omega, by omega, h.w64, fun i hi => absurd hi (by omega)⟩
  · simp only [maxLen] at h2
    refine ⟨_, cap, rfl, h1, by omega, h.w64, fun i hi => ⟨_, rfl, ?_⟩⟩
    rw [add_zero', cell_of_row w g i _ _ _ hh]
    have e := enc_get xs i hi
    rw [← h4, List.getElem?_take_of_lt (by omega)] at e
    simpa using e
theorem Own.nil (w : World) (base : Nat) : Own w base (.slice none 0 0) [] := ⟨by simpa [enc] using World.ownsRow_nil w base 59 1, W64.nil⟩
theorem Own.ext (h : Own w base v xs) (hb : Ext w w') : Own w' base v xs := by
  refine ⟨h.own.kept (row := none) ⟨hb.os, hb.tape, hb.output, hb.size, fun i hi _ => hb.block i hi⟩ (by cases v.ownBlock <;> simp), h.w64⟩
theorem Own.low (h : Own w base v xs) {b : Nat} (hb : b ≤ base) : Own w b v xs := by
  obtain ⟨⟨h0, h1⟩, h2⟩ := h
  refine ⟨⟨h0, ?_⟩, h2⟩
  rcases h1 with h1 | ⟨g, cap, cur, r1, r2, r⟩
  · exact .inl h1
  · exact .inr ⟨g, cap, cur, r1, Nat.le_trans hb r2, r⟩
theorem Bk.own {g : Nat} (b : Bk w g xs) (hb : base ≤ g) (hl : xs.length ≤ 9223372036854775807) : Own w base (.slice (some ⟨g, 0, none⟩) xs.length xs.length) xs :=
  ⟨⟨by simp [enc], .inr ⟨g, xs.length, (enc xs).toArray, rfl, hb, b.h, Nat.le_refl _, by simp only [maxLen]; omega, by simp [enc], by rw [Nat.mul_one, ← enc_len xs]; exact List.take_length⟩⟩, b.w64⟩
/-- What a call hands back: a row of words in new memory; nothing that there was has changed. -/
def Res (w : World) (xs : List Nat) (e : Ending) (w' : World) : Prop := ∃ v, e = .returned v ∧ Own w' w.heap.size v xs ∧ Ext w w'
end

theorem info64 : (Try.prog.info? 59).map (fun i => (i.zero, i.size, i.bytes)) = some (some (.int .u64 0), 1, 8) := by kernel_rfl

section
variable {ops : Array Oper} {rest : List Oper} {o : Oper} {a : Act} {Q : Exit → Act → World → Prop} {w : World}
/-- 'make([]uint64, n)': a new block of zeros. -/
theorem wp_make (hg : o.guard = none) (l c : Operand) (t : TypeId) (hop : o.op = Op.makeSlice t l c) (ht : Try.prog.underlying t = some (.slice 59)) (n : Nat) (N : Int) (hl : a.eval l = .int .i64 N) (hc : a.eval c = .int .i64 N) (hN : N = (n : Int))
    (hn : n ≤ 1099511627776) (hK : ∀ g w', w.heap.size ≤ g → Bk w' g (List.replicate n 0) → Ext w w' → wpList Try.prog ops Q rest (a.put o.dst (.slice (some ⟨g, 0, none⟩) n n)) w') :
    wpList Try.prog ops Q (o :: rest) a w := by
  obtain ⟨i, h2, h3, h4, h5⟩ := info_parts info64
  have key : ∃ w', (Instr.makeSlice t (.int .i64 (n : Int)) (.int .i64 (n : Int))).run Try.prog w = .ok (.slice (some ⟨w.heap.size, 0, none⟩) n n) w' ∧ Bk w' w.heap.size (List.replicate n 0) ∧ Ext w w' := by
    have hr := run_make (P := Try.prog) w t 59 i _ ht h2 h3 .i64 .i64 n n (by omega) (Int.le_refl _) (by rw [h5]; omega) (by omega)
    simp only [Int.toNat_natCast] at hr
    refine ⟨_, hr, ⟨?_, ?_⟩, (Ext.refl w).al _⟩
    · rw [heap_alloc_new, h4, Nat.mul_one]
      refine congrArg (fun cs => some (Obj.cells cs 59 (0, 0))) ?_
      apply Array.toList_inj.1
      rw [show (Value.int IntKind.u64 0).cells = #[Value.int IntKind.u64 0] from rfl, toList_madeCells_one]
      simp [enc]
    · intro x hx
      rw [List.eq_of_mem_replicate hx]
      exact B_pos
  obtain ⟨w', hrun, r1, r2⟩ := key
  subst hN
  refine wpList_plain hg fun K hK' => ?_
  unfold Oper.wp
  simp [execOp, hop, hl, hc, hrun, Result.andThen]
  exact hK' _ _ (hK _ _ (Nat.le_refl _) r1 r2)
/-- 'append(s, x...)' onto a row of the call's own. -/
theorem wp_append (hg : o.guard = none) (s x : Operand) (t : TypeId) (hop : o.op = .call { callee := .builtin .append, args := #[s, x], argTypes := #[t, t] }) (ht : Try.prog.underlying t = some (.slice 59))
    (base : Nat) (v : Value) (xs : List Nat) (hs : a.eval s = v) (hown : Own w base v xs) (A : Option Addr) (n c : Nat) (ys : List Nat) (hn : ys.length = n) (hx : a.eval x = .slice A n c) (hr : Rd w A c ys)
    (hb : base ≤ w.heap.size) (hl : xs.length + ys.length ≤ 1099511627776)
    (hK : ∀ v' w', Own w' base v' (xs ++ ys) → Below base w w' → (∀ k, v'.ownBlock = some k → v.ownBlock = some k ∨ w.heap.size ≤ k) → w.grownBy w' v.ownBlock → wpList Try.prog ops Q rest (a.put o.dst v') w') :
    wpList Try.prog ops Q (o :: rest) a w := by
  obtain ⟨i, h2, h3, h4, h5⟩ := info_parts info64
  subst hn
  have key : ∃ v' w', (Builtin.append_ #[t, t] o.type #[v, .slice A ys.length c]).run Try.prog w = .ok v' w' ∧ Own w' base v' (xs ++ ys) ∧ w.grownBy w' v.ownBlock ∧ (v'.ownBlock = v.ownBlock ∨ v'.ownBlock = some w.heap.size) := by
    cases A with
    | none =>
      have e : ys = [] := by
        rcases Nat.eq_zero_or_pos ys.length with h0 | h0
        · exact List.eq_nil_of_length_eq_zero h0
        · obtain ⟨ad, h⟩ := hr.addr h0; cases h
      subst e
      refine ⟨v, w, ?_, by simpa using hown, World.grownBy.refl w _, .inl rfl⟩
      rcases hown.own.2 with ⟨rfl, he⟩ | ⟨g, cap, cur, rfl, _, _, hnc, _⟩
      · simp [Builtin.append_, run_underlying ht, sizeOf, typeInfo, h2, Builtin.lenOf, Builtin.firstCells]
      · simp [Builtin.append_, run_underlying ht, sizeOf, typeInfo, h2, Builtin.lenOf, Builtin.firstCells, hnc, storeCells]
    | some ad =>
      obtain ⟨v', w', r1, r2, r3, _, r5⟩ := run_append_own_at (P := Try.prog) w base t o.type 59 i _ 1 8 ht h2 h3 h4 h5 rfl (by omega) v xs.length (enc xs) hown.own ad ys.length c (enc ys) (by simp [enc])
        (fun j u hu => by
          have hj : j < ys.length := by have := (List.getElem?_eq_some_iff.1 hu).1; rwa [enc_len] at this
          rw [enc_get ys j hj] at hu
          rw [← hu]; exact hr.get j hj) (enc_one ys) (by simp only [maxLen]; omega) (by omega) hb
      exact ⟨v', w', r1, ⟨by rw [List.length_append]; simpa [enc] using r2, hown.w64.append hr.w64⟩, r3, r5⟩
  obtain ⟨v', w', r1, r2, r3, r4⟩ := key
  refine wpList_plain hg fun K hK' => ?_
  unfold Oper.wp execOp
  simp only [hop, resolve, invoke, builtin, Sem.run_bind, Sem.run_pure, Result.andThen_ok, List.map_toArray, List.map_cons, List.map_nil, hs, hx, r1]
  refine hK' _ _ (hK v' w' r2 ((Below.refl base w).grown r3 hb fun k hk => (hown.own.lt k hk).1) (fun k hk => ?_) r3)
  rcases r4 with e | e
  · exact .inl (e ▸ hk)
  · rw [e] at hk; obtain rfl := Option.some.inj hk; exact .inr (Nat.le_refl _)
end
/-- A row of no words with room for n. -/
theorem Bk.own0 {w : World} {g n base : Nat} (b : Bk w g (List.replicate n 0)) (hb : base ≤ g) (hl : n ≤ 9223372036854775807) : Own w base (.slice (some ⟨g, 0, none⟩) 0 n) [] :=
  ⟨⟨by simp [enc], .inr ⟨g, n, (enc (List.replicate n 0)).toArray, rfl, hb, b.h, Nat.zero_le _, by simp only [maxLen]; omega, by simp [enc], by simp [enc]⟩⟩, W64.nil⟩
section
variable {ops : Array Oper} {rest : List Oper} {o : Oper} {a : Act} {Q : Exit → Act → World → Prop} {w : World}
/-- 'make([]T, 0, n)'. -/
theorem wp_make0 (hg : o.guard = none) (l c : Operand) (t : TypeId) (hop : o.op = Op.makeSlice t l c) (ht : Try.prog.underlying t = some (.slice 59)) (n : Nat) (N : Int) (hl : a.eval l = .int .i64 0) (hc : a.eval c = .int .i64 N) (hN : N = (n : Int))
    (hn : n ≤ 1099511627776) (hK : ∀ v w', Own w' w.heap.size v [] → Ext w w' → wpList Try.prog ops Q rest (a.put o.dst v) w') :
    wpList Try.prog ops Q (o :: rest) a w := by
  obtain ⟨i, h2, h3, h4, h5⟩ := info_parts info64
  have key : ∃ w', (Instr.makeSlice t (.int .i64 0) (.int .i64 (n : Int))).run Try.prog w = .ok (.slice (some ⟨w.heap.size, 0, none⟩) 0 n) w' ∧ Bk w' w.heap.size (List.replicate n 0) ∧ Ext w w' := by
    have hr := run_make (P := Try.prog) w t 59 i _ ht h2 h3 .i64 .i64 0 n (by omega) (by omega) (by rw [h5]; omega) (by omega)
    simp only [Int.toNat_natCast, Int.toNat_zero] at hr
    refine ⟨_, hr, ⟨?_, ?_⟩, (Ext.refl w).al _⟩
    · rw [heap_alloc_new, h4, Nat.mul_one]
      refine congrArg (fun cs => some (Obj.cells cs 59 (0, 0))) ?_
      apply Array.toList_inj.1
      rw [show (Value.int IntKind.u64 0).cells = #[Value.int IntKind.u64 0] from rfl, toList_madeCells_one]
      simp [enc]
    · intro x hx
      rw [List.eq_of_mem_replicate hx]
      exact B_pos
  obtain ⟨w', hrun, r1, r2⟩ := key
  subst hN
  refine wpList_plain hg fun K hK' => ?_
  unfold Oper.wp
  simp [execOp, hop, hl, hc, hrun, Result.andThen]
  exact hK' _ _ (hK _ _ (r1.own0 (Nat.le_refl _) (by omega)) r2)
end
end Go.Proofs.Ythbnkhgcfcigjaa.Rs
namespace Go.Proofs.Ythbnkhgcfcigjaa
open Go.RowKit
/-- A row of no words with room for n. -/
theorem Bk.own0 {w : World} {g n base : Nat} (b : Bk w g (List.replicate n 0)) (hb : base ≤ g) (hl : n ≤ 9223372036854775807) : Own w base (.slice (some ⟨g, 0, none⟩) 0 n) [] :=
  ⟨⟨by simp [enc], .inr ⟨g, n, (enc (List.replicate n 0)).toArray, rfl, hb, b.h, Nat.zero_le _, by simp only [maxLen]; omega, by simp [enc], by simp [enc]⟩⟩, W64.nil⟩
section
variable {ops : Array Oper} {rest : List Oper} {o : Oper} {a : Act} {Q : Exit → Act → World → Prop} {w : World}
/-- 'make([]T, 0, n)'. -/
theorem wp_make0 (hg : o.guard = none) (l c : Operand) (t : TypeId) (hop : o.op = Op.makeSlice t l c) (ht : Try.prog.underlying t = some (.slice 22)) (n : Nat) (N : Int) (hl : a.eval l = .int .i64 0) (hc : a.eval c = .int .i64 N) (hN : N = (n : Int))
    (hn : n ≤ 1099511627776) (hK : ∀ v w', Own w' w.heap.size v [] → Ext w w' → wpList Try.prog ops Q rest (a.put o.dst v) w') :
    wpList Try.prog ops Q (o :: rest) a w := by
  obtain ⟨i, h2, h3, h4, h5⟩ := info_parts info64
  have key : ∃ w', (Instr.makeSlice t (.int .i64 0) (.int .i64 (n : Int))).run Try.prog w = .ok (.slice (some ⟨w.heap.size, 0, none⟩) 0 n) w' ∧ Bk w' w.heap.size (List.replicate n 0) ∧ Ext w w' := by
    have hr := run_make (P := Try.prog) w t 22 i _ ht h2 h3 .i64 .i64 0 n (by omega) (by omega) (by rw [h5]; omega) (by omega)
    simp only [Int.toNat_natCast, Int.toNat_zero] at hr
    refine ⟨_, hr, ⟨?_, ?_⟩, (Ext.refl w).al _⟩
    · rw [heap_alloc_new, h4, Nat.mul_one]
      refine congrArg (fun cs => some (Obj.cells cs 22 (0, 0))) ?_
      apply Array.toList_inj.1
      rw [show (Value.int IntKind.u64 0).cells = #[Value.int IntKind.u64 0] from rfl, toList_madeCells_one]
      simp [enc]
    · intro x hx
      rw [List.eq_of_mem_replicate hx]
      exact B_pos
  obtain ⟨w', hrun, r1, r2⟩ := key
  subst hN
  refine wpList_plain hg fun K hK' => ?_
  unfold Oper.wp
  simp [execOp, hop, hl, hc, hrun, Result.andThen]
  exact hK' _ _ (hK _ _ (r1.own0 (Nat.le_refl _) (by omega)) r2)
end
end Go.Proofs.Ythbnkhgcfcigjaa
