/- Slices of floats; package format: Floats. -/
import Derived.Test.YtgkojhhodncpbaaDoorF4
set_option linter.unusedVariables false
set_option linter.unusedSimpArgs false
namespace Go.Proofs.YtgkojhhodncpbaaDoor
open Go.RowKit
attribute [local go_sem ↓] Go.wp_at_zero Go.wp_at_succ

/-- A float among the arguments. -/
structure FA where
  k : Int
  neg : Bool
  e : Int
  A : Option Addr
  c : Nat
  xs : List Nat
abbrev FA.v (a : FA) : Value := flV a.k a.neg a.e (.slice a.A a.xs.length a.c)
def FA.can (a : FA) : Option Fl := canon a.k a.neg a.e (val a.xs)
/-- A slice of floats that is read. -/
structure FRd (w : World) (A : Option Addr) (c : Nat) (l : List FA) : Prop where
  cap : l.length ≤ c
  len : l.length ≤ 1000000
  cell : ∀ i (hi : i < l.length), ∃ ad, A = some ad ∧ w.cell? (ad.add (i * 4)) = some (.int .i64 l[i].k) ∧ w.cell? ⟨(ad.add (i * 4)).block, (ad.add (i * 4)).off + 1, none⟩ = some (.bool l[i].neg) ∧
    w.cell? ⟨(ad.add (i * 4)).block, (ad.add (i * 4)).off + 2, none⟩ = some (.int .i64 l[i].e) ∧ w.cell? ⟨(ad.add (i * 4)).block, (ad.add (i * 4)).off + 3, none⟩ = some (.slice l[i].A l[i].xs.length l[i].c) ∧ Rd w l[i].A l[i].c l[i].xs
theorem FRd.ext {w w' : World} {A : Option Addr} {c : Nat} {l : List FA} (h : FRd w A c l) (hb : Ext w w') : FRd w' A c l :=
  ⟨h.cap, h.len, fun i hi => by
    obtain ⟨ad, e, h0, h1, h2, h3, hr⟩ := h.cell i hi
    exact ⟨ad, e, hb.cell h0, hb.cell h1, hb.cell h2, hb.cell h3, hr.ext hb⟩⟩

/-- Floats in a row of the call's own. -/
structure OwnF (w : World) (base : Nat) (v : Value) (fs : List Fl) : Prop where
  own : ∃ us : List (Fl × Value), us.map (·.1) = fs ∧ w.ownsRow base 36 4 v fs.length (us.flatMap fun u => [.int .i64 u.1.kind, .bool u.1.neg, .int .i64 u.1.exp, u.2]) ∧ ∀ u ∈ us, Own w base u.2 (cn u.1.mag)
theorem OwnF.nil (w : World) (base : Nat) : OwnF w base (.slice none 0 0) [] := ⟨⟨[], rfl, World.ownsRow_nil _ _ _ _, by simp⟩⟩
theorem OwnF.ext {w w' : World} {base : Nat} {v : Value} {fs : List Fl} (h : OwnF w base v fs) (hb : Ext w w') : OwnF w' base v fs := by
  obtain ⟨us, e, ho, hu⟩ := h.own
  exact ⟨us, e, ho.kept (row := none) ⟨hb.os, hb.tape, hb.output, hb.size, fun i hi _ => hb.block i hi⟩ (by cases v.ownBlock <;> simp), fun u hm => (hu u hm).ext hb⟩
theorem ownsRow_low {w : World} {base b : Nat} {e : TypeId} {size n : Nat} {v : Value} {xs : List Value} (h : w.ownsRow base e size v n xs) (hb : b ≤ base) : w.ownsRow b e size v n xs := by
  obtain ⟨h0, h1⟩ := h
  refine ⟨h0, ?_⟩
  rcases h1 with h1 | ⟨g, cap, cur, r1, r2, r⟩
  · exact .inl h1
  · exact .inr ⟨g, cap, cur, r1, Nat.le_trans hb r2, r⟩
theorem OwnF.low {w : World} {base b : Nat} {v : Value} {fs : List Fl} (h : OwnF w base v fs) (hb : b ≤ base) : OwnF w b v fs := by
  obtain ⟨us, e, ho, hu⟩ := h.own
  exact ⟨us, e, ownsRow_low ho hb, fun u hm => (hu u hm).low hb⟩
/-- Words are kept where a row of floats is written. -/
theorem Own.keptF {w w' : World} {base b : Nat} {v u : Value} {xs : List Nat} {cs : List Value} {n : Nat} (h : Own w base u xs) (ho : w.ownsRow b 36 4 v n cs) (hg : w.grownBy w' v.ownBlock) : Own w' base u xs := by
  refine ⟨h.own.kept hg ?_, h.w64⟩
  rcases h.own.2 with ⟨e, _⟩ | ⟨g, cap, cur, e, _, hh, _⟩
  · left; rw [e]; rfl
  · right
    intro he
    rw [e] at he
    simp only [Value.ownBlock] at he
    rcases ho.2 with ⟨e2, _⟩ | ⟨g2, cap2, cur2, e2, _, hh2, _⟩
    · rw [e2] at he; simp [Value.ownBlock] at he
    · rw [e2] at he
      simp only [Value.ownBlock, Option.some.injEq] at he
      subst he
      rw [hh] at hh2
      injection hh2 with hh2
      injection hh2 with _ ht
      exact absurd ht (by decide)
theorem fl_flat (us : List (Fl × Value)) (i : Nat) (hi : i < us.length) (j : Nat) (hj : j < 4) :
    (us.flatMap fun u => [Value.int .i64 u.1.kind, .bool u.1.neg, .int .i64 u.1.exp, u.2])[i * 4 + j]? = ([.int .i64 us[i].1.kind, .bool us[i].1.neg, .int .i64 us[i].1.exp, us[i].2] : List Value)[j]? := by
  induction us generalizing i with
  | nil => simp at hi
  | cons u us ih =>
    cases i with
    | zero => simp only [List.flatMap_cons, Nat.zero_mul, Nat.zero_add, List.getElem_cons_zero]; rw [List.getElem?_append_left (by simpa using hj)]
    | succ i =>
      simp only [List.flatMap_cons, List.getElem_cons_succ]
      rw [List.getElem?_append_right (by simp; omega), show (i + 1) * 4 + j - [Value.int IntKind.i64 u.1.kind, Value.bool u.1.neg, Value.int IntKind.i64 u.1.exp, u.2].length = i * 4 + j by simp; omega]
      exact ih i (by simpa using hi)
/-- The elements of a row of floats, as a slice that is read. -/
theorem OwnF.rd {w : World} {base : Nat} {v : Value} {fs : List Fl} (h : OwnF w base v fs) : ∃ A c, v = .slice A fs.length c ∧ fs.length ≤ c ∧
    ∀ i (hi : i < fs.length), ∃ g A1 c1, A = some ⟨g, 0, none⟩ ∧ w.cell? ⟨g, i * 4, none⟩ = some (.int .i64 fs[i].kind) ∧ w.cell? ⟨g, i * 4 + 1, none⟩ = some (.bool fs[i].neg) ∧ w.cell? ⟨g, i * 4 + 2, none⟩ = some (.int .i64 fs[i].exp) ∧
      w.cell? ⟨g, i * 4 + 3, none⟩ = some (.slice A1 (cn fs[i].mag).length c1) ∧ Rd w A1 c1 (cn fs[i].mag) ∧ Own w base (.slice A1 (cn fs[i].mag).length c1) (cn fs[i].mag) := by
  obtain ⟨us, e, ho, hu⟩ := h.own
  subst e
  rcases ho.2 with ⟨e2, hn⟩ | ⟨g, cap, cur, e2, hb, hh, hnc, hcm, hcs, htk⟩
  · exact ⟨none, 0, by rw [e2, hn], by omega, fun i hi => absurd hi (by omega)⟩
  · refine ⟨_, cap, e2, hnc, fun i hi => ?_⟩
    rw [List.length_map] at hi
    have hm : us[i] ∈ us := List.getElem_mem hi
    obtain ⟨A1, c1, ev, hr⟩ := (hu _ hm).rd
    have hcell : ∀ j, j < 4 → w.cell? ⟨g, i * 4 + j, none⟩ = ([.int .i64 us[i].1.kind, .bool us[i].1.neg, .int .i64 us[i].1.exp, us[i].2] : List Value)[j]? := by
      intro j hj
      rw [cell_of_row w g _ _ _ _ hh, ← Array.getElem?_toList]
      have h1 : (cur.toList.take ((us.map (·.1)).length * 4))[i * 4 + j]? = cur.toList[i * 4 + j]? := List.getElem?_take_of_lt (by rw [List.length_map]; omega)
      rw [← h1, htk]
      exact fl_flat us i hi j hj
    refine ⟨g, A1, c1, rfl, ?_, ?_, ?_, ?_, ?_, ?_⟩
    · have := hcell 0 (by omega); simpa using this
    · have := hcell 1 (by omega); simpa using this
    · have := hcell 2 (by omega); simpa using this
    · have := hcell 3 (by omega); simp only [List.getElem_map]; rw [this]; simp [ev]
    · simpa using hr
    · rw [List.getElem_map, ← ev]; exact hu _ hm
theorem infoF : (Tryd.prog.info? 36).map (fun i => (i.zero, i.size, i.bytes)) = some (some (.agg #[.int .i64 0, .bool false, .int .i64 0, .slice none 0 0]), 4, 48) := by kernel_rfl
section
variable {ops : Array Oper} {rest : List Oper} {o : Oper} {a : Act} {Q : Exit → Act → World → Prop} {w : World}
/-- 'append(s, x)' of one float. -/
theorem wp_appendF (hg : o.guard = none) (s x : Operand) (t : TypeId) (hop : o.op = .call { callee := .builtin .append, args := #[s, x], argTypes := #[t, t] }) (ht : Tryd.prog.underlying t = some (.slice 36))
    (base : Nat) (v : Value) (fs : List Fl) (hs : a.eval s = v) (hown : OwnF w base v fs) (g c : Nat) (f : Fl) (u : Value) (hx : a.eval x = .slice (some ⟨g, 0, none⟩) 1 c) (hbx : Bx w g (.int .i64 f.kind) (.bool f.neg) (.int .i64 f.exp) u) (hu : Own w base u (cn f.mag))
    (hb : base ≤ w.heap.size) (hl : fs.length ≤ 1000000)
    (hK : ∀ v' w', OwnF w' base v' (fs ++ [f]) → Below base w w' → wpList Tryd.prog ops Q rest (a.put o.dst v') w') :
    wpList Tryd.prog ops Q (o :: rest) a w := by
  obtain ⟨i, h2, h3, h4, h5⟩ := info_parts infoF
  obtain ⟨us, e, ho, hus⟩ := hown.own
  have hu1 : u.oneCell' = true := by obtain ⟨A1, c1, rfl, _⟩ := hu.rd; rfl
  obtain ⟨c0, c1, c2, c3, -⟩ := hbx.facts
  obtain ⟨v', w', r1, r2, r3, _, _⟩ := run_append_own_at (P := Tryd.prog) w base t o.type 36 i _ 4 48 ht h2 h3 h4 h5 rfl (by omega) v fs.length _ ho ⟨g, 0, none⟩ 1 c [.int .i64 f.kind, .bool f.neg, .int .i64 f.exp, u] rfl
    (fun j y hy => by
      rw [add_zero']
      match j, hy with
      | 0, hy => obtain rfl := Option.some.inj hy; exact c0
      | 1, hy => obtain rfl := Option.some.inj hy; exact c1
      | 2, hy => obtain rfl := Option.some.inj hy; exact c2
      | 3, hy => obtain rfl := Option.some.inj hy; exact c3
      | j + 4, hy => simp at hy)
    (fun y hy => by
      simp only [List.mem_cons, List.not_mem_nil, or_false] at hy
      rcases hy with rfl | rfl | rfl | rfl
      · rfl
      · rfl
      · rfl
      · exact hu1) (by simp only [maxLen]; omega) (by omega) hb
  refine wpList_plain hg fun K hK' => ?_
  unfold Oper.wp execOp
  simp only [hop, resolve, invoke, builtin, Sem.run_bind, Sem.run_pure, Result.andThen_ok, List.map_toArray, List.map_cons, List.map_nil, hs, hx, r1]
  refine hK' _ _ (hK v' w' ⟨us ++ [(f, u)], by simp [e], ?_, fun y hy => ?_⟩ ((Below.refl base w).grown r3 hb fun k hk => (ho.lt k hk).1))
  · simpa using r2
  · rcases List.mem_append.1 hy with h | h
    · exact (hus y h).keptF ho r3
    · simp only [List.mem_singleton] at h
      subst h
      exact hu.keptF ho r3
end
end Go.Proofs.YtgkojhhodncpbaaDoor
