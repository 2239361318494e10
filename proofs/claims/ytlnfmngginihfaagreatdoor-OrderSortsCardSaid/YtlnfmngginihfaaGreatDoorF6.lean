/- Slices of floats; package format: Floats. package format: Floats. -/
import Derived.Test.YtlnfmngginihfaaGreatDoorF4
set_option linter.unusedVariables false
set_option linter.unusedSimpArgs false
namespace Go.Proofs.YtlnfmngginihfaaGreatDoor
open Go.RowKit
attribute [local go_sem ↓] Go.wp_at_zero Go.wp_at_succ

/-- A float among the arguments. -/
structure FA where
  k : Int
  neg : Bool
  e : Int
  A : Option Addr
  c : Nat
  xs : List Nat
abbrev FA.v (a : FA) : Value := flV a.k a.neg a.e (.slice a.A a.xs.length a.c)
def FA.can (a : FA) : Option Fl := canon a.k a.neg a.e (val a.xs)
/-- A slice of floats that is read. -/
structure FRd (w : World) (A : Option Addr) (c : Nat) (l : List FA) : Prop where
  cap : l.length ≤ c
  len : l.length ≤ 1000000
  cell : ∀ i (hi : i < l.length), ∃ ad, A = some ad ∧ w.cell? (ad.add (i * 4)) = some (.int .i64 l[i].k) ∧ w.cell? ⟨(ad.add (i * 4)).block, (ad.add (i * 4)).off + 1, none⟩ = some (.bool l[i].neg) ∧
    w.cell? ⟨(ad.add (i * 4)).block, (ad.add (i * 4)).off + 2, none⟩ = some (.int .i64 l[i].e) ∧ w.cell? ⟨(ad.add (i * 4)).block, (ad.add (i * 4)).off + 3, none⟩ = some (.slice l[i].A l[i].xs.length l[i].c) ∧ Rd w l[i].A l[i].c l[i].xs
theorem FRd.ext {w w' : World} {A : Option Addr} {c : Nat} {l : List FA} (h : FRd w A c l) (hb : Ext w w') : FRd w' A c l :=
  ⟨h.cap, h.len, fun i hi => by
    obtain ⟨ad, e, h0, h1, h2, h3, hr⟩ := h.cell i hi
    exact ⟨ad, e, hb.cell h0, hb.cell h1, hb.cell h2, hb.cell h3, hr.ext hb⟩⟩

/-- Floats in a row of the call's own. -/
structure OwnF (w : World) (base : Nat) (v : Value) (fs : List Fl) : Prop where
  own : ∃ us : List (Fl × Value), us.map (·.1) = fs ∧ w.ownsRow base 40 4 v fs.length (us.flatMap fun u => [.int .i64 u.1.kind, .bool u.1.neg, .int .i64 u.1.exp, u.2]) ∧ ∀ u ∈ us, Own w base u.2 (cn u.1.mag)
theorem OwnF.nil (w : World) (base : Nat) : OwnF w base (.slice none 0 0) [] := ⟨⟨[], rfl, World.ownsRow_nil _ _ _ _, by simp⟩⟩
theorem OwnF.ext {w w' : World} {base : Nat} {v : Value} {fs : List Fl} (h : OwnF w base v fs) (hb : Ext w w') : OwnF w' base v fs := by
  obtain ⟨us, e, ho, hu⟩ := h.own
  exact ⟨us, e, ho.kept (row := none) ⟨hb.os, hb.tape, hb.output, hb.size, fun i hi _ => hb.block i hi⟩ (by cases v.ownBlock <;> simp), fun u hm => (hu u hm).ext hb⟩
theorem ownsRow_low {w : World} {base b : Nat} {e : TypeId} {size n : Nat} {v : Value} {xs : List Value} (h : w.ownsRow base e size v n xs) (hb : b ≤ base) : w.ownsRow b e size v n xs := by
  obtain ⟨h0, h1⟩ := h
  refine ⟨h0, ?_⟩
  rcases h1 with h1 | ⟨g, cap, cur, r1, r2, r⟩
  · exact .inl h1
  · exact .inr ⟨g, cap, cur, r1, Nat.le_trans hb r2, r⟩
theorem OwnF.low {w : World} {base b : Nat} {v : Value} {fs : List Fl} (h : OwnF w base v fs) (hb : b ≤ base) : OwnF w b v fs := by
  obtain ⟨us, e, ho, hu⟩ := h.own
  exact ⟨us, e, ownsRow_low ho hb, fun u hm => (hu u hm).low hb⟩
/-- Words are kept where a row of floats is written. -/
theorem Own.keptF {w w' : World} {base b : Nat} {v u : Value} {xs : List Nat} {cs : List Value} {n : Nat} (h : Own w base u xs) (ho : w.ownsRow b 40 4 v n cs) (hg : w.grownBy w' v.ownBlock) : Own w' base u xs := by
  refine ⟨h.own.kept hg ?_, h.w64⟩
  rcases h.own.2 with ⟨e, _⟩ | ⟨g, cap, cur, e, _, hh, _⟩
  · left; rw [e]; rfl
  · right
    intro he
    rw [e] at he
    simp only [Value.ownBlock] at he
    rcases ho.2 with ⟨e2, _⟩ | ⟨g2, cap2, cur2, e2, _, hh2, _⟩
    · rw [e2] at he; simp [Value.ownBlock] at he
    · rw [e2] at he
      simp only [Value.ownBlock, Option.some.injEq] at he
      subst he
      rw [hh] at hh2
      injection hh2 with hh2
      injection hh2 with _ ht
      exact absurd ht (by decide)
theorem fl_flat (us : List (Fl × Value)) (i : Nat) (hi : i < us.length) (j : Nat) (hj : j < 4) :
    (us.flatMap fun u => [Value.int .i64 u.1.kind, .bool u.1.neg, .int .i64 u.1.exp, u.2])[i * 4 + j]? = ([.int .i64 us[i].1.kind, .bool us[i].1.neg, .int .i64 us[i].1.exp, us[i].2] : List Value)[j]? := by
  induction us generalizing i with
  | nil => simp at hi
  | cons u us ih =>
    cases i with
    | zero => simp only [List.flatMap_cons, Nat.zero_mul, Nat.zero_add, List.getElem_cons_zero]; rw [List.getElem?_append_left (by simpa using hj)]
    | succ i =>
      simp only [List.flatMap_cons, List.getElem_cons_succ]
      rw [List.getElem?_append_right (by simp; omega), show (i + 1) * 4 + j - [Value.int IntKind.i64 u.1.kind, Value.bool u.1.neg, Value.int IntKind.i64 u.1.exp, u.2].length = i * 4 + j by simp; omega]
      exact ih i (by simpa using hi)
/-- The elements of a row of floats, as a slice that is read. -/
theorem OwnF.rd {w : World} {base : Nat} {v : Value} {fs : List Fl} (h : OwnF w base v fs) : ∃ A c, v = .slice A fs.length c ∧ fs.length ≤ c ∧
    ∀ i (hi : i < fs.length), ∃ g A1 c1, A = some ⟨g, 0, none⟩ ∧ w.cell? ⟨g, i * 4, none⟩ = some (.int .i64 fs[i].kind) ∧ w.cell? ⟨g, i * 4 + 1, none⟩ = some (.bool fs[i].neg) ∧ w.cell? ⟨g, i * 4 + 2, none⟩ = some (.int .i64 fs[i].exp) ∧
      w.cell? ⟨g, i * 4 + 3, none⟩ = some (.slice A1 (cn fs[i].mag).length c1) ∧ Rd w A1 c1 (cn fs[i].mag) ∧ Own w base (.slice A1 (cn fs[i].mag).length c1) (cn fs[i].mag) := by
  obtain ⟨us, e, ho, hu⟩ := h.own
  subst e
  rcases ho.2 with ⟨e2, hn⟩ | ⟨g, cap, cur, e2, hb, hh, hnc, hcm, hcs, htk⟩
  · exact ⟨none, 0, by rw [e2, hn], by omega, fun i hi => absurd hi (by omega)⟩
  · refine ⟨_, cap, e2, hnc, fun i hi => ?_⟩
    rw [List.length_map] at hi
    have hm : us[i] ∈ us := List.getElem_mem hi
    obtain ⟨A1, c1, ev, hr⟩ := (hu _ hm).rd
    have hcell : ∀ j, j < 4 → w.cell? ⟨g, i * 4 + j, none⟩ = ([.int .i64 us[i].1.kind, .bool us[i].1.neg, .int .i64 us[i].1.exp, us[i].2] : List Value)[j]? := by
      intro j hj
      rw [cell_of_row w g _ _ _ _ hh, ← Array.getElem?_toList]
      have h1 : (cur.toList.take ((us.map (·.1)).length * 4))[i * 4 + j]? = cur.toList[i * 4 + j]? := List.getElem?_take_of_lt (by rw [List.length_map]; omega)
      rw [← h1, htk]
      exact fl_flat us i hi j hj
    refine ⟨g, A1, c1, rfl, ?_, ?_, ?_, ?_, ?_, ?_⟩
    · have := hcell 0 (by omega); simpa using this
    · have := hcell 1 (by omega); simpa using this
    · have := hcell 2 (by omega); simpa using this
    · have := hcell 3 (by omega); simp only [List.getElem_map]; rw [this]; simp [ev]
    · simpa using hr
    · rw [List.getElem_map, ← ev]; exact hu _ hm
theorem infoF : (Tryz.prog.info? 40).map (fun i => (i.zero, i.size, i.bytes)) = some (some (.agg #[.int .i64 0, .bool false, .int .i64 0, .slice none 0 0]), 4, 48) := by kernel_rfl
section
variable {ops : Array Oper} {rest : List Oper} {o : Oper} {a : Act} {Q : Exit → Act → World → Prop} {w : World}
/-- 'append(s, x)' of one float. -/
theorem wp_appendF (hg : o.guard = none) (s x : Operand) (t : TypeId) (hop : o.op = .call { callee := .builtin .append, args := #[s, x], argTypes := #[t, t] }) (ht : Tryz.prog.underlying t = some (.slice 40))
    (base : Nat) (v : Value) (fs : List Fl) (hs : a.eval s = v) (hown : OwnF w base v fs) (g c : Nat) (f : Fl) (u : Value) (hx : a.eval x = .slice (some ⟨g, 0, none⟩) 1 c) (hbx : Bx w g (.int .i64 f.kind) (.bool f.neg) (.int .i64 f.exp) u) (hu : Own w base u (cn f.mag))
    (hb : base ≤ w.heap.size) (hl : fs.length ≤ 1000000)
    (hK : ∀ v' w', OwnF w' base v' (fs ++ [f]) → Below base w w' → wpList Tryz.prog ops Q rest (a.put o.dst v') w') :
    wpList Tryz.prog ops Q (o :: rest) a w := by
  obtain ⟨i, h2, h3, h4, h5⟩ := info_parts infoF
  obtain ⟨us, e, ho, hus⟩ := hown.own
  have hu1 : u.oneCell' = true := by obtain ⟨A1, c1, rfl, _⟩ := hu.rd; rfl
  obtain ⟨c0, c1, c2, c3, -⟩ := hbx.facts
  obtain ⟨v', w', r1, r2, r3, _, _⟩ := run_append_own_at (P := Tryz.prog) w base t o.type 40 i _ 4 48 ht h2 h3 h4 h5 rfl (by omega) v fs.length _ ho ⟨g, 0, none⟩ 1 c [.int .i64 f.kind, .bool f.neg, .int .i64 f.exp, u] rfl
    (fun j y hy => by
      rw [add_zero']
      match j, hy with
      | 0, hy => obtain rfl := Option.some.inj hy; exact c0
      | 1, hy => obtain rfl := Option.some.inj hy; exact c1
      | 2, hy => obtain rfl := Option.some.inj hy; exact c2
      | 3, hy => obtain rfl := Option.some.inj hy; exact c3
      | j + 4, hy => simp at hy)
    (fun y hy => by
      simp only [List.mem_cons, List.not_mem_nil, or_false] at hy
      rcases hy with rfl | rfl | rfl | rfl
      · rfl
      · rfl
      · rfl
      · exact hu1) (by simp only [maxLen]; omega) (by omega) hb
  refine wpList_plain hg fun K hK' => ?_
  unfold Oper.wp execOp
  simp only [hop, resolve, invoke, builtin, Sem.run_bind, Sem.run_pure, Result.andThen_ok, List.map_toArray, List.map_cons, List.map_nil, hs, hx, r1]
  refine hK' _ _ (hK v' w' ⟨us ++ [(f, u)], by simp [e], ?_, fun y hy => ?_⟩ ((Below.refl base w).grown r3 hb fun k hk => (ho.lt k hk).1))
  · simpa using r2
  · rcases List.mem_append.1 hy with h | h
    · exact (hus y h).keptF ho r3
    · simp only [List.mem_singleton] at h
      subst h
      exact hu.keptF ho r3
end
end Go.Proofs.YtlnfmngginihfaaGreatDoor
namespace Go.Proofs.YtlnfmngginihfaaGreatDoor
open Go.RowKit
attribute [local go_sem ↓] Go.wp_at_zero Go.wp_at_succ

/-- What Floats hands back: the error, and the canonical floats. -/
def FlsS (k p : Int) (l : List FA) : Int × List Fl :=
  if l.any (fun a => decide (4096 < a.xs.length)) = true then (2, []) else if Rgt k p then (match l.mapM (fun a => holdS k p a.can) with | some fs => (0, fs) | none => (151, [])) else (150, [])
def FlsR (w : World) (r : Int × List Fl) (e : Ending) (w' : World) : Prop := ∃ v, e = .returned (.tuple #[v, .int .i64 r.1]) ∧ OwnF w' w.heap.size v r.2 ∧ Ext w w'
theorem any_of_large {l : List FA} (i : Nat) (hi : i < l.length) (h : 4096 < l[i].xs.length) : l.any (fun a => decide (4096 < a.xs.length)) = true :=
  List.any_eq_true.2 ⟨l[i], List.getElem_mem hi, by simpa using h⟩
theorem any_of_small {l : List FA} (h : ∀ j (hj : j < l.length), ¬ 4096 < l[j].xs.length) : l.any (fun a => decide (4096 < a.xs.length)) = false := by
  rw [Bool.eq_false_iff]
  intro he
  obtain ⟨a, ha, h2⟩ := List.any_eq_true.1 he
  obtain ⟨j, hj, rfl⟩ := List.mem_iff_getElem.1 ha
  exact h j hj (by simpa using h2)
theorem mapM_step {α β : Type} (f : α → Option β) (l : List α) (i : Nat) (hi : i < l.length) : (l.take (i + 1)).mapM f = ((l.take i).mapM f).bind fun fs => (f l[i]).bind fun b => some (fs ++ [b]) := by
  rw [List.take_succ_eq_append_getElem hi, List.mapM_append]
  simp only [List.mapM_cons, List.mapM_nil]
  cases (l.take i).mapM f with
  | none => rfl
  | some fs => cases f l[i] <;> rfl
theorem mapM_none {α β : Type} (f : α → Option β) (l : List α) (i : Nat) (hi : i < l.length) (h : f l[i] = none) : l.mapM f = none := by
  induction l generalizing i with
  | nil => simp at hi
  | cons a l ih =>
    rw [List.mapM_cons]
    cases i with
    | zero => rw [show f a = none from h]; rfl
    | succ i =>
      cases f a with
      | none => rfl
      | some b =>
        show (l.mapM f).bind _ = none
        rw [ih i (by simpa using hi) h]; rfl
/-- Floats' first loop. -/
def Fl1 (w : World) (k p : Int) (l : List FA) (v16 : Value) (wr : World) : Prop := ∃ i : Nat, i ≤ l.length ∧ v16 = .int .i64 i ∧ (∀ j (hj : j < l.length), j < i → ¬ 4096 < l[j].xs.length) ∧ Ext w wr ∧ Bf wr w.heap.size (.int .i64 k) (.int .i64 p)
def Fl2 (w : World) (k p : Int) (l : List FA) (v9 v30 : Value) (wr : World) : Prop := ∃ (i : Nat) (fs : List Fl), i ≤ l.length ∧ v30 = .int .i64 i ∧ (l.take i).mapM (fun a => holdS k p a.can) = some fs ∧ fs.length = i ∧ OwnF wr (w.heap.size + 1) v9 fs ∧ Ext w wr ∧ Bf wr w.heap.size (.int .i64 k) (.int .i64 p)
set_option maxHeartbeats 4000000 in
set_option maxRecDepth 100000 in
theorem floats_c (k p : Int) (A : Option Addr) (c : Nat) (l : List FA) (w : World) (hT : Tab w) (h : FRd w A c l) :
    Calls Tryz.prog 24 #[.agg #[.int .i64 k, .int .i64 p], .slice A l.length c] w (FlsR w (FlsS k p l)) := by
  have hll := h.len
  have hxF := Bf.new w (.int .i64 k) (.int .i64 p)
  have hE := (Ext.refl w).al (Obj.cells #[Value.int IntKind.i64 k, Value.int IntKind.i64 p] 23)
  have HXF := Lib.hid hxF
  have HE := Lib.hid hE
  clear hxF hE
  go_enter Tryz.func24, Tryz.ntmps24
  go_wp2
  go_loopw [16] (fun v16 wr => Fl1 w k p l v16 wr) (fun v _ => l.length - (intOf v).toNat)
  case atStart => exact ⟨0, Nat.zero_le _, rfl, fun j _ hj => absurd hj (by omega), HE.out, HXF.out⟩
  case round =>
    clear HXF HE
    obtain ⟨i, hi, rfl, hsm, hE, hF⟩ := hrel
    have HSM := Lib.hid hsm
    clear hsm
    by_cases hlt : i < l.length
    · obtain ⟨ad, rfl, h0, h1, h2, h3, hr⟩ := h.cell i hlt
      replace h0 := hE.cell h0
      replace h1 := hE.cell h1
      replace h2 := hE.cell h2
      replace h3 := hE.cell h3
      have hidx : ((i : Int) * 4).toNat = i * 4 := by omega
      have hlg := fun w => large_c l[i].k l[i].e l[i].neg l[i].A l[i].xs.length l[i].c w
      by_cases hbig : 4096 < l[i].xs.length
      · have hS : FlsS k p l = (2, []) := by unfold FlsS; rw [if_pos (any_of_large i hlt hbig)]
        have HS := Lib.hid hS
        rw [show decide (4096 < l[i].xs.length) = true by simpa using hbig] at hlg
        clear hS hbig
        go_wp2_with (go_at_call 40; refine (hlg _).mono ?_; rintro e w2 ⟨rfl, hb2⟩)
        go_ret2
        exact ⟨_, by rw [HS.out]; rfl, by rw [HS.out]; exact OwnF.nil _ _, (hE.al _).tr hb2⟩
      · have hsm : ∀ j (hj : j < l.length), j < i + 1 → ¬ 4096 < l[j].xs.length := fun j hj hji => by
          rcases Nat.lt_or_ge j i with h4 | h4
          · exact HSM.out j hj h4
          · have e : j = i := by omega
            subst e; exact hbig
        have HSM2 := Lib.hid hsm
        rw [show decide (4096 < l[i].xs.length) = false by simpa using hbig] at hlg
        clear hsm hbig
        go_wp2_with (go_at_call 40; refine (hlg _).mono ?_; rintro e w2 ⟨rfl, hb2⟩)
        go_roundw
        case rel => exact ⟨i + 1, hlt, by go_num, HSM2.out, (hE.al _).tr hb2, (hF.ext ((Ext.refl _).al _)).ext hb2⟩
        case measure => simp [intOf]; omega
    · obtain rfl : i = l.length := by omega
      have hany := any_of_small (l := l) (fun j hj => HSM.out j hj hj)
      have HANY := Lib.hid hany
      obtain ⟨f0, f1⟩ := hF.facts
      have hc := fun w => check_c k p w
      clear hany
      by_cases hR : Rgt k p
      · rw [fmtE_yes hR] at hc
        have HR := Lib.hid hR
        clear hR
        go_wp2_with (go_at_call 41; refine (hc _).mono ?_; rintro e w2 ⟨rfl, hb2⟩)
        have hE2 := Lib.hid (hE.tr hb2)
        have hF2 := Lib.hid (hF.ext hb2)
        clear hE hF f0 f1 hb2
        go_loopw [9, 30] (fun v9 v30 wr => Fl2 w k p l v9 v30 wr) (fun _ v _ => l.length - (intOf v).toNat)
        case atStart => exact ⟨0, [], Nat.zero_le _, rfl, rfl, rfl, OwnF.nil _ _, hE2.out, hF2.out⟩
        case round =>
          clear hE2 hF2
          obtain ⟨i, fs, hi, rfl, hfs, hlen, hown, hE, hF⟩ := hrel
          have HFS := Lib.hid hfs
          have HLEN := Lib.hid hlen
          clear hfs hlen
          by_cases hlt : i < l.length
          · obtain ⟨ad, rfl, h0, h1, h2, h3, hr⟩ := h.cell i hlt
            replace h0 := hE.cell h0
            replace h1 := hE.cell h1
            replace h2 := hE.cell h2
            replace h3 := hE.cell h3
            have hidx : ((i : Int) * 4).toNat = i * 4 := by omega
            have hsml := HSM.out i hlt hlt
            have hh := fun (w : World) (hT : Tab w) (hr : Rd w l[i].A l[i].c l[i].xs) => holds_c k p HR.out l[i].k l[i].neg l[i].e l[i].A l[i].c l[i].xs w hT hr (by omega)
            obtain ⟨f0, f1⟩ := hF.facts
            have hlt0 := hF.lt
            obtain ⟨o, ho⟩ : ∃ o, holdS k p l[i].can = o := ⟨_, rfl⟩
            have HO := Lib.hid ho
            rw [show holdS k p (canon l[i].k l[i].neg l[i].e (val l[i].xs)) = o from ho] at hh
            clear ho
            cases o with
            | none =>
              have hS : FlsS k p l = (151, []) := by
                unfold FlsS; rw [HANY.out]; simp only [Bool.false_eq_true, if_false]
                rw [if_pos HR.out, mapM_none _ l i hlt HO.out]
              have HS := Lib.hid hS
              clear hS
              go_wp2_with (go_at_call 42; refine (hh _ (hT.ext (hE.al _)) (hr.ext (hE.al _))).mono ?_; rintro e w2 ⟨u, rfl, hb2, -, k1, n1, e1, A1, l1, c1, rfl⟩; simp only [Option.isSome])
              have hE3 := (hE.al _).tr hb2
              go_ret2
              exact ⟨_, by rw [HS.out]; rfl, by rw [HS.out]; exact OwnF.nil _ _, (by repeat (with_reducible first | exact hE3 | refine Ext.set ?_ (by omega) _ _ | refine Ext.al ?_ _ | refine Ext.drewN ?_ _ | refine Ext.drew ?_))⟩
            | some f =>
              have hstep : (l.take (i + 1)).mapM (fun a => holdS k p a.can) = some (fs ++ [f]) := by
                rw [mapM_step _ _ _ hlt, HFS.out, HO.out]; rfl
              have HSTEP := Lib.hid hstep
              clear hstep
              have hfl : fs.length ≤ 1000000 := by rw [HLEN.out]; omega
              go_wp2_with (first
                | (go_at_call 42; refine (hh _ (hT.ext (hE.al _)) (hr.ext (hE.al _))).mono ?_; rintro e w2 ⟨u, rfl, hb2, hfr, -⟩; obtain ⟨uu, rfl, hou⟩ := hfr _ rfl; obtain ⟨A1, c1, rfl, -⟩ := hou.rd; have hE3 := (hE.al _).tr hb2; have hz := hb2.size; simp only [World.size_alloc] at hz; simp only [Option.isSome])
                | (at_builtin; refine wp_appendF rfl _ _ _ rfl Tryz.underlying24 (w.heap.size + 1) _ fs rfl ((((hown.ext ((Ext.refl _).al _)).ext hb2).ext ((Ext.refl _).al _)).ext ((Ext.refl _).al _)) (w2.heap.size + 1) 1 f _ rfl (by have := Bx.new (w2.alloc (Obj.cells #[Value.int IntKind.i64 f.kind, Value.bool f.neg, Value.int IntKind.i64 f.exp, Value.slice A1 (cn f.mag).length c1] 40)) (.int .i64 f.kind) (.bool f.neg) (.int .i64 f.exp) (.slice A1 (cn f.mag).length c1); simpa using this) (((hou.low (by simp; omega)).ext ((Ext.refl _).al _)).ext ((Ext.refl _).al _)) (by simp; omega) hfl ?_; intro v' w' ho' hb'))
              have hE4 : Ext w w' := Below.trans ((hE3.al _).al _) (hb'.mono (by omega))
              have hF4 : Bf w' w.heap.size (.int .i64 k) (.int .i64 p) := by
                have h1 := (((hF.ext ((Ext.refl _).al _)).ext hb2).ext ((Ext.refl _).al (Obj.cells #[Value.int IntKind.i64 f.kind, Value.bool f.neg, Value.int IntKind.i64 f.exp, Value.slice A1 (cn f.mag).length c1] 40))).ext ((Ext.refl _).al (Obj.cells #[Value.int IntKind.i64 f.kind, Value.bool f.neg, Value.int IntKind.i64 f.exp, Value.slice A1 (cn f.mag).length c1] 40))
                exact ⟨(hb'.block w.heap.size (by omega)).trans h1.h⟩
              go_roundw
              case rel => exact ⟨i + 1, fs ++ [f], hlt, by go_num, HSTEP.out, by rw [List.length_append, HLEN.out]; rfl, ho', hE4, hF4⟩
              case measure => simp [intOf]; omega
          · obtain rfl : i = l.length := by omega
            have hS : FlsS k p l = (0, fs) := by
              unfold FlsS; rw [HANY.out]; simp only [Bool.false_eq_true, if_false]
              have := HFS.out
              rw [List.take_length] at this
              rw [if_pos HR.out, this]
            have HS := Lib.hid hS
            clear hS
            go_wp2
            go_ret2
            exact ⟨_, by rw [HS.out]; rfl, by rw [HS.out]; exact hown.low (by omega), hE⟩
      · rw [fmtE_no hR] at hc
        have hS : FlsS k p l = (150, []) := by unfold FlsS; rw [HANY.out]; simp only [Bool.false_eq_true, if_false]; rw [if_neg hR]
        have HS := Lib.hid hS
        clear hR hS
        go_wp2_with (go_at_call 41; refine (hc _).mono ?_; rintro e w2 ⟨rfl, hb2⟩)
        go_ret2
        exact ⟨_, by rw [HS.out]; rfl, by rw [HS.out]; exact OwnF.nil _ _, hE.tr hb2⟩
end Go.Proofs.YtlnfmngginihfaaGreatDoor
