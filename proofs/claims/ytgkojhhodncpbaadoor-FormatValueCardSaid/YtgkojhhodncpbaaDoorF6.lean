/- package format: Floats. -/
import Derived.Test.YtgkojhhodncpbaaDoorF5
set_option linter.unusedVariables false
set_option linter.unusedSimpArgs false
namespace Go.Proofs.YtgkojhhodncpbaaDoor
open Go.RowKit
attribute [local go_sem ↓] Go.wp_at_zero Go.wp_at_succ

/-- What Floats hands back: the error, and the canonical floats. -/
def FlsS (k p : Int) (l : List FA) : Int × List Fl :=
  if l.any (fun a => decide (4096 < a.xs.length)) = true then (2, []) else if Rgt k p then (match l.mapM (fun a => holdS k p a.can) with | some fs => (0, fs) | none => (151, [])) else (150, [])
def FlsR (w : World) (r : Int × List Fl) (e : Ending) (w' : World) : Prop := ∃ v, e = .returned (.tuple #[v, .int .i64 r.1]) ∧ OwnF w' w.heap.size v r.2 ∧ Ext w w'
theorem any_of_large {l : List FA} (i : Nat) (hi : i < l.length) (h : 4096 < l[i].xs.length) : l.any (fun a => decide (4096 < a.xs.length)) = true :=
  List.any_eq_true.2 ⟨l[i], List.getElem_mem hi, by simpa using h⟩
theorem any_of_small {l : List FA} (h : ∀ j (hj : j < l.length), ¬ 4096 < l[j].xs.length) : l.any (fun a => decide (4096 < a.xs.length)) = false := by
  rw [Bool.eq_false_iff]
  intro he
  obtain ⟨a, ha, h2⟩ := List.any_eq_true.1 he
  obtain ⟨j, hj, rfl⟩ := List.mem_iff_getElem.1 ha
  exact h j hj (by simpa using h2)
theorem mapM_step {α β : Type} (f : α → Option β) (l : List α) (i : Nat) (hi : i < l.length) : (l.take (i + 1)).mapM f = ((l.take i).mapM f).bind fun fs => (f l[i]).bind fun b => some (fs ++ [b]) := by
  rw [List.take_succ_eq_append_getElem hi, List.mapM_append]
  simp only [List.mapM_cons, List.mapM_nil]
  cases (l.take i).mapM f with
  | none => rfl
  | some fs => cases f l[i] <;> rfl
theorem mapM_none {α β : Type} (f : α → Option β) (l : List α) (i : Nat) (hi : i < l.length) (h : f l[i] = none) : l.mapM f = none := by
  induction l generalizing i with
  | nil => simp at hi
  | cons a l ih =>
    rw [List.mapM_cons]
    cases i with
    | zero => rw [show f a = none from h]; rfl
    | succ i =>
      cases f a with
      | none => rfl
      | some b =>
        show (l.mapM f).bind _ = none
        rw [ih i (by simpa using hi) h]; rfl
/-- Floats' first loop. -/
def Fl1 (w : World) (k p : Int) (l : List FA) (v16 : Value) (wr : World) : Prop := ∃ i : Nat, i ≤ l.length ∧ v16 = .int .i64 i ∧ (∀ j (hj : j < l.length), j < i → ¬ 4096 < l[j].xs.length) ∧ Ext w wr ∧ Bf wr w.heap.size (.int .i64 k) (.int .i64 p)
def Fl2 (w : World) (k p : Int) (l : List FA) (v9 v30 : Value) (wr : World) : Prop := ∃ (i : Nat) (fs : List Fl), i ≤ l.length ∧ v30 = .int .i64 i ∧ (l.take i).mapM (fun a => holdS k p a.can) = some fs ∧ fs.length = i ∧ OwnF wr (w.heap.size + 1) v9 fs ∧ Ext w wr ∧ Bf wr w.heap.size (.int .i64 k) (.int .i64 p)
set_option maxHeartbeats 4000000 in
set_option maxRecDepth 100000 in
theorem floats_c (k p : Int) (A : Option Addr) (c : Nat) (l : List FA) (w : World) (hT : Tab w) (h : FRd w A c l) :
    Calls Tryd.prog 78 #[.agg #[.int .i64 k, .int .i64 p], .slice A l.length c] w (FlsR w (FlsS k p l)) := by
  have hll := h.len
  have hxF := Bf.new w (.int .i64 k) (.int .i64 p)
  have hE := (Ext.refl w).al (Obj.cells #[Value.int IntKind.i64 k, Value.int IntKind.i64 p] 23)
  have HXF := Lib.hid hxF
  have HE := Lib.hid hE
  clear hxF hE
  go_enter Tryd.func78, Tryd.ntmps78
  go_wp2
  go_loopw [16] (fun v16 wr => Fl1 w k p l v16 wr) (fun v _ => l.length - (intOf v).toNat)
  case atStart => exact ⟨0, Nat.zero_le _, rfl, fun j _ hj => absurd hj (by omega), HE.out, HXF.out⟩
  case round =>
    clear HXF HE
    obtain ⟨i, hi, rfl, hsm, hE, hF⟩ := hrel
    have HSM := Lib.hid hsm
    clear hsm
    by_cases hlt : i < l.length
    · obtain ⟨ad, rfl, h0, h1, h2, h3, hr⟩ := h.cell i hlt
      replace h0 := hE.cell h0
      replace h1 := hE.cell h1
      replace h2 := hE.cell h2
      replace h3 := hE.cell h3
      have hidx : ((i : Int) * 4).toNat = i * 4 := by omega
      have hlg := fun w => large_c l[i].k l[i].e l[i].neg l[i].A l[i].xs.length l[i].c w
      by_cases hbig : 4096 < l[i].xs.length
      · have hS : FlsS k p l = (2, []) := by unfold FlsS; rw [if_pos (any_of_large i hlt hbig)]
        have HS := Lib.hid hS
        rw [show decide (4096 < l[i].xs.length) = true by simpa using hbig] at hlg
        clear hS hbig
        go_wp2_with (go_at_call 77; refine (hlg _).mono ?_; rintro e w2 ⟨rfl, hb2⟩)
        go_ret2
        exact ⟨_, by rw [HS.out]; rfl, by rw [HS.out]; exact OwnF.nil _ _, (hE.al _).tr hb2⟩
      · have hsm : ∀ j (hj : j < l.length), j < i + 1 → ¬ 4096 < l[j].xs.length := fun j hj hji => by
          rcases Nat.lt_or_ge j i with h4 | h4
          · exact HSM.out j hj h4
          · have e : j = i := by omega
            subst e; exact hbig
        have HSM2 := Lib.hid hsm
        rw [show decide (4096 < l[i].xs.length) = false by simpa using hbig] at hlg
        clear hsm hbig
        go_wp2_with (go_at_call 77; refine (hlg _).mono ?_; rintro e w2 ⟨rfl, hb2⟩)
        go_roundw
        case rel => exact ⟨i + 1, hlt, by go_num, HSM2.out, (hE.al _).tr hb2, (hF.ext ((Ext.refl _).al _)).ext hb2⟩
        case measure => simp [intOf]; omega
    · obtain rfl : i = l.length := by omega
      have hany := any_of_small (l := l) (fun j hj => HSM.out j hj hj)
      have HANY := Lib.hid hany
      obtain ⟨f0, f1⟩ := hF.facts
      have hc := fun w => check_c k p w
      clear hany
      by_cases hR : Rgt k p
      · rw [fmtE_yes hR] at hc
        have HR := Lib.hid hR
        clear hR
        go_wp2_with (go_at_call 16; refine (hc _).mono ?_; rintro e w2 ⟨rfl, hb2⟩)
        have hE2 := Lib.hid (hE.tr hb2)
        have hF2 := Lib.hid (hF.ext hb2)
        clear hE hF f0 f1 hb2
        go_loopw [9, 30] (fun v9 v30 wr => Fl2 w k p l v9 v30 wr) (fun _ v _ => l.length - (intOf v).toNat)
        case atStart => exact ⟨0, [], Nat.zero_le _, rfl, rfl, rfl, OwnF.nil _ _, hE2.out, hF2.out⟩
        case round =>
          clear hE2 hF2
          obtain ⟨i, fs, hi, rfl, hfs, hlen, hown, hE, hF⟩ := hrel
          have HFS := Lib.hid hfs
          have HLEN := Lib.hid hlen
          clear hfs hlen
          by_cases hlt : i < l.length
          · obtain ⟨ad, rfl, h0, h1, h2, h3, hr⟩ := h.cell i hlt
            replace h0 := hE.cell h0
            replace h1 := hE.cell h1
            replace h2 := hE.cell h2
            replace h3 := hE.cell h3
            have hidx : ((i : Int) * 4).toNat = i * 4 := by omega
            have hsml := HSM.out i hlt hlt
            have hh := fun (w : World) (hT : Tab w) (hr : Rd w l[i].A l[i].c l[i].xs) => holds_c k p HR.out l[i].k l[i].neg l[i].e l[i].A l[i].c l[i].xs w hT hr (by omega)
            obtain ⟨f0, f1⟩ := hF.facts
            have hlt0 := hF.lt
            obtain ⟨o, ho⟩ : ∃ o, holdS k p l[i].can = o := ⟨_, rfl⟩
            have HO := Lib.hid ho
            rw [show holdS k p (canon l[i].k l[i].neg l[i].e (val l[i].xs)) = o from ho] at hh
            clear ho
            cases o with
            | none =>
              have hS : FlsS k p l = (151, []) := by
                unfold FlsS; rw [HANY.out]; simp only [Bool.false_eq_true, if_false]
                rw [if_pos HR.out, mapM_none _ l i hlt HO.out]
              have HS := Lib.hid hS
              clear hS
              go_wp2_with (go_at_call 116; refine (hh _ (hT.ext (hE.al _)) (hr.ext (hE.al _))).mono ?_; rintro e w2 ⟨u, rfl, hb2, -, k1, n1, e1, A1, l1, c1, rfl⟩; simp only [Option.isSome])
              have hE3 := (hE.al _).tr hb2
              go_ret2
              exact ⟨_, by rw [HS.out]; rfl, by rw [HS.out]; exact OwnF.nil _ _, (by repeat (with_reducible first | exact hE3 | refine Ext.set ?_ (by omega) _ _ | refine Ext.al ?_ _ | refine Ext.drewN ?_ _ | refine Ext.drew ?_))⟩
            | some f =>
              have hstep : (l.take (i + 1)).mapM (fun a => holdS k p a.can) = some (fs ++ [f]) := by
                rw [mapM_step _ _ _ hlt, HFS.out, HO.out]; rfl
              have HSTEP := Lib.hid hstep
              clear hstep
              have hfl : fs.length ≤ 1000000 := by rw [HLEN.out]; omega
              go_wp2_with (first
                | (go_at_call 116; refine (hh _ (hT.ext (hE.al _)) (hr.ext (hE.al _))).mono ?_; rintro e w2 ⟨u, rfl, hb2, hfr, -⟩; obtain ⟨uu, rfl, hou⟩ := hfr _ rfl; obtain ⟨A1, c1, rfl, -⟩ := hou.rd; have hE3 := (hE.al _).tr hb2; have hz := hb2.size; simp only [World.size_alloc] at hz; simp only [Option.isSome])
                | (at_builtin; refine wp_appendF rfl _ _ _ rfl Tryd.underlying92 (w.heap.size + 1) _ fs rfl ((((hown.ext ((Ext.refl _).al _)).ext hb2).ext ((Ext.refl _).al _)).ext ((Ext.refl _).al _)) (w2.heap.size + 1) 1 f _ rfl (by have := Bx.new (w2.alloc (Obj.cells #[Value.int IntKind.i64 f.kind, Value.bool f.neg, Value.int IntKind.i64 f.exp, Value.slice A1 (cn f.mag).length c1] 36)) (.int .i64 f.kind) (.bool f.neg) (.int .i64 f.exp) (.slice A1 (cn f.mag).length c1); simpa using this) (((hou.low (by simp; omega)).ext ((Ext.refl _).al _)).ext ((Ext.refl _).al _)) (by simp; omega) hfl ?_; intro v' w' ho' hb'))
              have hE4 : Ext w w' := Below.trans ((hE3.al _).al _) (hb'.mono (by omega))
              have hF4 : Bf w' w.heap.size (.int .i64 k) (.int .i64 p) := by
                have h1 := (((hF.ext ((Ext.refl _).al _)).ext hb2).ext ((Ext.refl _).al (Obj.cells #[Value.int IntKind.i64 f.kind, Value.bool f.neg, Value.int IntKind.i64 f.exp, Value.slice A1 (cn f.mag).length c1] 36))).ext ((Ext.refl _).al (Obj.cells #[Value.int IntKind.i64 f.kind, Value.bool f.neg, Value.int IntKind.i64 f.exp, Value.slice A1 (cn f.mag).length c1] 36))
                exact ⟨(hb'.block w.heap.size (by omega)).trans h1.h⟩
              go_roundw
              case rel => exact ⟨i + 1, fs ++ [f], hlt, by go_num, HSTEP.out, by rw [List.length_append, HLEN.out]; rfl, ho', hE4, hF4⟩
              case measure => simp [intOf]; omega
          · obtain rfl : i = l.length := by omega
            have hS : FlsS k p l = (0, fs) := by
              unfold FlsS; rw [HANY.out]; simp only [Bool.false_eq_true, if_false]
              have := HFS.out
              rw [List.take_length] at this
              rw [if_pos HR.out, this]
            have HS := Lib.hid hS
            clear hS
            go_wp2
            go_ret2
            exact ⟨_, by rw [HS.out]; rfl, by rw [HS.out]; exact hown.low (by omega), hE⟩
      · rw [fmtE_no hR] at hc
        have hS : FlsS k p l = (150, []) := by unfold FlsS; rw [HANY.out]; simp only [Bool.false_eq_true, if_false]; rw [if_neg hR]
        have HS := Lib.hid hS
        clear hR hS
        go_wp2_with (go_at_call 16; refine (hc _).mono ?_; rintro e w2 ⟨rfl, hb2⟩)
        go_ret2
        exact ⟨_, by rw [HS.out]; rfl, by rw [HS.out]; exact OwnF.nil _ _, hE.tr hb2⟩
end Go.Proofs.YtgkojhhodncpbaaDoor
