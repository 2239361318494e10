/- package reckonerlaw15: Theirs. -/
import Derived.Test.YtlnfmngginihfaaGreatDoorF6
import Derived.Test.YtlnfmngginihfaaGreatDoorS4
import Derived.Test.YtlnfmngginihfaaGreatDoorTB
set_option linter.unusedVariables false
set_option linter.unusedSimpArgs false
namespace Go.Proofs.YtlnfmngginihfaaGreatDoor
open Go.RowKit
attribute [local go_sem ↓] Go.wp_at_zero Go.wp_at_succ

theorem add_flat (g n : Nat) : (⟨g, 0, none⟩ : Addr).add n = ⟨g, n, none⟩ := by
  unfold Addr.add
  split
  · rename_i h
    have : n = 0 := by simpa using h
    rw [this]
  · simp
/-- The cells of a row of floats. -/
def flatG (l : List FA) : List Value := l.flatMap fun a => [.int .i64 a.k, .bool a.neg, .int .i64 a.e, .slice a.A a.xs.length a.c]
theorem flatG_get (us : List FA) (i : Nat) (hi : i < us.length) (j : Nat) (hj : j < 4) :
    (flatG us)[i * 4 + j]? = ([.int .i64 us[i].k, .bool us[i].neg, .int .i64 us[i].e, .slice us[i].A us[i].xs.length us[i].c] : List Value)[j]? := by
  unfold flatG
  induction us generalizing i with
  | nil => simp at hi
  | cons u us ih =>
    cases i with
    | zero => simp only [List.flatMap_cons, Nat.zero_mul, Nat.zero_add, List.getElem_cons_zero]; rw [List.getElem?_append_left (by simpa using hj)]
    | succ i =>
      simp only [List.flatMap_cons, List.getElem_cons_succ]
      rw [List.getElem?_append_right (by simp; omega), show (i + 1) * 4 + j - [Value.int IntKind.i64 u.k, Value.bool u.neg, Value.int IntKind.i64 u.e, Value.slice u.A u.xs.length u.c].length = i * 4 + j by simp; omega]
      exact ih i (by simpa using hi)
/-- A row of the reference's floats in new memory. -/
structure OwnG (w : World) (base : Nat) (v : Value) (l : List FA) : Prop where
  own : w.ownsRow base 42 4 v l.length (flatG l)
theorem OwnG.nil (w : World) (base : Nat) : OwnG w base (.slice none 0 0) [] := ⟨World.ownsRow_nil _ _ _ _⟩
theorem OwnG.ext {w w' : World} {base : Nat} {v : Value} {l : List FA} (h : OwnG w base v l) (hb : Ext w w') : OwnG w' base v l := by
  refine ⟨?_⟩
  have h := h.own
  rcases h.2 with ⟨e, hn⟩ | ⟨g, cap, cur, e, hb', hh, hr⟩
  · exact ⟨h.1, .inl ⟨e, hn⟩⟩
  · exact ⟨h.1, .inr ⟨g, cap, cur, e, hb', (hb.block g (Array.getElem?_eq_some_iff.1 hh).1).trans hh, hr⟩⟩
theorem OwnG.frd {w : World} {base : Nat} {v : Value} {l : List FA} (h : OwnG w base v l) (hl : l.length ≤ 1000000) (hr : ∀ i (hi : i < l.length), Rd w l[i].A l[i].c l[i].xs) : ∃ A c, v = .slice A l.length c ∧ FRd w A c l := by
  rcases h.own.2 with ⟨e2, hn⟩ | ⟨g, cap, cur, e2, hb, hh, hnc, hcm, hcs, htk⟩
  · have h0 : l.length = 0 := by
      have := h.own.1
      omega
    exact ⟨none, 0, by rw [e2, h0], ⟨by omega, hl, fun i hi => absurd hi (by omega)⟩⟩
  · refine ⟨_, cap, e2, ⟨hnc, hl, fun i hi => ?_⟩⟩
    have hcell : ∀ j, j < 4 → w.cell? ⟨g, i * 4 + j, none⟩ = ([.int .i64 l[i].k, .bool l[i].neg, .int .i64 l[i].e, .slice l[i].A l[i].xs.length l[i].c] : List Value)[j]? := by
      intro j hj
      rw [cell_of_row w g _ _ _ _ hh, ← Array.getElem?_toList]
      have h1 : (cur.toList.take (l.length * 4))[i * 4 + j]? = cur.toList[i * 4 + j]? := List.getElem?_take_of_lt (by omega)
      rw [← h1, htk]
      exact flatG_get l i hi j hj
    refine ⟨⟨g, 0, none⟩, rfl, ?_, ?_, ?_, ?_, hr i hi⟩ <;> rw [add_flat]
    · have := hcell 0 (by omega); simpa using this
    · have := hcell 1 (by omega); simpa using this
    · have := hcell 2 (by omega); simpa using this
    · have := hcell 3 (by omega); simpa using this
theorem infoG : (Tryz.prog.info? 42).map (fun i => (i.zero, i.size, i.bytes)) = some (some (.agg #[.int .i64 0, .bool false, .int .i64 0, .slice none 0 0]), 4, 48) := by kernel_rfl
section
variable {ops : Array Oper} {rest : List Oper} {o : Oper} {a : Act} {Q : Exit → Act → World → Prop} {w : World}
/-- 'append(s, x)' of one float of the reference. -/
theorem wp_appendG (hg : o.guard = none) (s x : Operand) (t : TypeId) (hop : o.op = .call { callee := .builtin .append, args := #[s, x], argTypes := #[t, t] }) (ht : Tryz.prog.underlying t = some (.slice 42))
    (base : Nat) (v : Value) (l : List FA) (hs : a.eval s = v) (hown : OwnG w base v l) (g c : Nat) (f : FA) (hx : a.eval x = .slice (some ⟨g, 0, none⟩) 1 c) (hbx : Br w g (.int .i64 f.k) (.bool f.neg) (.int .i64 f.e) (.slice f.A f.xs.length f.c))
    (hb : base ≤ w.heap.size) (hl : l.length ≤ 1000000)
    (hK : ∀ v' w', OwnG w' base v' (l ++ [f]) → Below base w w' → wpList Tryz.prog ops Q rest (a.put o.dst v') w') :
    wpList Tryz.prog ops Q (o :: rest) a w := by
  obtain ⟨i, h2, h3, h4, h5⟩ := info_parts infoG
  obtain ⟨c0, c1, c2, c3, -⟩ := hbx.facts
  obtain ⟨v', w', r1, r2, r3, _, _⟩ := run_append_own_at (P := Tryz.prog) w base t o.type 42 i _ 4 48 ht h2 h3 h4 h5 rfl (by omega) v l.length _ hown.own ⟨g, 0, none⟩ 1 c [.int .i64 f.k, .bool f.neg, .int .i64 f.e, .slice f.A f.xs.length f.c] rfl
    (fun j y hy => by
      rw [add_zero']
      match j, hy with
      | 0, hy => obtain rfl := Option.some.inj hy; exact c0
      | 1, hy => obtain rfl := Option.some.inj hy; exact c1
      | 2, hy => obtain rfl := Option.some.inj hy; exact c2
      | 3, hy => obtain rfl := Option.some.inj hy; exact c3
      | j + 4, hy => simp at hy)
    (fun y hy => by
      simp only [List.mem_cons, List.not_mem_nil, or_false] at hy
      rcases hy with rfl | rfl | rfl | rfl <;> rfl) (by simp only [maxLen]; omega) (by omega) hb
  refine wpList_plain hg fun K hK' => ?_
  unfold Oper.wp execOp
  simp only [hop, resolve, invoke, builtin, Sem.run_bind, Sem.run_pure, Result.andThen_ok, List.map_toArray, List.map_cons, List.map_nil, hs, hx, r1]
  refine hK' _ _ (hK v' w' ⟨?_⟩ ((Below.refl base w).grown r3 hb fun k hk => (hown.own.lt k hk).1))
  simpa [flatG] using r2
end
def Th1 (w : World) (l : List FA) (v3 v4 : Value) (wr : World) : Prop := ∃ i : Nat, i ≤ l.length ∧ v4 = .int .i64 i ∧ OwnG wr w.heap.size v3 (l.take i) ∧ Ext w wr
set_option maxHeartbeats 4000000 in
set_option maxRecDepth 100000 in
theorem theirs_c (A : Option Addr) (c : Nat) (l : List FA) (w : World) (h : FRd w A c l) :
    Calls Tryz.prog 9 #[.slice A l.length c] w fun e w' => ∃ A' c', e = .returned (.slice A' l.length c') ∧ FRd w' A' c' l ∧ Ext w w' := by
  have hll := h.len
  go_enter Tryz.func9, Tryz.ntmps9
  go_wp2
  go_loopw [3, 4] (fun v3 v4 wr => Th1 w l v3 v4 wr) (fun _ v _ => l.length - (intOf v).toNat)
  case atStart => exact ⟨0, Nat.zero_le _, rfl, OwnG.nil _ _, Ext.refl w⟩
  case round =>
    obtain ⟨i, hi, rfl, hown, hE⟩ := hrel
    by_cases hlt : i < l.length
    · obtain ⟨ad, rfl, h0, h1, h2, h3, hr⟩ := h.cell i hlt
      replace h0 := hE.cell h0
      replace h1 := hE.cell h1
      replace h2 := hE.cell h2
      replace h3 := hE.cell h3
      have hidx : ((i : Int) * 4).toNat = i * 4 := by omega
      have hh := fun w => their_c l[i].k l[i].e l[i].neg l[i].A l[i].xs.length l[i].c w
      have htk : l.take (i + 1) = l.take i ++ [l[i]] := by rw [List.take_succ_eq_append_getElem hlt]
      have HTK := Lib.hid htk
      have hlen : (l.take i).length ≤ 1000000 := by rw [List.length_take]; omega
      have hsE := hE.size
      clear htk
      go_wp2_with (first
        | (go_at_call 11; refine (hh _).mono ?_; rintro e w2 ⟨rfl, hb2⟩)
        | (at_builtin; refine wp_appendG rfl _ _ _ rfl Tryz.underlying32 w.heap.size _ (l.take i) rfl ((hown.ext hb2).ext ((Ext.refl _).al _)) w2.heap.size 1 l[i] rfl (Br.new w2 _ _ _ _) (by have := hb2.size; simp; omega) hlen ?_; intro v' w' ho' hb'))
      go_roundw
      case rel => exact ⟨i + 1, hlt, by go_num, by rw [HTK.out]; exact ho', Below.trans ((hE.tr hb2).al _) hb'⟩
      case measure => simp [intOf]; omega
    · obtain rfl : i = l.length := by omega
      rw [List.take_length] at hown
      obtain ⟨A', c', rfl, hfr⟩ := hown.frd hll (fun i hi => by obtain ⟨ad, e, -, -, -, -, hr⟩ := h.cell i hi; exact hr.ext hE)
      go_wp2
      go_ret
      exact ⟨_, _, rfl, hfr, hE⟩
set_option maxHeartbeats 4000000 in
set_option maxRecDepth 100000 in
theorem check21_c (k p : Int) (A : Option Addr) (c : Nat) (l : List FA) (w : World) (h : FRd w A c l) (hsm : ∀ i (hi : i < l.length), l[i].xs.length ≤ 4096) :
    Calls Tryz.prog 7 #[.agg #[.int .i64 k, .int .i64 p], .slice A l.length c] w fun z w' => z = .returned (.int .i64 (chkS k p l)) ∧ Ext w w' := by
  have hA := (Ext.refl w).al (.cells #[.int .i64 k, .int .i64 p] 23)
  have hc := fun A' c' w h => rcheck15_c k p A' c' l w h hsm
  have HA := Lib.hid hA
  clear hA
  go_enter Tryz.func7, Tryz.ntmps7
  go_wp2_with fail
  refine (fmt_c k p _).mono ?_
  rintro z w1 ⟨rfl, hb1⟩
  have hE1 := HA.out.tr hb1
  go_wp2_with fail
  refine (theirs_c A c l _ (h.ext hE1)).mono ?_
  rintro z w2 ⟨A', c', rfl, hf2, hb2⟩
  go_wp2_with fail
  refine (hc _ _ _ hf2).mono ?_
  rintro z w3 ⟨rfl, hb3⟩
  go_wp2
  go_ret
  exact ⟨rfl, (hE1.tr hb2).tr hb3⟩
end Go.Proofs.YtlnfmngginihfaaGreatDoor
