/- One block of residues is written; the map of roots. package ntt: the butterflies of a list, half by half (the closure transform$1). -/
import Derived.Test.YthbnkhgcfcigjaaKT
import Derived.Test.YthbnkhgcfcigjaaKI
import Derived.Maps.OwnOps
import Derived.Maps.Views
set_option linter.unusedVariables false
set_option linter.unusedSimpArgs false
namespace Go.Proofs.Ythbnkhgcfcigjaa
open Go.RowKit Go.Maps

/-- Nothing but block g is changed. -/
abbrev Gb (g : Nat) (w w' : World) : Prop := w.grownBy w' (some g)
section
variable {g : Nat} {v w w1 w2 : World}
theorem Gb.refl (g : Nat) (w : World) : Gb g w w := World.grownBy.refl w _
theorem Gb.tr (h : Gb g w w1) (k : Gb g w1 w2) : Gb g w w2 :=
  ⟨k.os.trans h.os, k.tape.trans h.tape, k.output.trans h.output, Nat.le_trans h.size k.size, fun i hi hn => (k.block i (Nat.lt_of_lt_of_le hi h.size) hn).trans (h.block i hi hn)⟩
theorem Gb.of_ext (h : Ext w w1) (g : Nat) : Gb g w w1 := ⟨h.os, h.tape, h.output, h.size, fun i hi _ => h.block i hi⟩
theorem Gb.al (h : Gb g w w1) (o : Obj) : Gb g w (w1.alloc o) := h.tr (Gb.of_ext ((Ext.refl _).al o) g)
theorem Gb.drew (h : Gb g w w1) : Gb g w w1.drew := ⟨h.os, h.tape, h.output, h.size, h.block⟩
theorem Gb.drewN (h : Gb g w w1) (n : Nat) : Gb g w (w1.drewN n) := ⟨h.os, h.tape, h.output, h.size, h.block⟩
theorem Gb.set (h : Gb g w w1) (i : Nat) (u : Value) : Gb g w (w1.setCell ⟨g, i, none⟩ u) :=
  ⟨h.os, h.tape, h.output, by have := h.size; simpa using this, fun k hk hn => by
    rw [Below.heap_setCell _ _ _ _ (fun e => hn (by rw [e]))]
    exact h.block k hk hn⟩
/-- A cell of another block. -/
theorem Gb.far (h : Gb g w w1) {a : Addr} {u : Value} (hc : w.cell? a = some u) (hn : a.block ≠ g) : w1.cell? a = some u := h.cell hc (fun e => hn (Option.some.inj e))
theorem Gb.ext (h : Gb g w w1) (he : Ext v w) (hg : v.heap.size ≤ g) : Ext v w1 :=
  ⟨h.os.trans he.os, h.tape.trans he.tape, h.output.trans he.output, Nat.le_trans he.size h.size, fun k hk => by
    rw [h.block k (Nat.lt_of_lt_of_le hk he.size) (fun e => by have := Option.some.inj e; omega)]
    exact he.block k hk⟩
end
theorem kmap : Keyed Try.prog 3 := int_keyed Try.underlying3
theorem zmap (w : World) : (zeroValue 59).run Try.prog w = .ok (.int .u64 0) w := by kernel_rfl
/-- The key of a length. -/
def ky (k : Nat) : Lit := .int .i64 ((2 ^ k : Nat) : Int)
theorem ky_ne {a b : Nat} (h : a ≠ b) : ky a ≠ ky b := by
  unfold ky
  intro e
  injection e with _ e
  have e := Int.ofNat.inj e
  rcases Nat.lt_or_gt_of_ne h with h | h
  · have := Nat.pow_lt_pow_right (a := 2) (by omega) h
    omega
  · have := Nat.pow_lt_pow_right (a := 2) (by omega) h
    omega
theorem ky_wf {k : Nat} (h : k ≤ 40) : (ky k).wf = true := by
  have h1 : 2 ^ k ≤ 2 ^ 40 := Nat.pow_le_pow_right (by omega) h
  unfold ky
  generalize 2 ^ k = x at *
  exact WalkArith.wf_i64 ⟨by omega, by omega⟩
theorem ky_of {k : Nat} (h : k ≤ 40) : keyOf Try.prog 3 (.int .i64 ((2 ^ k : Nat) : Int)) = some (ky k) := keyOf_int_mk Try.underlying3 (ky_wf h)
theorem ky_key (k : Nat) : WideAt.IsKeyLit (ky k) := by unfold ky; trivial
/-- Block q of w is a map from the lengths 2^i .. 2^m to roots. -/
def Mp (w : World) (q n i m : Nat) (R : Nat → Nat) : Prop :=
  ∃ D : DataW Unit, w.ownsMap Try.prog 3 (plainElem Try.prog 59) q n D ∧ IsMap D ∧ ∀ k, i ≤ k → k ≤ m → D.atKey (ky k) (.lit (.int .u64 0)) = .lit (.int .u64 (R k : Nat))
theorem Mp.kept {w w' : World} {q n i m : Nat} {R : Nat → Nat} (h : Mp w q n i m R) {g : Nat} (hg : Gb g w w') (hn : q ≠ g) : Mp w' q n i m R := by
  obtain ⟨D, h1, h2, h3⟩ := h
  exact ⟨D, h1.kept hg (fun e => hn (Option.some.inj e)), h2, h3⟩
theorem Mp.al {w : World} {q n i m : Nat} {R : Nat → Nat} (h : Mp w q n i m R) (o : Obj) : Mp (w.alloc o) q n i m R := by
  obtain ⟨D, h1, h2, h3⟩ := h
  exact ⟨D, h1.alloc o, h2, h3⟩
theorem Mp.lt {w : World} {q n i m : Nat} {R : Nat → Nat} (h : Mp w q n i m R) : q < w.heap.size := by
  obtain ⟨D, h1, h2, h3⟩ := h
  exact h1.lt
theorem Mp.less {w : World} {q n i m i' m' : Nat} {R : Nat → Nat} (h : Mp w q n i m R) (hi : i ≤ i') (hm : m' ≤ m) : Mp w q n i' m' R := by
  obtain ⟨D, h1, h2, h3⟩ := h
  exact ⟨D, h1, h2, fun k a b => h3 k (Nat.le_trans hi a) (Nat.le_trans b hm)⟩
/-- The look-up of a length's root. -/
theorem Mp.look {w : World} {q n i m : Nat} {R : Nat → Nat} (h : Mp w q n i m R) (k : Nat) (hk : k ≤ 40) (h1 : i ≤ k) (h2 : k ≤ m) :
    (Instr.lookup 87 (.map (some q)) (.int .i64 ((2 ^ k : Nat) : Int)) false).run Try.prog w = .ok (.int .u64 (R k : Nat)) w := by
  obtain ⟨D, ho, hD, hat⟩ := h
  obtain ⟨c, hrun, hc, hw⟩ := ho.lookup_int kmap Try.underlying87 Try.underlying59 (zmap w) (ky_of hk)
  have hc2 : (DataW.lit (.int .u64 (R k : Nat)) : DataW Unit) = .lit (.int .u64 c) := (hat k h1 h2).symm.trans hc
  have hc3 : ((R k : Nat) : Int) = c := (Lit.int.inj (DataW.lit.inj hc2)).2
  rw [hc3]
  exact hrun
section
variable {ops : Array Oper} {rest : List Oper} {o : Oper} {a : Act} {Q : Exit → Act → World → Prop} {w : World}
/-- 'roots[n] = r', n the next lower length. -/
theorem wp_root (hg : o.guard = none) (mo x v : Operand) (hop : o.op = Op.mapUpdate 87 mo x v) (q n i m : Nat) (R : Nat → Nat) (hm : a.eval mo = .map (some q)) (h : Mp w q n (i + 1) m R) (hi : i ≤ 40) (hn : n ≤ 100)
    (N : Int) (hx : a.eval x = .int .i64 N) (hN : N = ((2 ^ i : Nat) : Int)) (hv : a.eval v = .int .u64 (R i : Nat)) (hR : R i < B)
    (hK : ∀ w', Mp w' q (n + 1) i m R → Gb q w w' → wpList Try.prog ops Q rest (a.put o.dst undef) w') : wpList Try.prog ops Q (o :: rest) a w := by
  obtain ⟨D, ho, hD, hat⟩ := h
  subst hN
  refine wpList_mapUpdate_own w hg mo x v 87 hop 3 59 kmap Try.underlying87 _ q n D hm ho (by unfold maxLen; omega) _ _ (ky i) hx hv (ky_of hi) (.lit (.int .u64 (R i : Nat))) [] (plainElem_int Try.underlying59 (WalkArith.wf_u64 ⟨by omega, by rw [B_eq] at hR; omega⟩)) ?_
  intro w' ho' hg'
  refine hK w' ⟨_, ho', ?_, fun k a b => ?_⟩ hg'
  · obtain ⟨es, rfl⟩ := hD
    exact ⟨_, rfl⟩
  · by_cases hk : k = i
    · subst hk
      exact atKey_put_same hD (ky_key k) _ _
    · rw [atKey_put_other (ky_ne hk)]
      exact hat k (by omega) b
end
end Go.Proofs.Ythbnkhgcfcigjaa
namespace Go.Proofs.Ythbnkhgcfcigjaa
open Go.RowKit Go.Maps

/-- The closure's value. -/
def wkV (b1 b2 : Nat) : Value := .func (.func 91) #[] #[.pointer (some ⟨b1, 0, none⟩), .pointer (some ⟨b2, 0, none⟩)]
set_option maxHeartbeats 4000000 in
set_option maxRecDepth 100000 in
theorem work_c (R : Nat → Nat) (hRP : ∀ k, R k < PP) (g b1 b2 q n M : Nat) (h1 : b1 ≠ g) (h2 : b2 ≠ g) (hq : q ≠ g) (hn : n ≤ 100) (hM : M ≤ 16) : ∀ (m o c : Nat) (xs : List Nat) (w : World), m ≤ M → Rs.Bk w g xs → Al xs → xs.length ≤ 65536 → o + 2 ^ m ≤ xs.length → 2 ^ m ≤ c → c ≤ 65536 →
    w.cell? ⟨b1, 0, none⟩ = some (wkV b1 b2) → w.cell? ⟨b2, 0, none⟩ = some (.map (some q)) → Mp w q n 1 M R →
    Calls Try.prog 91 #[.slice (some ⟨g, o, none⟩) (2 ^ m) c, .pointer (some ⟨b1, 0, none⟩), .pointer (some ⟨b2, 0, none⟩)] w fun e w' => (∃ v, e = .returned v) ∧ Rs.Bk w' g (btw R m o xs) ∧ Gb g w w'
  | 0, o, c, xs, w, hm, hb, ha, hl, hol, hc, hc2, c1, c2, hp => by
    unfold wkV at c1
    rw [Nat.pow_zero]
    show Calls _ _ _ _ fun e w' => (∃ v, e = .returned v) ∧ Rs.Bk w' g xs ∧ Gb g w w'
    go_enter Try.func91, Try.ntmps91
    go_wp2_with fail
    exact bodyPost_ret (results_none rfl _ _ _) rfl ⟨⟨_, rfl⟩, hb, Gb.refl _ _⟩
  | m + 1, o, c, xs, w, hm, hb, ha, hl, hol, hc, hc2, c1, c2, hp => by
    have ih := work_c R hRP g b1 b2 q n M h1 h2 hq hn hM m
    have hpp : 2 ^ (m + 1) = 2 ^ m * 2 := Nat.pow_succ 2 m
    have hh0 : 0 < 2 ^ m := Nat.two_pow_pos m
    have hlook : ∀ w, Mp w q n 1 M R → (Instr.lookup 87 (.map (some q)) (.int .i64 ((2 ^ (m + 1) : Nat) : Int)) false).run Try.prog w = .ok (.int .u64 (R (m + 1) : Nat)) w := fun w hw => hw.look (m + 1) (by omega) (by omega) (by omega)
    show Calls _ _ _ _ fun e w' => (∃ v, e = .returned v) ∧ Rs.Bk w' g (btf (2 ^ m) (R (m + 1)) o (2 ^ m) (btw R m (o + 2 ^ m) (btw R m o xs))) ∧ Gb g w w'
    have hr := hRP (m + 1)
    generalize R (m + 1) = r at *
    obtain ⟨N, hN⟩ : ∃ N, 2 ^ (m + 1) = N := ⟨_, rfl⟩
    rw [hN] at hol hc hlook ⊢
    rw [hN] at hpp
    obtain ⟨h, hh⟩ : ∃ h, 2 ^ m = h := ⟨_, rfl⟩
    rw [hh] at ih ⊢
    rw [hh] at hpp hh0
    have n1 : ((N : Int) == 1) = false := by rw [beq_eq_false_iff_ne]; omega
    have n2 : ((N : Int) = 1) = False := eq_false (by omega)
    have n3 : (N : Int).tdiv 2 = (h : Int) := by rw [Int.tdiv_eq_ediv_of_nonneg (by omega)]; omega
    have n4 : (N : Int) / 2 = (h : Int) := by omega
    have g1 : (h : Int) ≤ (c : Int) := by omega
    have g2 : (h : Int) ≤ (N : Int) := by omega
    have HP := Lib.hid hpp
    clear hN hh hpp
    have HC := Lib.hid (show Mp w q n 1 M R from hp)
    go_enter Try.func91, Try.ntmps91
    go_wp2_with fail
    go_quiet (fail)
    have e : N - h = h := by have := HP.out; omega
    rw [e]
    have hb1 := hb.drewN nq
    have c1' : (w.drewN nq).cell? ⟨b1, 0, none⟩ = _ := c1
    have c2' : (w.drewN nq).cell? ⟨b2, 0, none⟩ = _ := c2
    have hp1 : Mp (w.drewN nq) q n 1 M R := HC.out.kept ((Gb.refl g w).drewN nq) hq
    have hg1 : Gb g w (w.drewN nq) := (Gb.refl g w).drewN nq
    generalize w.drewN nq = w0 at *
    unfold wkV at c1 c1'
    clear c1 c2 hb
    go_wp2_with fail
    refine (ih o h xs w0 (by omega) hb1 ha hl (by have := HP.out; omega) (Nat.le_refl _) (by have := HP.out; omega) c1' c2' hp1).mono ?_
    rintro z w1 ⟨⟨v1, rfl⟩, hb2, hg2⟩
    have c1'' := hg2.far c1' h1
    have c2'' := hg2.far c2' h2
    have hp2 := hp1.kept hg2 hq
    have hgw := hg1.tr hg2
    have ha2 := btw_al R m o xs ha
    have hl2 : (btw R m o xs).length = xs.length := btw_len R m o xs
    obtain ⟨ys, hys⟩ : ∃ ys, btw R m o xs = ys := ⟨_, rfl⟩
    rw [hys] at hb2 ha2 hl2
    have HYS := Lib.hid hys
    clear hys
    clear c1' c2' hp1 hg1 hb1 hg2
    go_wp2_with fail
    refine (ih (o + h) (c - h) ys w1 (by omega) hb2 ha2 (by omega) (by have := HP.out; omega) (by have := HP.out; omega) (by omega) c1'' c2'' hp2).mono ?_
    rintro z w2 ⟨⟨v2, rfl⟩, hb3, hg3⟩
    have c2' := hg3.far c2'' h2
    have hp3 := hp2.kept hg3 hq
    have hgw3 := hgw.tr hg3
    have ha3 := btw_al R m (o + h) ys ha2
    have hl3 : (btw R m (o + h) ys).length = xs.length := (btw_len R m (o + h) ys).trans hl2
    obtain ⟨zs, hzs⟩ : ∃ zs, btw R m (o + h) ys = zs := ⟨_, rfl⟩
    rw [hzs] at hb3 ha3 hl3
    have HZS := Lib.hid hzs
    clear hzs
    clear c1'' c2'' hp2 hgw hb2 hg3 ha2 hl2 ih
    have hlz : o + N ≤ zs.length := by omega
    have HPP := hp3
    have HL := Lib.hid hl3
    have hh65 : h ≤ 65536 := by omega
    clear hl3 hc hc2 hl hol
    have HLZ := Lib.hid hlz
    clear hlz
    go_wp2_with fail
    go_loopw [7, 33] (fun v7 v33 wr => ∃ i f : Nat, i ≤ h ∧ v33 = .int .i64 (i : Int) ∧ v7 = .int .u64 (f : Int) ∧ f = r ^ i % PP ∧ Rs.Bk wr g (btf h r o i zs) ∧ Gb g w2 wr) (fun _ v _ => h - (intOf v).toNat)
    case atStart => exact ⟨0, 1, Nat.zero_le _, rfl, rfl, by rw [Nat.pow_zero]; rfl, hb3, Gb.refl _ _⟩
    case round =>
      obtain ⟨i, f, hi, rfl, rfl, hf, hb5, hg5⟩ := hrel
      have ha5 := btf_al h r o i zs ha3
      have hl5 : (btf h r o i zs).length = zs.length := btf_len h r o i zs
      have c3 := hg5.far c2' h2
      have hp5 := hp3.kept hg5 hq
      by_cases hlt : i < h
      · have e1 := hb5.cell (o + i) (by have := HP.out; have := HLZ.out; omega)
        have e2 := hb5.cell (o + h + i) (by have := HP.out; have := HLZ.out; omega)
        have a1 := ha5 (o + i)
        have a2 := ha5 (o + h + i)
        have hfP : f < PP := by rw [hf]; exact Nat.mod_lt _ PP_pos
        obtain ⟨x, hx⟩ : ∃ x, (btf h r o i zs).getD (o + i) 0 = x := ⟨_, rfl⟩
        obtain ⟨y, hy⟩ : ∃ y, (btf h r o i zs).getD (o + h + i) 0 = y := ⟨_, rfl⟩
        have hnew : btf h r o (i + 1) zs = ((btf h r o i zs).set (o + i) ((x + y * f % PP) % PP)).set (o + h + i) ((x + PP - y * f % PP) % PP) := by rw [← hx, ← hy, hf]; rfl
        have hfn : f * r % PP = r ^ (i + 1) % PP := by rw [hf, Nat.pow_succ, Nat.mod_mul_mod]
        rw [hx] at e1 a1
        rw [hy] at e2 a2
        have HN := Lib.hid hnew
        have HF := Lib.hid hfn
        have HL5 := Lib.hid hl5
        clear hnew hfn hx hy hf ha5 hl5
        generalize btf h r o i zs = ts at *
        have hm1 := fun w => times_c y f w (Nat.lt_trans a2 PP_lt_B) (Nat.lt_trans hfP PP_lt_B)
        have hz : y * f % PP < PP := Nat.mod_lt _ PP_pos
        generalize y * f % PP = z at *
        have hs1 := fun w => plus_c x z w a1 hz
        have hd1 := fun w => minus_c x z w a1 hz
        have hm2 := fun w => times_c f r w (Nat.lt_trans hfP PP_lt_B) (Nat.lt_trans hr PP_lt_B)
        have HSU := Lib.hid (Nat.mod_lt (x + z) PP_pos)
        have HDI := Lib.hid (Nat.mod_lt (x + PP - z) PP_pos)
        generalize (x + z) % PP = su at *
        generalize (x + PP - z) % PP = di at *
        generalize f * r % PP = f2 at *
        go_wp2_with fail
        refine (hm1 _).mono ?_
        rintro zz w3 ⟨rfl, rfl⟩
        go_wp2_with fail
        go_region_held3 (fun w' => w'.cell? ⟨g, o + i, none⟩ = some (.int .u64 (x : Int)))
          (first | (with_reducible assumption) | go_keep)
          (first
            | (go_at_call 78; (with_reducible refine (hs1 _).mono ?_); rintro zz w4 ⟨rfl, rfl⟩)
            | (go_at_call 79; (with_reducible refine (hd1 _).mono ?_); rintro zz w4 ⟨rfl, rfl⟩))
        all_goals (
          have hb6 := (hb5.al (.cells #[.int .u64 (su : Int), .int .u64 (di : Int)] 90)).drew
          have hg6 := (hg5.al (.cells #[.int .u64 (su : Int), .int .u64 (di : Int)] 90)).drew
          have k0 : (wr.alloc (.cells #[.int .u64 (su : Int), .int .u64 (di : Int)] 90)).drew.cell? ⟨wr.heap.size, 0, none⟩ = some (.int .u64 (su : Int)) := cell_of_row (wr.alloc (.cells #[.int .u64 (su : Int), .int .u64 (di : Int)] 90)) wr.heap.size 0 _ _ _ (heap_alloc_new wr _)
          have k1 : (wr.alloc (.cells #[.int .u64 (su : Int), .int .u64 (di : Int)] 90)).drew.cell? ⟨wr.heap.size, 1, none⟩ = some (.int .u64 (di : Int)) := cell_of_row (wr.alloc (.cells #[.int .u64 (su : Int), .int .u64 (di : Int)] 90)) wr.heap.size 1 _ _ _ (heap_alloc_new wr _)
          have hszV : wr.heap.size < (wr.alloc (.cells #[.int .u64 (su : Int), .int .u64 (di : Int)] 90)).drew.heap.size := by
            show _ < (wr.alloc _).heap.size
            rw [World.size_alloc]
            omega
          generalize (wr.alloc (.cells #[.int .u64 (su : Int), .int .u64 (di : Int)] 90)).drew = V at *
          have l1 : o + i < ts.length := by have := HP.out; have := HLZ.out; have := HL5.out; omega
          have l2 : o + h + i < ts.length := by have := HP.out; have := HLZ.out; have := HL5.out; omega
          have q1 := hb6.cell (o + i) l1
          have q2 := hb6.cell (o + h + i) l2
          have q3 := hb6.frozen (o + i)
          have q4 := hb6.frozen (o + h + i)
          have hsu : su < B := Nat.lt_trans HSU.out PP_lt_B
          have hdi : di < B := Nat.lt_trans HDI.out PP_lt_B
          have hb7 := (hb6.set (o + i) su hsu).set (o + h + i) di hdi
          have hb8 := (hb6.set (o + h + i) di hdi).set (o + i) su hsu
          have hg7 := (hg6.set (o + i) (.int .u64 (su : Int))).set (o + h + i) (.int .u64 (di : Int))
          have hg8 := (hg6.set (o + h + i) (.int .u64 (di : Int))).set (o + i) (.int .u64 (su : Int))
          rw [List.set_comm _ _ (by omega)] at hb8
          rw [← HN.out] at hb7 hb8
          have HB7 := Lib.hid hb7
          have HB8 := Lib.hid hb8
          have HG7 := Lib.hid hg7
          have HG8 := Lib.hid hg8
          have hgs := hb5.lt
          have hne : wr.heap.size ≠ g := by omega
          clear hb7 hb8 hg7 hg8 hb6 hg6 hb5 e1 e2
          go_wp2_with fail
          go_region)
        all_goals (
          have hb9 := HB7.out.drew
          have hg9 := HG7.out.drew
          generalize ((V.setCell ⟨g, o + i, none⟩ (.int .u64 (su : Int))).setCell ⟨g, o + h + i, none⟩ (.int .u64 (di : Int))).drew = V2 at *
          have c9 := hg9.far c2' h2
          have hl9 := hlook V2 (hp3.kept hg9 hq)
          clear q1 q2 q3 q4 HB7 HB8 HG7 HG8
          go_wp2_with fail
          refine (hm2 _).mono ?_
          rintro zz w5 ⟨rfl, rfl⟩
          go_wp2_with fail
          go_roundw
          case rel => exact ⟨i + 1, f2, hlt, by go_num, rfl, HF.out, hb9, hg9⟩
          case measure => simp [intOf]; omega)
      · obtain rfl : i = h := by omega
        clear hlook hf e
        go_wp2_with fail
        go_end0
        rw [HYS.out, HZS.out]
        exact ⟨⟨_, rfl⟩, hb5, hgw3.tr hg5⟩
end Go.Proofs.Ythbnkhgcfcigjaa
