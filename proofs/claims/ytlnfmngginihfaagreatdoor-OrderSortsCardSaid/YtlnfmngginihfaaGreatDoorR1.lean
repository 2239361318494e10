/- the references' rows of digits: Digits, digit, Short. -/
import Derived.Test.YtlnfmngginihfaaGreatDoorW3
import Derived.Test.YtlnfmngginihfaaGreatDoorM3
import Derived.StillTailTactics
set_option linter.unusedVariables false
set_option linter.unusedSimpArgs false
namespace Go.Proofs.YtlnfmngginihfaaGreatDoor
open Go.RowKit

theorem Rd.new2 (w : World) (x y : Nat) (hx : x < B) (hy : y < B) : Rd (w.alloc (.cells #[.int .u64 (x : Int), .int .u64 (y : Int)] 45)) (some ⟨w.heap.size, 0, none⟩) 2 [x, y] :=
  Bk.rd (xs := [x, y]) ⟨heap_alloc_new w _, W64.cons hx (W64.cons hy W64.nil)⟩ (by simp) (by simp)
theorem Own.drew {w : World} {base : Nat} {v : Value} {xs : List Nat} (h : Own w base v xs) : Own w.drew base v xs := h.ext (Ext.refl w).drew
section
variable {ops : Array Oper} {o : Oper} {a : Act} {K : Act → World → Prop} {Q : Exit → Act → World → Prop} {E : Prop} {w : World}
/-- 'append(s, x...)' onto a row of the call's own, among operations whose order is open. -/
theorem st_append (hgd : o.guard = none) (s x : Operand) (t : TypeId) (hop : o.op = .call { callee := .builtin .append, args := #[s, x], argTypes := #[t, t] }) (ht : Tryz.prog.underlying t = some (.slice 45))
    (base : Nat) (v : Value) (xs : List Nat) (hs : a.eval s = v) (hown : Own w base v xs) (A : Option Addr) (n c : Nat) (ys : List Nat) (hn : ys.length = n) (hx : a.eval x = .slice A n c) (hr : Rd w A c ys)
    (hb : base ≤ w.heap.size) (hl : xs.length + ys.length ≤ 1099511627776)
    (hK : ∀ v' w', Own w' base v' (xs ++ ys) → Below base w w' → (∀ k, v'.ownBlock = some k → v.ownBlock = some k ∨ w.heap.size ≤ k) → w.grownBy w' v.ownBlock → K (a.put o.dst v') w') :
    if Region.wanted o (yielded ops a.tmps) = true then Oper.wp Tryz.prog o a w K Q else E := by
  have hw : Region.wanted o (yielded ops a.tmps) = true := by simp [Region.wanted, hgd]
  rw [if_pos hw]
  obtain ⟨i, h2, h3, h4, h5⟩ := info_parts info64
  subst hn
  have key : ∃ v' w', (Builtin.append_ #[t, t] o.type #[v, .slice A ys.length c]).run Tryz.prog w = .ok v' w' ∧ Own w' base v' (xs ++ ys) ∧ w.grownBy w' v.ownBlock ∧ (v'.ownBlock = v.ownBlock ∨ v'.ownBlock = some w.heap.size) := by
    cases A with
    | none =>
      have e : ys = [] := by
        rcases Nat.eq_zero_or_pos ys.length with h0 | h0
        · exact List.eq_nil_of_length_eq_zero h0
        · obtain ⟨ad, h⟩ := hr.addr h0; cases h
      subst e
      refine ⟨v, w, ?_, by simpa using hown, World.grownBy.refl w _, .inl rfl⟩
      rcases hown.own.2 with ⟨rfl, he⟩ | ⟨g, cap, cur, rfl, _, _, hnc, _⟩
      · simp [Builtin.append_, run_underlying ht, sizeOf, typeInfo, h2, Builtin.lenOf, Builtin.firstCells]
      · simp [Builtin.append_, run_underlying ht, sizeOf, typeInfo, h2, Builtin.lenOf, Builtin.firstCells, hnc, storeCells]
    | some ad =>
      obtain ⟨v', w', r1, r2, r3, _, r5⟩ := run_append_own_at (P := Tryz.prog) w base t o.type 45 i _ 1 8 ht h2 h3 h4 h5 rfl (by omega) v xs.length (enc xs) hown.own ad ys.length c (enc ys) (by simp [enc])
        (fun j u hu => by
          have hj : j < ys.length := by have := (List.getElem?_eq_some_iff.1 hu).1; rwa [enc_len] at this
          rw [enc_get ys j hj] at hu
          rw [← hu]; exact hr.get j hj) (enc_one ys) (by simp only [maxLen]; omega) (by omega) hb
      exact ⟨v', w', r1, ⟨by rw [List.length_append]; simpa [enc] using r2, hown.w64.append hr.w64⟩, r3, r5⟩
  obtain ⟨v', w', r1, r2, r3, r4⟩ := key
  unfold Oper.wp execOp
  simp only [hop, resolve, invoke, builtin, Sem.run_bind, Sem.run_pure, Result.andThen_ok, List.map_toArray, List.map_cons, List.map_nil, hs, hx, r1]
  refine hK v' w' r2 ((Below.refl base w).grown r3 hb fun k hk => (hown.own.lt k hk).1) (fun k hk => ?_) r3
  rcases r4 with e | e
  · exact .inl (e ▸ hk)
  · rw [e] at hk; obtain rfl := Option.some.inj hk; exact .inr (Nat.le_refl _)
end
set_option maxHeartbeats 1000000 in
set_option maxRecDepth 100000 in
theorem rdigits_c (A : Option Addr) (c : Nat) (xs : List Nat) (w : World) (h : Rd w A c xs) (hs : xs.length ≤ 1000000000) :
    Calls Tryz.prog 107 #[.slice A xs.length c] w (Res w (dg xs)) := by
  have hw := h.w64
  go_enter Tryz.func107, Tryz.ntmps107
  go_wp2
  go_loopw [3, 4] (fun v3 v4 wr => ∃ k : Nat, k ≤ xs.length ∧ v4 = .int .i64 k ∧ Own wr w.heap.size v3 (dg (xs.take k)) ∧ Ext w wr) (fun _ v _ => xs.length - (intOf v).toNat)
  case atStart => exact ⟨0, Nat.zero_le _, rfl, Own.nil _ _, Ext.refl _⟩
  case round =>
    obtain ⟨k, hk, rfl, hown, hE⟩ := hrel
    by_cases hlt : k < xs.length
    · obtain ⟨ad, rfl, hc⟩ := h.cell k hlt
      have hc1 := hE.cell hc
      have hx := hw.get k
      have hstep := dg_take_succ xs k hlt
      generalize xs.getD k 0 = x at hc hc1 hx hstep
      obtain ⟨d, hd⟩ : ∃ d, d = x % H := ⟨_, rfl⟩
      obtain ⟨q, hq⟩ : ∃ q, q = x / H := ⟨_, rfl⟩
      have hdB : d < B := by rw [hd]; exact Nat.lt_trans (Nat.mod_lt _ H_pos) H_lt_B
      have hqB : q < B := by rw [hq]; exact Nat.lt_of_le_of_lt (Nat.div_le_self _ _) hx
      have i1 : (x : Int) % 4294967296 = (d : Int) := by rw [hd, H_eq]; omega
      have i2 : (x : Int) / 4294967296 = (q : Int) := by rw [hq, H_eq]; omega
      have i3 : IntKind.u64.wrap (q : Int) = q := by rw [IntKind.wrap_u64]; rw [B_eq] at hqB; omega
      have i4 : (x : Int).tmod 4294967296 = (d : Int) := by rw [Int.tmod_eq_emod_of_nonneg (by omega)]; exact i1
      rw [← hd, ← hq] at hstep
      have HS := Lib.hid hstep
      clear hstep hd hq hx
      have hlen : (dg (xs.take k)).length ≤ 2000000000 := by rw [dg_len, List.length_take]; omega
      have HL := Lib.hid hlen
      clear hlen
      go_wp2
      go_region_held3 (fun w' => w'.cell? (ad.add k) = some (.int .u64 (x : Int)))
        (first | go_keep | (refine Ext.cell (w := w) (by assumption) ?_; assumption))
        ((refine st_append rfl _ _ _ rfl Tryz.underlying37 w.heap.size _ (dg (xs.take k)) rfl ((hown.ext ((Ext.refl _).al _)).drew) (some ⟨wr.heap.size, 0, none⟩) 2 2 [d, q] rfl rfl (Rd.new2 wr d q hdB hqB).drew ?hb ?hl ?_; (case hb => simp; have := hE.size; omega); (case hl => have := HL.out; simp; omega); intro v' w1 ho hb1 hat hg; have hE1 : Ext w w1 := Below.trans ((hE.al _).drew) hb1))
      go_wp2
      go_roundw
      case rel => exact ⟨k + 1, hlt, by go_num, by rw [HS.out]; exact ho, hE1⟩
      case measure => simp [intOf]; omega
    · obtain rfl : k = xs.length := by omega
      rw [List.take_length] at hown
      go_wp2
      go_ret
      exact ⟨_, rfl, hown, hE⟩

theorem rdigit_c (A : Option Addr) (c : Nat) (xs : List Nat) (i : Nat) (w : World) (h : Rd w A c xs) :
    Calls Tryz.prog 120 #[.slice A xs.length c, .int .i64 i] w fun e w' => e = .returned (.int .u64 (xs.getD i 0 : Nat)) ∧ w = w' := by
  by_cases hlt : i < xs.length
  · obtain ⟨ad, rfl, hc⟩ := h.cell i hlt
    generalize xs.getD i 0 = x at hc
    go_enter Tryz.func120, Tryz.ntmps120
    go_wp2
    go_ret
    exact ⟨rfl, rfl⟩
  · have e := getD_past (xs := xs) (i := i) (by omega)
    generalize xs.getD i 0 = x at e
    subst e
    go_enter Tryz.func120, Tryz.ntmps120
    go_wp2
    go_ret
    exact ⟨rfl, rfl⟩
set_option maxHeartbeats 1000000 in
set_option maxRecDepth 100000 in
theorem rshort_c (A : Option Addr) (c : Nat) (xs : List Nat) (w : World) (h : Rd w A c xs) :
    Calls Tryz.prog 116 #[.slice A xs.length c] w fun e w' => e = .returned (.slice A (topN xs) c) ∧ ∃ n, w' = w.drewN n := by
  have hl := h.len
  have hc := h.cap
  have ht := topN_le xs
  go_enter Tryz.func116, Tryz.ntmps116
  go_wp2
  go_loopw [3] (fun v wr => ∃ k : Nat, k ≤ xs.length ∧ topN xs ≤ k ∧ v = .int .i64 k ∧ ∃ n, wr = w.drewN n) (fun v _ => (intOf v).toNat)
  case atStart => exact ⟨xs.length, Nat.le_refl _, ht, rfl, 0, rfl⟩
  case round =>
    obtain ⟨k, hk, htk, rfl, n, rfl⟩ := hrel
    by_cases h0 : 0 < k
    · obtain ⟨ad, rfl, hcell⟩ := h.cell (k - 1) (by omega)
      have hidx : ((k : Int) - 1) = ((k - 1 : Nat) : Int) := by omega
      by_cases hz : xs.getD (k - 1) 0 = 0
      · have hne : topN xs ≠ k := fun e => topN_last xs (by omega) (by rw [e]; exact hz)
        rw [hz] at hcell
        go_wp2
        go_roundw
        case rel => exact ⟨k - 1, by omega, by omega, rfl, _, rfl⟩
        case measure => simp [intOf]; omega
      · have hne : topN xs = k := by
          rcases Nat.lt_or_ge (k - 1) (topN xs) with h1 | h1
          · omega
          · exact absurd (topN_zero xs _ h1) hz
        have HN := Lib.hid hne
        clear htk hne
        generalize xs.getD (k - 1) 0 = v at hcell hz
        have hzb : (((v : Nat) : Int) == 0) = false := by rw [beq_eq_false_iff_ne]; omega
        go_wp2
        go_ret
        exact ⟨by rw [HN.out]; rfl, _, rfl⟩
    · obtain rfl : k = 0 := by omega
      have h1 : topN xs = 0 := by omega
      have HN := Lib.hid h1
      clear htk h1
      go_wp2
      go_ret
      exact ⟨by rw [HN.out]; rfl, _, rfl⟩
end Go.Proofs.YtlnfmngginihfaaGreatDoor
