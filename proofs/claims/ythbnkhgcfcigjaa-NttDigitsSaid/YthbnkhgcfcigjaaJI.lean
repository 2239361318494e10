/- Chapter 04's reference: Reduce, Add, Sub, Times, Pow, Inverse, Root, Residues. Chapter 04's reference: word, Add, Sub, Times, Pow, Inverse, Root, Residues. -/
import Derived.Test.YthbnkhgcfcigjaaY4
import Derived.Test.YthbnkhgcfcigjaaJG
import Derived.Test.YthbnkhgcfcigjaaU1
set_option linter.unusedVariables false
set_option linter.unusedSimpArgs false
namespace Go.Proofs.Ythbnkhgcfcigjaa
open Go.RowKit

theorem val1 (a : Nat) : val [a] = a := by show a + B * 0 = a; rw [Nat.mul_zero, Nat.add_zero]
theorem val2 (a b : Nat) : val [a, b] = a + B * b := by show a + B * (b + B * 0) = _; rw [Nat.mul_zero, Nat.add_zero]
theorem cn_small {n : Nat} (h : n < B) : cn n = if n = 0 then [] else [n] := by
  by_cases h0 : n = 0
  · rw [if_pos h0, h0]; exact digs_zero B
  · rw [if_neg h0, show cn n = n % B :: digs B (n / B) from digs_pos two_le_B (by omega), Nat.mod_eq_of_lt h, Nat.div_eq_of_lt h, digs_zero]
/-- A word, and new memory. -/
def WR (w : World) (x : Nat) (e : Ending) (w' : World) : Prop := e = .returned (.int .u64 (x : Int)) ∧ Ext w w'
theorem pp_int : ((PP : Nat) : Int) = 18446744069414584321 := rfl
theorem rredm_c (hi lo : Nat) (w : World) (h1 : hi < B) (h2 : lo < B) : Calls Try.prog 86 #[.slice (some ⟨w.heap.size, 0, none⟩) 2 2, .slice (some ⟨w.heap.size + 1, 0, none⟩) 1 1] ((w.alloc (.cells #[.int .u64 (lo : Int), .int .u64 (hi : Int)] 22)).alloc (.cells #[.int .u64 18446744069414584321] 22))
    fun e w' => ∃ v, e = .returned v ∧ Own w' w.heap.size v (cn ((hi * B + lo) % PP)) ∧ Ext w w' := by
  have hp : PP < B := PP_lt_B
  have hmd := rmod_c (some ⟨w.heap.size, 0, none⟩) (some ⟨(w.alloc (.cells #[.int .u64 (lo : Int), .int .u64 (hi : Int)] 22)).heap.size, 0, none⟩) 2 1 [lo, hi] [PP] _ ((lit2 w lo hi h2 h1 22).ext ((Ext.refl _).al (.cells #[.int .u64 (PP : Int)] 22))) (Rd.nw1 (w.alloc (.cells #[.int .u64 (lo : Int), .int .u64 (hi : Int)] 22)) PP hp) (by rw [val1]; exact PP_pos) (by simp) (by simp)
  have e : (lo + B * hi) % PP = (hi * B + lo) % PP := by rw [Nat.add_comm, Nat.mul_comm]
  rw [val1, val2, World.size_alloc, e] at hmd
  have hE : Ext w ((w.alloc (.cells #[.int .u64 (lo : Int), .int .u64 (hi : Int)] 22)).alloc (.cells #[.int .u64 (PP : Int)] 22)) := ((Ext.refl w).al _).al _
  rw [pp_int] at hmd hE
  refine hmd.mono ?_
  rintro z w1 ⟨v, rfl, ho, hE1⟩
  exact ⟨v, rfl, ho.low hE.size, hE.tr hE1⟩
theorem rd_one {w : World} {A : Option Addr} {c r : Nat} (h : Rd w A c [r]) : ∃ ad, A = some ad ∧ w.cell? ad = some (.int .u64 (r : Int)) := by
  obtain ⟨ad, e, hx⟩ := h.cell 0 (by simp)
  rw [Addr.add_zero'] at hx
  exact ⟨ad, e, hx⟩
set_option maxHeartbeats 2000000 in
set_option maxRecDepth 100000 in
theorem rreduce_c (hi lo : Nat) (w : World) (h1 : hi < B) (h2 : lo < B) : Calls Try.prog 53 #[.int .u64 (hi : Int), .int .u64 (lo : Int)] w (WR w ((hi * B + lo) % PP)) := by
  have hmd := rredm_c hi lo w h1 h2
  have hr : (hi * B + lo) % PP < PP := Nat.mod_lt _ PP_pos
  generalize (hi * B + lo) % PP = r at *
  rw [cn_small (Nat.lt_trans hr PP_lt_B)] at hmd
  by_cases h0 : r = 0
  · subst h0
    rw [if_pos rfl] at hmd
    go_enter Try.func53, Try.ntmps53
    go_wp2_with fail
    refine hmd.mono ?_
    rintro z w1 ⟨v, rfl, ho, hE1⟩
    obtain ⟨A1, c1, rfl, hr1⟩ := ho.rd
    go_wp2_with fail
    go_ret
    exact ⟨rfl, hE1⟩
  · rw [if_neg h0] at hmd
    clear h0
    go_enter Try.func53, Try.ntmps53
    go_wp2_with fail
    refine hmd.mono ?_
    rintro z w1 ⟨v, rfl, ho, hE1⟩
    obtain ⟨A1, c1, rfl, hr1⟩ := ho.rd
    obtain ⟨ad, rfl, hx⟩ := rd_one hr1
    go_wp2_with fail
    go_ret
    exact ⟨rfl, hE1⟩
end Go.Proofs.Ythbnkhgcfcigjaa
namespace Go.Proofs.Ythbnkhgcfcigjaa
open Go.RowKit

theorem val_le2 {xs : List Nat} (h : xs.length ≤ 2) : val xs = xs.getD 0 0 + B * xs.getD 1 0 := by
  rcases xs with _ | ⟨a, _ | ⟨b, _ | ⟨c, xs⟩⟩⟩
  · show 0 = 0 + B * 0
    rw [Nat.mul_zero]
  · show val [a] = a + B * 0
    rw [val1, Nat.mul_zero, Nat.add_zero]
  · exact val2 a b
  · simp at h
section
variable {ops : Array Oper} {rest : List Oper} {o : Oper} {a : Act} {Q : Exit → Act → World → Prop} {w : World}
/-- 'copy(two[:], x)'. -/
theorem wp_copy2 (hg : o.guard = none) (d s : Operand) (t t' : TypeId) (hop : o.op = .call { callee := .builtin .copy, args := #[d, s], argTypes := #[t, t'] }) (ht : Try.prog.underlying t = some (.slice 22)) (g : Nat) (hd : a.eval d = .slice (some ⟨g, 0, none⟩) 2 2)
    (T : TypeId) (hb : w.heap[g]? = some (.cells #[.int .u64 0, .int .u64 0] T (0, 0))) (A : Option Addr) (m c : Nat) (xs : List Nat) (hm : xs.length = m) (hs : a.eval s = .slice A m c) (hr : Rd w A c xs) (hle : xs.length ≤ 2)
    (hK : ∀ w', w'.cell? ⟨g, 0, none⟩ = some (.int .u64 (xs.getD 0 0 : Nat)) → w'.cell? ⟨g, 1, none⟩ = some (.int .u64 (xs.getD 1 0 : Nat)) → Gb g w w' → wpList Try.prog ops Q rest (a.put o.dst (goInt m)) w') :
    wpList Try.prog ops Q (o :: rest) a w := by
  subst hm
  obtain ⟨i, h2, h3, h4, h5⟩ := info_parts info64
  have key : ∃ w', (Builtin.copy_ #[t, t'] o.type #[.slice (some ⟨g, 0, none⟩) 2 2, .slice A xs.length c]).run Try.prog w = .ok (goInt xs.length) w' ∧ w'.heap[g]? = some (.cells #[.int .u64 (xs.getD 0 0 : Nat), .int .u64 (xs.getD 1 0 : Nat)] T (0, 0)) ∧ Gb g w w' := by
    rcases Nat.eq_zero_or_pos xs.length with h0 | h0
    · obtain rfl := List.eq_nil_of_length_eq_zero h0
      exact ⟨w, run_copy_none w t t' o.type 22 (some ⟨g, 0, none⟩) A 2 2 0 c ht (by rw [h2]; simp [h4]) rfl, hb, Gb.refl _ _⟩
    · obtain ⟨ad, rfl⟩ := hr.addr h0
      have el : (enc xs).length = xs.length := enc_len xs
      have hrun := run_copy_row (P := Try.prog) w t t' o.type 22 g 0 2 2 ad xs.length c _ _ (enc xs) ht (by rw [h2]; simp [h4]) hb (by rw [el]; exact (Nat.min_eq_left hle).symm) (fun j v hj => by
        have hjl : j < xs.length := by have := (List.getElem?_eq_some_iff.1 hj).1; rwa [el] at this
        rw [enc_get xs j hjl] at hj
        rw [← hj]
        exact hr.get j hjl) (by rw [el]; simp; omega) (enc_one xs)
      rw [el] at hrun
      refine ⟨_, hrun, ?_, gb_setRow _ _ _⟩
      rw [setRow_heap w g _ _ _ _ hb]
      rcases xs with _ | ⟨a, _ | ⟨b, _ | ⟨c, xs⟩⟩⟩
      · simp at h0
      · rfl
      · rfl
      · simp at hle
  obtain ⟨w', hrun, k1, k2⟩ := key
  refine wpList_plain hg fun K hK' => ?_
  unfold Oper.wp execOp
  simp only [hop, resolve, invoke, builtin, Sem.run_bind, Sem.run_pure, Result.andThen_ok, List.map_toArray, List.map_cons, List.map_nil, hd, hs, hrun]
  have c0 : w'.cell? ⟨g, 0, none⟩ = some (.int .u64 (xs.getD 0 0 : Nat)) := by rw [cell_of_row w' g 0 _ _ _ k1]; rfl
  have c1 : w'.cell? ⟨g, 1, none⟩ = some (.int .u64 (xs.getD 1 0 : Nat)) := by rw [cell_of_row w' g 1 _ _ _ k1]; rfl
  exact hK' _ _ (hK w' c0 c1 k2)
end
set_option maxHeartbeats 2000000 in
set_option maxRecDepth 100000 in
theorem rword04_c (A : Option Addr) (c : Nat) (xs : List Nat) (w : World) (h : Rd w A c xs) (hl : xs.length ≤ 2) :
    Calls Try.prog 82 #[.slice A xs.length c] w (WR w (val xs % PP)) := by
  have hrd := fun w => rreduce_c (xs.getD 1 0) (xs.getD 0 0) w (h.w64.get 1) (h.w64.get 0)
  have e : xs.getD 1 0 * B + xs.getD 0 0 = val xs := by rw [val_le2 hl, Nat.add_comm, Nat.mul_comm]
  rw [e] at hrd
  have HX := Lib.hid (h.ext ((Ext.refl w).al (.cells #[.int .u64 0, .int .u64 0] 95)))
  generalize val xs % PP = r at *
  go_enter Try.func82, Try.ntmps82
  go_wp2_with (with_reducible refine wp_copy2 rfl (.tmp 4) (.tmp 5) 30 38 rfl Try.underlying30 w.heap.size rfl _ (heap_alloc_new w _) A xs.length c xs rfl rfl HX.out hl ?_; intro w2 q0 q1 hg2)
  refine (hrd _).mono ?_
  rintro z w3 ⟨rfl, hE3⟩
  go_wp2_with fail
  go_ret
  exact ⟨rfl, (hg2.ext ((Ext.refl w).al _) (Nat.le_refl _)).tr hE3⟩
theorem two_words {a b : Nat} (ha : a < B) (hb : b < B) : a + b < B ^ 2 ∧ a * b < B ^ 2 := by
  have h1 : a * b ≤ (B - 1) * (B - 1) := Nat.mul_le_mul (by omega) (by omega)
  have h2 : (B - 1) * (B - 1) < B ^ 2 := by rw [B_eq]; decide
  have h3 : B + B ≤ B ^ 2 := by rw [B_eq]; decide
  omega
set_option maxHeartbeats 2000000 in
set_option maxRecDepth 100000 in
theorem radd04_c (a b : Nat) (w : World) (ha : a < B) (hb : b < B) : Calls Try.prog 47 #[.int .u64 (a : Int), .int .u64 (b : Int)] w (WR w ((a + b) % PP)) := by
  have h1 := radd_c (some ⟨w.heap.size, 0, none⟩) (some ⟨(w.alloc (.cells #[.int .u64 (a : Int)] 22)).heap.size, 0, none⟩) 1 1 [a] [b] _ ((Rd.nw1 w a ha).ext ((Ext.refl _).al (.cells #[.int .u64 (b : Int)] 22))) (Rd.nw1 (w.alloc (.cells #[.int .u64 (a : Int)] 22)) b hb) (by simp) (by simp)
  have hl : (cn ((a + b))).length ≤ 2 := (cn_len_le _ _).2 (two_words ha hb).1
  have h2 := fun A c w h => rword04_c A c (cn ((a + b))) w h hl
  rw [val_cn] at h2
  rw [val1, val1, World.size_alloc] at h1
  have hE : Ext w ((w.alloc (.cells #[.int .u64 (a : Int)] 22)).alloc (.cells #[.int .u64 (b : Int)] 22)) := ((Ext.refl w).al _).al _
  have HE := Lib.hid hE
  generalize cn ((a + b)) = R at *
  generalize (a + b) % PP = r at *
  clear hE hl
  go_enter Try.func47, Try.ntmps47
  go_wp2_with fail
  refine h1.mono ?_
  rintro z w1 ⟨v, rfl, ho, hE1⟩
  obtain ⟨A1, c1, rfl, hr1⟩ := ho.rd
  go_wp2_with fail
  refine (h2 _ _ _ hr1).mono ?_
  rintro z w2 ⟨rfl, hE2⟩
  go_wp2_with fail
  go_ret
  exact ⟨rfl, (HE.out.tr hE1).tr hE2⟩
set_option maxHeartbeats 2000000 in
set_option maxRecDepth 100000 in
theorem rtimes04_c (a b : Nat) (w : World) (ha : a < B) (hb : b < B) : Calls Try.prog 49 #[.int .u64 (a : Int), .int .u64 (b : Int)] w (WR w ((a * b) % PP)) := by
  have h1 := rmul_c (some ⟨w.heap.size, 0, none⟩) (some ⟨(w.alloc (.cells #[.int .u64 (a : Int)] 22)).heap.size, 0, none⟩) 1 1 [a] [b] _ ((Rd.nw1 w a ha).ext ((Ext.refl _).al (.cells #[.int .u64 (b : Int)] 22))) (Rd.nw1 (w.alloc (.cells #[.int .u64 (a : Int)] 22)) b hb) (by simp) (by simp)
  have hl : (cn ((a * b))).length ≤ 2 := (cn_len_le _ _).2 (two_words ha hb).2
  have h2 := fun A c w h => rword04_c A c (cn ((a * b))) w h hl
  rw [val_cn] at h2
  rw [val1, val1, World.size_alloc] at h1
  have hE : Ext w ((w.alloc (.cells #[.int .u64 (a : Int)] 22)).alloc (.cells #[.int .u64 (b : Int)] 22)) := ((Ext.refl w).al _).al _
  have HE := Lib.hid hE
  generalize cn ((a * b)) = R at *
  generalize (a * b) % PP = r at *
  clear hE hl
  go_enter Try.func49, Try.ntmps49
  go_wp2_with fail
  refine h1.mono ?_
  rintro z w1 ⟨v, rfl, ho, hE1⟩
  obtain ⟨A1, c1, rfl, hr1⟩ := ho.rd
  go_wp2_with fail
  refine (h2 _ _ _ hr1).mono ?_
  rintro z w2 ⟨rfl, hE2⟩
  go_wp2_with fail
  go_ret
  exact ⟨rfl, (HE.out.tr hE1).tr hE2⟩
set_option maxHeartbeats 2000000 in
set_option maxRecDepth 100000 in
theorem rsub04_c (a b : Nat) (w : World) (ha : a < B) (hb : b < PP) : Calls Try.prog 48 #[.int .u64 (a : Int), .int .u64 (b : Int)] w (WR w ((a + PP - b) % PP)) := by
  have hbB := Nat.lt_trans hb PP_lt_B
  have h1 := radd_c (some ⟨w.heap.size, 0, none⟩) (some ⟨(w.alloc (.cells #[.int .u64 (a : Int)] 22)).heap.size, 0, none⟩) 1 1 [a] [PP] _ ((Rd.nw1 w a ha).ext ((Ext.refl _).al (.cells #[.int .u64 (PP : Int)] 22))) (Rd.nw1 (w.alloc (.cells #[.int .u64 (a : Int)] 22)) PP PP_lt_B) (by simp) (by simp)
  have hl : (cn (a + PP)).length ≤ 2 := (cn_len_le _ _).2 (two_words ha PP_lt_B).1
  have hl2 : (cn (a + PP - b)).length ≤ 2 := (cn_len_le _ _).2 (Nat.lt_of_le_of_lt (Nat.sub_le _ _) (two_words ha PP_lt_B).1)
  have hsb := fun A c w h => rsub_c A (some ⟨w.heap.size, 0, none⟩) c 1 (cn (a + PP)) [b] (w.alloc (.cells #[.int .u64 (b : Int)] 22)) h (Rd.nw1 w b hbB) (by rw [val_cn, val1]; omega) (by omega) (by simp)
  have h2 := fun A c w h => rword04_c A c (cn (a + PP - b)) w h hl2
  rw [val_cn] at h2
  rw [val1, val1, World.size_alloc, pp_int] at h1
  simp only [val_cn, val1] at hsb
  have hE : Ext w ((w.alloc (.cells #[.int .u64 (a : Int)] 22)).alloc (.cells #[.int .u64 (PP : Int)] 22)) := ((Ext.refl w).al _).al _
  rw [pp_int] at hE
  have HE := Lib.hid hE
  generalize cn (a + PP - b) = R at *
  generalize cn (a + PP) = S at *
  generalize (a + PP - b) % PP = r at *
  clear hE hl hl2
  go_enter Try.func48, Try.ntmps48
  go_wp2_with fail
  refine h1.mono ?_
  rintro z w1 ⟨v, rfl, ho, hE1⟩
  obtain ⟨A1, c1, rfl, hr1⟩ := ho.rd
  go_wp2_with fail
  refine (hsb _ _ _ (hr1.ext ((Ext.refl _).al _))).mono ?_
  rintro z w2 ⟨v2, rfl, ho2, hE2⟩
  obtain ⟨A2, c2, rfl, hr2⟩ := ho2.rd
  go_wp2_with fail
  refine (h2 _ _ _ hr2).mono ?_
  rintro z w3 ⟨rfl, hE3⟩
  go_wp2_with fail
  go_ret
  exact ⟨rfl, (((HE.out.tr hE1).al _).tr hE2).tr hE3⟩
set_option maxHeartbeats 2000000 in
set_option maxRecDepth 100000 in
theorem rpow04_c (a k : Nat) (w : World) (ha : a < B) (hk : k < B) : Calls Try.prog 50 #[.int .u64 (a : Int), .int .u64 (k : Int)] w (WR w (a ^ k % PP)) := by
  obtain ⟨r, hr⟩ : ∃ r, a ^ k % PP = r := ⟨_, rfl⟩
  have hr' : pwI 1 a k = r := by unfold pwI; rw [Nat.one_mul]; exact hr
  rw [hr]
  clear hr
  have HR := Lib.hid hr'
  clear hr'
  go_enter Try.func50, Try.ntmps50
  go_wp2_with fail
  go_loopw [0, 1, 5] (fun v0 v1 v5 wr => ∃ a' k' o : Nat, v0 = .int .u64 (a' : Int) ∧ v1 = .int .u64 (k' : Int) ∧ v5 = .int .u64 (o : Int) ∧ a' < B ∧ k' < B ∧ o < PP ∧ pwI o a' k' = r ∧ Ext w wr) (fun _ v _ _ => (intOf v).toNat)
  case atStart => exact ⟨a, k, 1, rfl, rfl, rfl, ha, hk, by rw [PP_eq]; omega, HR.out, Ext.refl _⟩
  case round =>
    clear HR ha hk
    obtain ⟨a', k', o, rfl, rfl, rfl, ha, hk, ho, hrel, hE⟩ := hrel
    have hoB : o < B := Nat.lt_trans ho PP_lt_B
    have h1 : (k' : Int).tmod 2 = ((k' % 2 : Nat) : Int) := by rw [Int.tmod_eq_emod_of_nonneg (by omega)]; omega
    have h1' : (k' : Int) % 2 = ((k' % 2 : Nat) : Int) := by omega
    have h2 : (k' : Int) / 2 = ((k' / 2 : Nat) : Int) := by omega
    have h2' : (k' : Int).tdiv 2 = ((k' / 2 : Nat) : Int) := by rw [Int.tdiv_eq_ediv_of_nonneg (by omega)]; omega
    by_cases h0 : k' = 0
    · subst h0
      have hd := pow_done o a' ho
      rw [hd] at hrel
      subst hrel
      clear hd h1 h2 h1' h2' ha hk ho hoB
      go_wp2_with fail
      go_ret
      exact ⟨rfl, hE⟩
    · have hs := pow_step (out := o) (a := a') (k := k') (by omega)
      rw [hrel] at hs
      have hp : decide (0 < k') = true := decide_eq_true (by omega)
      have hkw : IntKind.u64.wrap ((k' / 2 : Nat) : Int) = ((k' / 2 : Nat) : Int) := by rw [IntKind.wrap_u64]; rw [B_eq] at hk; omega
      have hm2 := fun w => rtimes04_c a' a' w ha ha
      have hm1 := fun w => rtimes04_c o a' w hoB ha
      have hq : a' * a' % PP < B := Nat.lt_trans (Nat.mod_lt _ PP_pos) PP_lt_B
      have hkk : k' / 2 < B := by omega
      have hlt : k' / 2 < k' := by omega
      rcases (show k' % 2 = 1 ∨ k' % 2 = 0 by omega) with e | e
      · rw [if_pos e] at hs
        rw [e] at h1 h1'
        have HS := Lib.hid hs
        have HB := Lib.hid (Nat.mod_lt (o * a') PP_pos)
        clear hs hrel e ho hoB h0
        generalize a' * a' % PP = a2 at *
        generalize o * a' % PP = o2 at *
        generalize k' / 2 = k2 at *
        go_wp2_with fail
        refine (hm1 _).mono ?_
        rintro z w1 ⟨rfl, hE1⟩
        go_wp2_with fail
        refine (hm2 _).mono ?_
        rintro z w2 ⟨rfl, hE2⟩
        go_wp2_with fail
        go_roundw
        case rel => exact ⟨a2, k2, o2, rfl, rfl, rfl, hq, hkk, HB.out, HS.out, (hE.tr hE1).tr hE2⟩
        case measure => simp [intOf]; omega
      · rw [if_neg (by omega)] at hs
        rw [e] at h1 h1'
        have HS := Lib.hid hs
        have HB := Lib.hid ho
        clear hs hrel e ho hoB h0 hm1
        generalize a' * a' % PP = a2 at *
        generalize k' / 2 = k2 at *
        go_wp2_with fail
        refine (hm2 _).mono ?_
        rintro z w1 ⟨rfl, hE1⟩
        go_wp2_with fail
        go_roundw
        case rel => exact ⟨a2, k2, o, rfl, rfl, rfl, hq, hkk, HB.out, HS.out, hE.tr hE1⟩
        case measure => simp [intOf]; omega
theorem rinverse04_c (a : Nat) (w : World) (ha : a < B) : Calls Try.prog 51 #[.int .u64 (a : Int)] w (WR w (a ^ (PP - 2) % PP)) := by
  have hp := fun w => rpow04_c a (PP - 2) w ha (by rw [PP_eq, B_eq]; omega)
  rw [show (((PP - 2 : Nat) : Nat) : Int) = 18446744069414584319 from rfl] at hp
  generalize a ^ (PP - 2) % PP = r at *
  go_enter Try.func51, Try.ntmps51
  go_wp2_with fail
  refine (hp _).mono ?_
  rintro z w1 ⟨rfl, hE1⟩
  go_wp2_with fail
  go_ret
  exact ⟨rfl, hE1⟩
theorem rroot04_c (n : Nat) (w : World) (h1 : 1 ≤ n) (h2 : n ≤ 65536) : Calls Try.prog 15 #[.int .i64 (n : Int)] w (WR w (rootN n)) := by
  have hq : (18446744069414584320 : Int) / (n : Int) = (((PP - 1) / n : Nat) : Int) := by rw [PP_eq, Int.natCast_ediv]; rfl
  have hqB : (PP - 1) / n < B := by
    refine Nat.lt_of_le_of_lt (Nat.div_le_self _ _) ?_
    rw [PP_eq, B_eq]
    omega
  have hpw : ∀ w, Calls Try.prog 50 #[.int .u64 7, .int .u64 (((PP - 1) / n : Nat) : Int)] w (WR w (rootN n)) := fun w => rpow04_c 7 ((PP - 1) / n) w (by rw [B_eq]; omega) hqB
  generalize rootN n = r at *
  have hw1 : IntKind.u64.wrap (n : Int) = (n : Int) := by rw [IntKind.wrap_u64]; omega
  have hn0 : ((n : Int) == 0) = false := by rw [beq_eq_false_iff_ne]; omega
  generalize (PP - 1) / n = q at *
  go_enter Try.func15, Try.ntmps15
  go_wp2_with fail
  refine (hpw _).mono ?_
  rintro z w1 ⟨rfl, hE1⟩
  go_wp2
  go_ret
  exact ⟨rfl, hE1⟩
set_option maxHeartbeats 2000000 in
set_option maxRecDepth 100000 in
theorem rresidues04_c (A : Option Addr) (c : Nat) (xs : List Nat) (w : World) (h : Rd w A c xs) :
    Calls Try.prog 21 #[.slice A xs.length c] w fun e w' => e = .returned (.bool (!bigB xs)) ∧ w = w' := by
  have hl := h.len
  go_enter Try.func21, Try.ntmps21
  go_wp2_with fail
  go_loopw [3] (fun v3 wr => ∃ i : Nat, i ≤ xs.length ∧ v3 = .int .i64 (i : Int) ∧ (∀ j, j < i → xs.getD j 0 < PP) ∧ wr = w) (fun v _ => xs.length - (intOf v).toNat)
  case atStart => exact ⟨0, Nat.zero_le _, rfl, fun j hj => absurd hj (by omega), rfl⟩
  case round =>
    obtain ⟨i, hi, rfl, hsm, rfl⟩ := hrel
    by_cases hlt : i < xs.length
    · obtain ⟨ad, rfl, hx⟩ := h.cell i hlt
      have hb1 := fun h => bigB_true i hlt h
      obtain ⟨x, hx'⟩ : ∃ x, xs.getD i 0 = x := ⟨_, rfl⟩
      have hsm2 : x < PP → ∀ j, j < i + 1 → xs.getD j 0 < PP := fun hp j hj => by
        rcases Nat.lt_or_ge j i with h4 | h4
        · exact hsm j h4
        · obtain rfl : j = i := by omega
          rw [hx']; exact hp
      rw [hx'] at hx hb1
      have HS := Lib.hid hsm2
      have HB := Lib.hid hb1
      clear hx' hsm hsm2 hb1
      by_cases hp : PP ≤ x
      · have hb := HB.out hp
        have hd : decide ((18446744069414584321 : Int) ≤ (x : Int)) = true := decide_eq_true (by rw [PP_eq] at hp; omega)
        have HB2 := Lib.hid hb
        clear hp HS HB hb
        go_wp2_with fail
        go_ret
        exact ⟨by rw [HB2.out]; rfl, rfl⟩
      · have hs := HS.out (by omega)
        have hd : decide ((18446744069414584321 : Int) ≤ (x : Int)) = false := decide_eq_false (by rw [PP_eq] at hp; omega)
        have HS2 := Lib.hid hs
        clear hp HS HB hs
        go_wp2_with fail
        go_roundw
        case rel => exact ⟨i + 1, hlt, by go_num, HS2.out, by first | trivial | rfl⟩
        case measure => simp [intOf]; omega
    · obtain rfl : i = xs.length := by omega
      have hb := bigB_false hsm
      have HB2 := Lib.hid hb
      clear hsm hb
      go_wp2_with fail
      go_ret
      exact ⟨by rw [HB2.out]; rfl, rfl⟩
end Go.Proofs.Ythbnkhgcfcigjaa
