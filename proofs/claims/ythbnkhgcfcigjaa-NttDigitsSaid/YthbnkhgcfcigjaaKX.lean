/- package ntt: back, round. package ntt: long; slices.Clone of residues. package ntt: Transform, Back, pairOf, Round, Turned, Long. package ntt: Turned, Long. -/
import Derived.Test.YthbnkhgcfcigjaaKS
import Derived.Deep.RegionWith
import Derived.Laws.CopyOwn
import Derived.Lib.SliceRun
import Derived.Deep.OwnRows
import Derived.Test.YthbnkhgcfcigjaaKF
import Derived.Test.YthbnkhgcfcigjaaKI
set_option linter.unusedVariables false
set_option linter.unusedSimpArgs false
namespace Go.Proofs.Ythbnkhgcfcigjaa
open Go.RowKit

theorem Rk.res {w : World} {xs : List Nat} {e : Ending} {w' : World} (h : Rk w xs e w') (hl : xs.length ≤ 1000000) : Rs.Res w xs e w' := by
  obtain ⟨g, rfl, hg, hb, hE⟩ := h
  exact ⟨_, rfl, hb.own hg (by omega), hE⟩
/-- The first i elements are turned. -/
def Hf (F : Nat → Nat) (ys zs : List Nat) (i : Nat) : Prop := zs.length = ys.length ∧ ∀ j, zs.getD j 0 = if j < i then F j else ys.getD j 0
theorem Hf.zero (F : Nat → Nat) (ys : List Nat) : Hf F ys ys 0 := ⟨rfl, fun j => by rw [if_neg (by omega)]⟩
theorem Hf.succ {F : Nat → Nat} {ys zs : List Nat} {i : Nat} (h : Hf F ys zs i) (hi : i < ys.length) : Hf F ys (zs.set i (F i)) (i + 1) := by
  refine ⟨by rw [List.length_set]; exact h.1, fun j => ?_⟩
  rw [gset _ _ _ _ (by rw [h.1]; exact hi), h.2 j]
  by_cases e : i = j
  · subst e
    rw [if_pos rfl, if_pos (by omega)]
  · rw [if_neg e]
    by_cases e2 : j < i
    · rw [if_pos e2, if_pos (by omega)]
    · rw [if_neg e2, if_neg (by omega)]
theorem Hf.get {F : Nat → Nat} {ys zs : List Nat} {i : Nat} (h : Hf F ys zs i) : zs.getD i 0 = ys.getD i 0 := by rw [h.2 i, if_neg (by omega)]
theorem Hf.done {F : Nat → Nat} {ys zs : List Nat} (h : Hf F ys zs ys.length) : zs = tab ys.length F := tab_eq h.1 fun i hi => by rw [h.2 i, if_pos hi]
set_option maxRecDepth 100000 in
set_option maxHeartbeats 4000000 in
theorem back_c (m : Nat) (hm : m ≤ 16) (A : Option Addr) (c : Nat) (xs : List Nat) (w : World) (h : Rd w A c xs) (hl : xs.length = 2 ^ m) (hal : Al xs) :
    Calls Try.prog 75 #[.slice A xs.length c] w (Rk w (bkL xs)) := by
  have hNb : xs.length ≤ 65536 := by rw [hl]; exact Nat.pow_le_pow_right (n := 2) (by omega) hm
  have hN0 : 0 < xs.length := by rw [hl]; exact Nat.two_pow_pos m
  have hrt := fun w => root_c xs.length w (by omega) (by omega)
  have hpw := fun w => power04_c (rootN xs.length) (PP - 2) w (Nat.lt_trans (rootN_lt _) PP_lt_B) (by rw [PP_eq, B_eq]; omega)
  have hiv := fun w => power04_c xs.length (PP - 2) w (by rw [B_eq]; omega) (by rw [PP_eq, B_eq]; omega)
  have htr := fun w h => transform_c m hm A c xs (vN xs.length) w h hl hal (vN_lt _) (by rw [hl]; exact vN_gd (by omega))
  have hbk : bkL xs = tab xs.length fun k => (dftL (vN xs.length) xs).getD k 0 * iN xs.length % PP := tab_congr fun i hi => by rw [dftL_get _ _ hi]
  have hdl := dftL_len (vN xs.length) xs
  have hda := dftL_al (vN xs.length) xs
  rw [hbk]
  clear hl hal hbk
  unfold vN iN at *
  have hviB : xs.length ^ (PP - 2) % PP < B := Nat.lt_trans (Nat.mod_lt _ PP_pos) PP_lt_B
  generalize dftL (rootN xs.length ^ (PP - 2) % PP) xs = ys at *
  generalize rootN xs.length ^ (PP - 2) % PP = v at *
  generalize xs.length ^ (PP - 2) % PP = iv at *
  rw [show (((PP - 2 : Nat) : Nat) : Int) = 18446744069414584319 from rfl] at hpw hiv
  generalize rootN xs.length = r at *
  have w1 : IntKind.u64.wrap (xs.length : Int) = (xs.length : Int) := by rw [IntKind.wrap_u64]; omega
  generalize xs.length = N at *
  obtain rfl : N = ys.length := hdl.symm
  clear hdl
  go_enter Try.func75, Try.ntmps75
  go_wp2_with fail
  refine (hrt _).mono ?_
  rintro z w1 ⟨rfl, rfl⟩
  go_wp2_with fail
  refine (hpw _).mono ?_
  rintro z w1 ⟨rfl, rfl⟩
  go_wp2_with fail
  refine (htr _ h).mono ?_
  rintro z w1 ⟨g, rfl, hg, hb, hE⟩
  go_wp2_with fail
  refine (hiv _).mono ?_
  rintro z w2 ⟨rfl, rfl⟩
  go_wp2_with fail
  go_loopw [20] (fun v20 wr => ∃ (i : Nat) (zs : List Nat), i ≤ ys.length ∧ v20 = .int .i64 (i : Int) ∧ Rs.Bk wr g zs ∧ Hf (fun k => ys.getD k 0 * iv % PP) ys zs i ∧ Gb g w1 wr) (fun v _ => ys.length - (intOf v).toNat)
  case atStart => exact ⟨0, ys, Nat.zero_le _, rfl, hb, Hf.zero _ _, Gb.refl _ _⟩
  case round =>
    obtain ⟨i, zs, hi, rfl, hb3, hf3, hg3⟩ := hrel
    by_cases hlt : i < ys.length
    · have e1 := hb3.cell i (by rw [hf3.1]; exact hlt)
      have ef := hb3.frozen i
      have hs := hf3.succ hlt
      have hy := hda i
      rw [hf3.get] at e1
      have hm1 := fun w => times_c (ys.getD i 0) iv w (Nat.lt_trans hy PP_lt_B) hviB
      have hyB : ys.getD i 0 * iv % PP < B := Nat.lt_trans (Nat.mod_lt _ PP_pos) PP_lt_B
      have hb4 := hb3.set i (ys.getD i 0 * iv % PP) hyB
      have hg4 := hg3.set i (.int .u64 ((ys.getD i 0 * iv % PP : Nat) : Int))
      have HS := Lib.hid hs
      have HB4 := Lib.hid hb4
      have HG4 := Lib.hid hg4
      clear hs hb4 hg4 hda
      have HQ : ∃ y p, ys.getD i 0 = y ∧ ys.getD i 0 * iv % PP = p := ⟨_, _, rfl, rfl⟩
      obtain ⟨y, p, hy1, hp1⟩ := HQ
      rw [hp1] at hm1 hyB HS HB4 HG4
      rw [hy1] at e1 hm1 hy
      clear hy1 hp1
      go_wp2_with fail
      refine (hm1 _).mono ?_
      rintro z w5 ⟨rfl, rfl⟩
      go_wp2_with fail
      go_roundw
      case rel => exact ⟨i + 1, _, hlt, by go_num, HB4.out, HS.out, HG4.out⟩
      case measure => simp [intOf]; omega
    · obtain rfl : i = ys.length := by omega
      have hd := hf3.done
      go_wp2_with fail
      go_ret
      rw [← hd]
      refine ⟨g, ?_, hg, hb3, hg3.ext hE hg⟩
      rw [hf3.1]
      rfl
set_option maxRecDepth 100000 in
set_option maxHeartbeats 4000000 in
theorem round_c (m : Nat) (hm : m ≤ 16) (A A' : Option Addr) (c c' : Nat) (xs xs' : List Nat) (w : World) (h : Rd w A c xs) (h' : Rd w A' c' xs') (hl : xs.length = 2 ^ m) (hl' : xs'.length = 2 ^ m) (hal : Al xs) (hal' : Al xs') :
    Calls Try.prog 58 #[.slice A xs.length c, .slice A' xs'.length c'] w (Rk w (cycL xs xs')) := by
  have hNb : xs.length ≤ 65536 := by rw [hl]; exact Nat.pow_le_pow_right (n := 2) (by omega) hm
  have hN0 : 0 < xs.length := by rw [hl]; exact Nat.two_pow_pos m
  have hrt := fun w => root_c xs.length w (by omega) (by omega)
  have htr := fun w h => transform_c m hm A c xs (rootN xs.length) w h hl hal (rootN_lt _) (by rw [hl]; exact root_gd (by omega))
  have htr' := fun w h => transform_c m hm A' c' xs' (rootN xs.length) w h hl' hal' (rootN_lt _) (by rw [hl]; exact root_gd (by omega))
  have hbk := fun A c w h => back_c m hm A c (prL (rootN xs.length) xs xs') w h (by rw [prL_len, hl]) (prL_al _ _ _)
  have hcy : bkL (prL (rootN xs.length) xs xs') = cycL xs xs' := by
    have := bk_pr (m := m) (by omega) hl hl'
    rwa [← hl] at this
  have hpr : prL (rootN xs.length) xs xs' = tab xs.length fun k => (dftL (rootN xs.length) xs).getD k 0 * (dftL (rootN xs.length) xs').getD k 0 % PP := tab_congr fun i hi => by
    rw [dftL_get _ _ hi, dftL_get _ _ (by rw [hl', ← hl]; exact hi)]
  have hpl := prL_len (rootN xs.length) xs xs'
  rw [hcy] at hbk
  rw [hpr] at hbk hpl
  rw [hpl] at hbk
  clear hcy hpr hpl
  have hll : xs'.length = xs.length := by rw [hl', hl]
  have hdl := dftL_len (rootN xs.length) xs
  have hda := dftL_al (rootN xs.length) xs
  have hdl' := dftL_len (rootN xs.length) xs'
  have hda' := dftL_al (rootN xs.length) xs'
  rw [hll] at hdl' htr'
  rw [hll]
  clear hl hl' hal hal' hll
  generalize cycL xs xs' = R at *
  generalize dftL (rootN xs.length) xs = ys at *
  generalize dftL (rootN xs.length) xs' = ys' at *
  generalize rootN xs.length = r at *
  generalize xs.length = N at *
  obtain rfl : N = ys.length := hdl.symm
  have HDL' := Lib.hid hdl'
  clear hdl hdl'
  go_enter Try.func58, Try.ntmps58
  go_wp2_with fail
  refine (hrt _).mono ?_
  rintro z w1 ⟨rfl, rfl⟩
  go_wp2_with fail
  refine (htr _ h).mono ?_
  rintro z w1 ⟨g, rfl, hg, hb, hE⟩
  go_wp2_with fail
  refine (hrt _).mono ?_
  rintro z w1' ⟨rfl, rfl⟩
  go_wp2_with fail
  refine (htr' _ (h'.ext hE)).mono ?_
  rintro z w2 ⟨g', rfl, hg', hb', hE'⟩
  have hb2 := hb.ext hE'
  have hE2 := hE.tr hE'
  have hgl := hb.lt
  rw [HDL'.out]
  clear hb hE hE' hrt htr htr' h h'
  go_wp2_with fail
  go_loopw [20] (fun v20 wr => ∃ (i : Nat) (zs : List Nat), i ≤ ys.length ∧ v20 = .int .i64 (i : Int) ∧ Rs.Bk wr g zs ∧ Hf (fun k => ys.getD k 0 * ys'.getD k 0 % PP) ys zs i ∧ Gb g w2 wr) (fun v _ => ys.length - (intOf v).toNat)
  case atStart => exact ⟨0, ys, Nat.zero_le _, rfl, hb2, Hf.zero _ _, Gb.refl _ _⟩
  case round =>
    obtain ⟨i, zs, hi, rfl, hb3, hf3, hg3⟩ := hrel
    by_cases hlt : i < ys.length
    · have e1 := hb3.cell i (by rw [hf3.1]; exact hlt)
      have e2 := hg3.far (hb'.cell i (by rw [HDL'.out]; exact hlt)) (by show g' ≠ g; omega)
      have ef := hb3.frozen i
      have hs := hf3.succ hlt
      have hy := hda i
      have hy' := hda' i
      rw [hf3.get] at e1
      have hm1 := fun w => times_c (ys.getD i 0) (ys'.getD i 0) w (Nat.lt_trans hy PP_lt_B) (Nat.lt_trans hy' PP_lt_B)
      have hyB : ys.getD i 0 * ys'.getD i 0 % PP < B := Nat.lt_trans (Nat.mod_lt _ PP_pos) PP_lt_B
      have hb4 := (hb3.set i (ys.getD i 0 * ys'.getD i 0 % PP) hyB).drew
      have hg4 := (hg3.set i (.int .u64 ((ys.getD i 0 * ys'.getD i 0 % PP : Nat) : Int))).drew
      have HS := Lib.hid hs
      have HB4 := Lib.hid hb4
      have HG4 := Lib.hid hg4
      clear hs hb4 hg4 hda hda'
      have HQ : ∃ y y' p, ys.getD i 0 = y ∧ ys'.getD i 0 = y' ∧ ys.getD i 0 * ys'.getD i 0 % PP = p := ⟨_, _, _, rfl, rfl, rfl⟩
      obtain ⟨y, y', p, hy1, hy2, hp1⟩ := HQ
      rw [hp1] at hm1 hyB HS HB4 HG4
      rw [hy1] at e1 hm1 hy
      rw [hy2] at e2 hm1 hy'
      clear hy1 hy2 hp1
      go_wp2_with fail
      go_region_with (go_at_call 80; (with_reducible refine (hm1 _).mono ?_); rintro zz w4 ⟨rfl, rfl⟩)
      all_goals (
        go_wp2_with fail
        go_roundw
        case rel => exact ⟨i + 1, _, hlt, by go_num, HB4.out, HS.out, HG4.out⟩
        case measure => simp [intOf]; omega)
    · obtain rfl : i = ys.length := by omega
      have hd := hf3.done
      rw [← hd] at hbk
      go_wp2_with fail
      refine (hbk _ _ _ (hb3.rd (by rw [hf3.1]; omega) (by rw [hf3.1]; exact Nat.le_refl _))).mono ?_
      rintro z w5 ⟨g5, rfl, hg5, hb5, hE5⟩
      go_wp2_with fail
      go_ret
      have hE3 := hg3.ext hE2 hg
      exact ⟨g5, rfl, Nat.le_trans hE3.size hg5, hb5, hE3.tr hE5⟩
end Go.Proofs.Ythbnkhgcfcigjaa
namespace Go.Proofs.Ythbnkhgcfcigjaa
open Go.RowKit

theorem gb_setRow (w : World) (g : Nat) (cs : Array Value) : Gb g w (w.setRow g cs) :=
  ⟨rfl, rfl, rfl, by simp, fun k hk hn => setRow_other w g k cs (fun e => hn (by rw [e]))⟩
theorem Rs.Bk.gb {w w' : World} {g k : Nat} {xs : List Nat} (b : Rs.Bk w g xs) (h : Gb k w w') (hn : g ≠ k) : Rs.Bk w' g xs := ⟨(h.block g b.lt (fun e => hn (Option.some.inj e))).trans b.h, b.w64⟩
namespace Rs
section
variable {ops : Array Oper} {rest : List Oper} {o : Oper} {a : Act} {Q : Exit → Act → World → Prop} {w : World}
/-- 'copy(z, y)' into a row of zeros. -/
theorem wp_copyz (hg : o.guard = none) (d s : Operand) (t t' : TypeId) (hop : o.op = .call { callee := .builtin .copy, args := #[d, s], argTypes := #[t, t'] }) (ht : Try.prog.underlying t = some (.slice 59)) (g n cd : Nat) (hd : a.eval d = .slice (some ⟨g, 0, none⟩) n cd)
    (hb : Bk w g (List.replicate n 0)) (ad : Addr) (m c : Nat) (ys : List Nat) (hm : ys.length = m) (hs : a.eval s = .slice (some ad) m c) (hr : Rd w (some ad) c ys) (hle : ys.length ≤ n)
    (hK : ∀ w', Bk w' g (padT ys n) → Gb g w w' → wpList Try.prog ops Q rest (a.put o.dst (goInt ys.length)) w') :
    wpList Try.prog ops Q (o :: rest) a w := by
  subst hm
  obtain ⟨i, h2, h3, h4, h5⟩ := info_parts info64
  have el : (enc ys).length = ys.length := enc_len ys
  have hrun := run_copy_row (P := Try.prog) w t t' o.type 59 g 0 n cd ad ys.length c _ _ (enc ys) ht (by rw [h2]; simp [h4]) hb.h (by rw [el]; exact (Nat.min_eq_left hle).symm) (fun j v hj => by
    have hjl : j < ys.length := by have := (List.getElem?_eq_some_iff.1 hj).1; rwa [el] at this
    rw [enc_get ys j hjl] at hj
    rw [← hj]
    exact hr.get j hjl) (by rw [el]; simp [enc]; omega) (enc_one ys)
  rw [el] at hrun
  refine wpList_plain hg fun K hK' => ?_
  unfold Oper.wp execOp
  simp only [hop, resolve, invoke, builtin, Sem.run_bind, Sem.run_pure, Result.andThen_ok, List.map_toArray, List.map_cons, List.map_nil, hd, hs, hrun]
  refine hK' _ _ (hK _ ⟨?_, ?_⟩ (gb_setRow _ _ _))
  · have e : (enc (List.replicate n 0)).toArray.toList.take 0 ++ enc ys ++ (enc (List.replicate n 0)).toArray.toList.drop (0 + ys.length) = enc (padT ys n) := by
      unfold padT
      simp [enc, List.map_append, List.map_replicate]
    have h1 := setRow_heap w g _ (enc (padT ys n)).toArray _ _ hb.h
    rw [e]
    exact h1
  · intro x hx
    unfold padT at hx
    rcases List.mem_append.1 hx with h1 | h1
    · exact hr.w64 x h1
    · rw [List.eq_of_mem_replicate h1]; exact B_pos
end
end Rs
set_option maxHeartbeats 2000000 in
set_option maxRecDepth 100000 in
theorem clone_c (ad : Addr) (n c : Nat) (xs : List Nat) (w : World) (h : Rd w (some ad) c xs) (hn : xs.length = n) (hl : n ≤ 1000000) :
    Calls Try.prog 89 #[.slice (some ad) n c] w (Rs.Res w xs) := by
  have HN := Lib.hid hn
  clear hn
  have hq : ∀ (w : World) (a : Option Addr) (n c n' c' : Nat), (binOp .eql 62 (.slice a n c) (.slice none n' c')).run Try.prog w = .ok (.bool a.isNone) w := fun w a n c n' c' => Lib.run_eql_slice_nil w _ _ a n c n' c' Try.underlying62
  have HO := Lib.hid (show Rs.Own (w.alloc (.cells #[] 59)) w.heap.size (.slice (some ⟨w.heap.size, 0, none⟩) 0 0) [] from ⟨World.ownsRow_made w #[] 0 (Nat.le_refl _) (Nat.zero_le _) rfl, W64.nil⟩)
  go_enter Try.func89, Try.ntmps89
  go_wp2_with (at_builtin; refine Rs.wp_append rfl _ _ _ rfl Try.underlying62 w.heap.size _ [] rfl HO.out (some ad) n c xs HN.out rfl (h.ext ((Ext.refl w).al _)) ?hb ?hl ?_; (case hb => simp); (case hl => rw [HN.out]; simp; omega); intro v' w4 ho4 hb4 hat hg4)
  go_ret
  exact ⟨_, rfl, ho4, ((Ext.refl w).al _).trans hb4⟩
/-- A row of zeros, as it is made. -/
theorem made_bk (w : World) (n : Nat) : Rs.Bk (w.alloc (.cells (madeCells #[.int .u64 0] n) 59)) w.heap.size (List.replicate n 0) := by
  refine ⟨?_, ?_⟩
  · rw [heap_alloc_new]
    refine congrArg (fun cs => some (Obj.cells cs 59 (0, 0))) ?_
    apply Array.toList_inj.1
    rw [toList_madeCells_one]
    simp [enc]
  · intro x hx
    rw [List.eq_of_mem_replicate hx]
    exact B_pos
theorem Al.pad {xs : List Nat} (h : Al xs) (n : Nat) : Al (padT xs n) := fun j => by rw [padT_get]; exact h j
theorem two_up {k L : Nat} (h : 2 ^ k < L) (hL : L ≤ 65536) : k < 16 := by
  rcases Nat.lt_or_ge k 16 with h1 | h1
  · exact h1
  · have := Nat.pow_le_pow_right (n := 2) (by omega) h1
    omega
set_option maxHeartbeats 4000000 in
set_option maxRecDepth 100000 in
theorem long_c (A A' : Option Addr) (c c' : Nat) (xs ys : List Nat) (w : World) (h : Rd w A c xs) (h' : Rd w A' c' ys) (hl : xs.length ≤ 32768) (hl' : ys.length ≤ 32768) (hal : Al xs) (hal' : Al ys) :
    Calls Try.prog 63 #[.slice A xs.length c, .slice A' ys.length c'] w (Rs.Res w (lgL xs ys)) := by
  have hnil := (⟨_, rfl, Rs.Own.nil w w.heap.size, Ext.refl w⟩ : Rs.Res w [] (.returned (.slice none 0 0)) w)
  by_cases h0 : xs.length = 0
  · have e : lgL xs ys = [] := by unfold lgL; rw [if_pos (.inl h0)]
    rw [e, h0]
    clear h0 e
    go_enter Try.func63, Try.ntmps63
    go_wp2_with fail
    go_ret
    exact hnil
  by_cases h1 : ys.length = 0
  · have e : lgL xs ys = [] := by unfold lgL; rw [if_pos (.inr h1)]
    have n0 : ((xs.length : Int) == 0) = false := by rw [beq_eq_false_iff_ne]; omega
    have n1 : ((xs.length : Int) = 0) = False := eq_false (by omega)
    rw [e, h1]
    clear h1 e h0
    go_enter Try.func63, Try.ntmps63
    go_wp2_with fail
    go_ret
    exact hnil
  · have n0 : ((xs.length : Int) == 0) = false := by rw [beq_eq_false_iff_ne]; omega
    have n1 : ((xs.length : Int) = 0) = False := eq_false (by omega)
    have n2 : ((ys.length : Int) == 0) = false := by rw [beq_eq_false_iff_ne]; omega
    have n3 : ((ys.length : Int) = 0) = False := eq_false (by omega)
    obtain ⟨ad, rfl⟩ := h.addr (by omega)
    obtain ⟨ad', rfl⟩ := h'.addr (by omega)
    obtain ⟨L, hL⟩ : ∃ L, xs.length + ys.length - 1 = L := ⟨_, rfl⟩
    have hLi : (xs.length : Int) + (ys.length : Int) - 1 = (L : Int) := by omega
    have hL0 : 0 < L := by omega
    have hLb : L ≤ 65535 := by omega
    have hLx : xs.length ≤ L := by omega
    have hLy : ys.length ≤ L := by omega
    have hmk : ∀ (n : Nat) (w : World), n ≤ 65536 → (Instr.makeSlice 62 (.int .i64 (n : Int)) (.int .i64 (n : Int))).run Try.prog w = .ok (.slice (some ⟨w.heap.size, 0, none⟩) n n) (w.alloc (.cells (madeCells #[.int .u64 0] n) 59)) := fun n w hn => Go.run_make_row' _ _ _ _ Try.underlying62 Rs.info64 rfl _ _ n (by omega) (by omega) w
    have HL := Lib.hid hL
    have ht := fun n (hn : L ≤ n) => cyc_take (a := xs) (b := ys) (n := n) (by omega) (by omega) (by rw [hL]; exact hn)
    rw [hL] at ht
    have hll : (lgL xs ys).length = L := by unfold lgL; rw [if_neg (by omega), tab_len, hL]
    generalize lgL xs ys = R at *
    clear hL h0 h1 hnil
    go_enter Try.func63, Try.ntmps63
    go_wp2_with fail
    go_loopw [5] (fun v5 wr => ∃ k : Nat, k ≤ 16 ∧ v5 = .int .i64 ((2 ^ k : Nat) : Int) ∧ wr = w) (fun v _ => L * 2 - (intOf v).toNat)
    case atStart => exact ⟨0, by omega, rfl, rfl⟩
    case round =>
      obtain ⟨k, hk, rfl, rfl⟩ := hrel
      have hp : 2 ^ (k + 1) = 2 ^ k * 2 := Nat.pow_succ 2 k
      have hpos := Nat.two_pow_pos k
      have hle : 2 ^ k ≤ 2 ^ 16 := Nat.pow_le_pow_right (by omega) hk
      by_cases hlt : 2 ^ k < L
      · have hk2 := two_up hlt (by omega)
        have HP := Lib.hid hp
        clear hp hmk
        generalize 2 ^ k = n at *
        have hle2 : n ≤ 65536 := hle
        go_wp2_with fail
        go_roundw
        case rel => exact ⟨k + 1, by omega, by rw [HP.out]; go_num, by first | trivial | rfl⟩
        case measure => simp [intOf]; omega
      · have hpk : 2 ^ k = 2 ^ k := rfl
        obtain ⟨N, hN⟩ : ∃ N, 2 ^ k = N := ⟨_, rfl⟩
        rw [hN] at hlt hle hpos ⊢
        have hle2 : N ≤ 65536 := hle
        have hmk1 := fun w => hmk N w hle2
        have HN := Lib.hid hN
        clear hp hpk hmk hN hle
        go_wp2_with fail
        go_region
        all_goals (
          have hb1 := ((made_bk wr N).al (.cells (madeCells #[.int .u64 0] N) 59)).drew
          have hb2 := (made_bk (wr.alloc (.cells (madeCells #[.int .u64 0] N) 59)) N).drew
          rw [World.size_alloc] at hb2
          have hE2 : Ext wr ((wr.alloc (.cells (madeCells #[.int .u64 0] N) 59)).alloc (.cells (madeCells #[.int .u64 0] N) 59)).drew := (((Ext.refl wr).al _).al _).drew
          generalize ((wr.alloc (.cells (madeCells #[.int .u64 0] N) 59)).alloc (.cells (madeCells #[.int .u64 0] N) 59)).drew = W2 at *)
        · obtain ⟨gx, hgx⟩ : ∃ gx, wr.heap.size = gx := ⟨_, rfl⟩
          obtain ⟨gy, hgy⟩ : ∃ gy, wr.heap.size + 1 = gy := ⟨_, rfl⟩
          rw [hgy, hgx]
          rw [hgy] at hb2
          rw [hgx] at hb1
          have HX := Lib.hid (show Rs.Bk W2 gx (List.replicate N 0) ∧ Rs.Bk W2 gy (List.replicate N 0) from ⟨hb1, hb2⟩)
          clear hb1 hb2
          have hne : gx ≠ gy := by omega
          have hsx : wr.heap.size ≤ gx := by omega
          have hsy : wr.heap.size ≤ gy := by omega
          clear hgx hgy hmk1
          obtain ⟨hbx, hby⟩ := HX.out
          have rx := h.ext hE2
          go_wp2_with (first
            | ((with_reducible refine Rs.wp_copyz rfl (.tmp 30) (.tmp 31) 62 62 rfl Try.underlying62 gx N N rfl hbx ad xs.length c xs rfl rfl rx (by omega) ?_); intro w3 hx3 hg3; have hy3 := hby.gb hg3 (Ne.symm hne); have ry3 := h'.ext (hg3.ext hE2 hsx))
            | ((with_reducible refine Rs.wp_copyz rfl (.tmp 33) (.tmp 34) 62 62 rfl Try.underlying62 gy N N rfl hy3 ad' ys.length c' ys rfl rfl ry3 (by omega) ?_); intro w4 hy4 hg4; have hx4 := hx3.gb hg4 hne))
          have hE4 := hg4.ext (hg3.ext hE2 hsx) hsy
          have hrd := fun w h1 h2 => round_c k hk (some ⟨gx, 0, none⟩) (some ⟨gy, 0, none⟩) N N (padT xs N) (padT ys N) w h1 h2 (by rw [padT_len (by omega), HN.out]) (by rw [padT_len (by omega), HN.out]) (hal.pad N) (hal'.pad N)
          rw [padT_len (by omega), padT_len (by omega)] at hrd
          refine (hrd _ (hx4.rd (by rw [padT_len (by omega)]; omega) (by rw [padT_len (by omega)]; exact Nat.le_refl _)) (hy4.rd (by rw [padT_len (by omega)]; omega) (by rw [padT_len (by omega)]; exact Nat.le_refl _))).mono ?_
          rintro z w5 ⟨g5, rfl, hg5, hb5, hE5⟩
          have hln : (cycL (padT xs N) (padT ys N)).length = N := by rw [cycL_len, padT_len (by omega)]
          have hr5 := (hb5.rd (by rw [hln]; omega) (Nat.le_of_eq hln)).take L (by rw [hln]; omega) (c' := N) (by omega)
          rw [ht N (by omega)] at hr5
          have hEW := hE4.tr hE5
          have hcl := fun w h => clone_c ⟨g5, 0, none⟩ L N R w h hll (by omega)
          rw [hln]
          have hLN : (L : Int) ≤ (N : Int) := by omega
          have hLL := Lib.hid hll
          clear hrd hx4 hy4 hx3 hy3 hbx hby hb5 hln ht hll
          go_wp2_with fail
          refine (hcl _ hr5).mono ?_
          rintro z w6 ⟨v6, rfl, ho6, hE6⟩
          go_wp2_with fail
          go_ret
          exact ⟨_, rfl, ho6.low hEW.size, hEW.tr hE6⟩
        · obtain ⟨gy, hgy⟩ : ∃ gy, wr.heap.size = gy := ⟨_, rfl⟩
          obtain ⟨gx, hgx⟩ : ∃ gx, wr.heap.size + 1 = gx := ⟨_, rfl⟩
          rw [hgx, hgy]
          rw [hgx] at hb2
          rw [hgy] at hb1
          have HX := Lib.hid (show Rs.Bk W2 gx (List.replicate N 0) ∧ Rs.Bk W2 gy (List.replicate N 0) from ⟨hb2, hb1⟩)
          clear hb1 hb2
          have hne : gx ≠ gy := by omega
          have hsx : wr.heap.size ≤ gx := by omega
          have hsy : wr.heap.size ≤ gy := by omega
          clear hgx hgy hmk1
          obtain ⟨hbx, hby⟩ := HX.out
          have rx := h.ext hE2
          go_wp2_with (first
            | ((with_reducible refine Rs.wp_copyz rfl (.tmp 30) (.tmp 31) 62 62 rfl Try.underlying62 gx N N rfl hbx ad xs.length c xs rfl rfl rx (by omega) ?_); intro w3 hx3 hg3; have hy3 := hby.gb hg3 (Ne.symm hne); have ry3 := h'.ext (hg3.ext hE2 hsx))
            | ((with_reducible refine Rs.wp_copyz rfl (.tmp 33) (.tmp 34) 62 62 rfl Try.underlying62 gy N N rfl hy3 ad' ys.length c' ys rfl rfl ry3 (by omega) ?_); intro w4 hy4 hg4; have hx4 := hx3.gb hg4 hne))
          have hE4 := hg4.ext (hg3.ext hE2 hsx) hsy
          have hrd := fun w h1 h2 => round_c k hk (some ⟨gx, 0, none⟩) (some ⟨gy, 0, none⟩) N N (padT xs N) (padT ys N) w h1 h2 (by rw [padT_len (by omega), HN.out]) (by rw [padT_len (by omega), HN.out]) (hal.pad N) (hal'.pad N)
          rw [padT_len (by omega), padT_len (by omega)] at hrd
          refine (hrd _ (hx4.rd (by rw [padT_len (by omega)]; omega) (by rw [padT_len (by omega)]; exact Nat.le_refl _)) (hy4.rd (by rw [padT_len (by omega)]; omega) (by rw [padT_len (by omega)]; exact Nat.le_refl _))).mono ?_
          rintro z w5 ⟨g5, rfl, hg5, hb5, hE5⟩
          have hln : (cycL (padT xs N) (padT ys N)).length = N := by rw [cycL_len, padT_len (by omega)]
          have hr5 := (hb5.rd (by rw [hln]; omega) (Nat.le_of_eq hln)).take L (by rw [hln]; omega) (c' := N) (by omega)
          rw [ht N (by omega)] at hr5
          have hEW := hE4.tr hE5
          have hcl := fun w h => clone_c ⟨g5, 0, none⟩ L N R w h hll (by omega)
          rw [hln]
          have hLN : (L : Int) ≤ (N : Int) := by omega
          have hLL := Lib.hid hll
          clear hrd hx4 hy4 hx3 hy3 hbx hby hb5 hln ht hll
          go_wp2_with fail
          refine (hcl _ hr5).mono ?_
          rintro z w6 ⟨v6, rfl, ho6, hE6⟩
          go_wp2_with fail
          go_ret
          exact ⟨_, rfl, ho6.low hEW.size, hEW.tr hE6⟩
end Go.Proofs.Ythbnkhgcfcigjaa
namespace Go.Proofs.Ythbnkhgcfcigjaa
open Go.RowKit

theorem i64_and_nat (a b : Nat) (ha : a < 9223372036854775808) (hb : b < 9223372036854775808) : bits .and .i64 (a : Int) (b : Int) = ((a &&& b : Nat) : Int) := by
  have hx : a &&& b < 2 ^ 63 := Nat.and_lt_two_pow _ (by omega)
  show IntKind.i64.wrap ((BitVec.ofInt 64 (a : Int) &&& BitVec.ofInt 64 (b : Int)).toNat : Int) = _
  rw [BitVec.toNat_and, ofInt_u64 a (by omega), ofInt_u64 b (by omega), IntKind.wrap_i64]
  omega
/-- A number whose bits and those of the one below have nothing in common is a power of 2. -/
theorem pow_of_and : ∀ (f n : Nat), n < f → 1 ≤ n → n &&& (n - 1) = 0 → ∃ m, n = 2 ^ m
  | 0, n, hf, h1, h => absurd hf (by omega)
  | f + 1, n, hf, h1, h => by
    have hd : n / 2 &&& (n - 1) / 2 = 0 := by
      have := Nat.and_div_two_pow (a := n) (b := n - 1) (n := 1)
      rw [Nat.pow_one, h] at this
      rw [← this]
    rcases Nat.mod_two_eq_zero_or_one n with e | e
    · have e2 : (n - 1) / 2 = n / 2 - 1 := by omega
      rw [e2] at hd
      obtain ⟨m, hm⟩ := pow_of_and f (n / 2) (by omega) (by omega) hd
      exact ⟨m + 1, by rw [Nat.pow_succ, ← hm]; omega⟩
    · have e2 : (n - 1) / 2 = n / 2 := by omega
      rw [e2, Nat.and_self] at hd
      exact ⟨0, by rw [Nat.pow_zero]; omega⟩
theorem and_of_pow (m : Nat) : 2 ^ m &&& (2 ^ m - 1) = 0 := by
  rw [Nat.and_two_pow_sub_one_eq_mod, Nat.mod_self]
theorem lenB_pow {n : Nat} (h : lenB (n : Int) = true) : ∃ m, m ≤ 16 ∧ n = 2 ^ m := by
  obtain ⟨h1, h2⟩ := lenB_range h
  unfold lenB at h
  simp only [Bool.and_eq_true, decide_eq_true_eq] at h
  have h3 := h.2.2
  have e : (n : Int) - 1 = ((n - 1 : Nat) : Int) := by omega
  rw [e, i64_and_nat _ _ (by omega) (by omega)] at h3
  obtain ⟨m, hm⟩ := pow_of_and (n + 1) n (by omega) (by omega) (by omega)
  refine ⟨m, ?_, hm⟩
  rcases Nat.lt_or_ge 16 m with h4 | h4
  · have := Nat.pow_le_pow_right (n := 2) (by omega) (show 17 ≤ m from h4)
    omega
  · exact h4
theorem lenB_of {m : Nat} (h : m ≤ 16) : lenB ((2 ^ m : Nat) : Int) = true := by
  have h1 := Nat.two_pow_pos m
  have h2 : 2 ^ m ≤ 2 ^ 16 := Nat.pow_le_pow_right (by omega) h
  have h3 := and_of_pow m
  generalize 2 ^ m = n at *
  unfold lenB
  simp only [Bool.and_eq_true, decide_eq_true_eq]
  have e : (n : Int) - 1 = ((n - 1 : Nat) : Int) := by omega
  refine ⟨by omega, by omega, ?_⟩
  rw [e, i64_and_nat _ _ (by omega) (by omega), h3]
  rfl
theorem al_of_big {xs : List Nat} (h : bigB xs = false) : Al xs := by
  intro j
  rcases Nat.lt_or_ge j xs.length with hj | hj
  · rcases Nat.lt_or_ge (xs.getD j 0) PP with h1 | h1
    · exact h1
    · rw [bigB_true j hj h1] at h
      cases h
  · rw [getD_past hj]
    exact PP_pos
theorem big_of_al {xs : List Nat} (h : Al xs) : bigB xs = false := bigB_false fun i _ => h i
/-- A row of words and an error. -/
def LR (w : World) (xs : List Nat) (er : Int) (e : Ending) (w' : World) : Prop := ∃ v, e = .returned (.tuple #[v, .int .i64 er]) ∧ Own w' w.heap.size v xs ∧ Ext w w'
theorem LR.bad (w : World) (er : Int) : LR w [] er (.returned (.tuple #[.slice none 0 0, .int .i64 er])) w := ⟨_, rfl, Own.nil _ _, Ext.refl _⟩
/-- Whether a list may be transformed. -/
def okT (xs : List Nat) : Bool := lenB (xs.length : Int) && !bigB xs
theorem okT_use {xs : List Nat} (h : okT xs = true) : ∃ m, m ≤ 16 ∧ xs.length = 2 ^ m ∧ Al xs := by
  unfold okT at h
  rw [Bool.and_eq_true, Bool.not_eq_true'] at h
  obtain ⟨m, hm, e⟩ := lenB_pow h.1
  exact ⟨m, hm, e, al_of_big h.2⟩
set_option maxHeartbeats 2000000 in
set_option maxRecDepth 100000 in
theorem Transform_c (A : Option Addr) (c : Nat) (xs : List Nat) (w : World) (h : Rd w A c xs) (hl : xs.length ≤ 1000000) :
    Calls Try.prog 28 #[.slice A xs.length c] w (LR w (if okT xs = true then dftL (rootN xs.length) xs else []) (if okT xs = true then 0 else 1)) := by
  have hil := fun w => isLength_c (xs.length : Int) w
  have har := fun w h => are_c A c xs w h
  have hbad := LR.bad w 1
  by_cases hok : okT xs = true
  · rw [if_pos hok, if_pos hok]
    obtain ⟨m, hm, he, hal⟩ := okT_use hok
    unfold okT at hok
    rw [Bool.and_eq_true, Bool.not_eq_true'] at hok
    rw [hok.1] at hil
    rw [hok.2] at har
    have hop := fun w h => opened_c A c xs w h hl
    have hrt := fun w => root_c xs.length w (lenB_range hok.1 |>.1 |> fun h => by omega) (lenB_range hok.1 |>.2 |> fun h => by omega)
    have htr := fun A c w h => transform_c m hm A c xs (rootN xs.length) w h he hal (rootN_lt _) (by rw [he]; exact root_gd (by omega))
    have htl := fun A c w h => told_c A c (dftL (rootN xs.length) xs) w h (by rw [dftL_len]; exact hl)
    have hdl := dftL_len (rootN xs.length) xs
    rw [hdl] at htl
    generalize dftL (rootN xs.length) xs = ys at *
    generalize rootN xs.length = r at *
    have HDL := Lib.hid hdl
    clear hok hdl he hal hbad
    go_enter Try.func28, Try.ntmps28
    go_wp2_with fail
    refine (hil _).mono ?_
    rintro z w1 ⟨rfl, rfl⟩
    go_wp2_with fail
    refine (har _ h).mono ?_
    rintro z w1 ⟨rfl, rfl⟩
    go_wp2_with fail
    refine (hop _ h).mono ?_
    rintro z w1 ⟨v1, rfl, ho1, hE1⟩
    obtain ⟨A1, c1, rfl, hr1⟩ := ho1.rd
    go_wp2_with fail
    refine (hrt _).mono ?_
    rintro z w2 ⟨rfl, rfl⟩
    go_wp2_with fail
    refine (htr _ _ _ hr1).mono ?_
    rintro z w2 ⟨g, rfl, hg, hb, hE2⟩
    rw [HDL.out]
    go_wp2_with fail
    refine (htl _ _ _ (hb.rd (by rw [HDL.out]; omega) (by rw [HDL.out]; exact Nat.le_refl _))).mono ?_
    rintro z w3 ⟨v3, rfl, ho3, hE3⟩
    go_wp2_with fail
    go_ret2
    have hE := hE1.tr hE2
    exact ⟨_, rfl, ho3.low hE.size, hE.tr hE3⟩
  · rw [if_neg hok, if_neg hok]
    unfold okT at hok
    by_cases h1 : lenB (xs.length : Int) = true
    · have h2 : bigB xs = true := by
        rw [h1, Bool.true_and] at hok
        simpa using hok
      rw [h1] at hil
      rw [h2] at har
      clear hok h1 h2
      go_enter Try.func28, Try.ntmps28
      go_wp2_with fail
      refine (hil _).mono ?_
      rintro z w1 ⟨rfl, rfl⟩
      go_wp2_with fail
      refine (har _ h).mono ?_
      rintro z w1 ⟨rfl, rfl⟩
      go_wp2_with fail
      go_ret2
      exact hbad
    · rw [show lenB (xs.length : Int) = false by simpa using h1] at hil
      clear hok h1
      go_enter Try.func28, Try.ntmps28
      go_wp2_with fail
      refine (hil _).mono ?_
      rintro z w1 ⟨rfl, rfl⟩
      go_wp2_with fail
      go_ret2
      exact hbad
set_option maxHeartbeats 2000000 in
set_option maxRecDepth 100000 in
theorem Back_c (A : Option Addr) (c : Nat) (xs : List Nat) (w : World) (h : Rd w A c xs) (hl : xs.length ≤ 1000000) :
    Calls Try.prog 35 #[.slice A xs.length c] w (LR w (if okT xs = true then bkL xs else []) (if okT xs = true then 0 else 1)) := by
  have hil := fun w => isLength_c (xs.length : Int) w
  have har := fun w h => are_c A c xs w h
  have hbad := LR.bad w 1
  by_cases hok : okT xs = true
  · rw [if_pos hok, if_pos hok]
    obtain ⟨m, hm, he, hal⟩ := okT_use hok
    unfold okT at hok
    rw [Bool.and_eq_true, Bool.not_eq_true'] at hok
    rw [hok.1] at hil
    rw [hok.2] at har
    have hop := fun w h => opened_c A c xs w h hl
    have htr := fun A c w h => back_c m hm A c xs w h he hal
    have htl := fun A c w h => told_c A c (bkL xs) w h (by rw [bkL_len]; exact hl)
    have hdl := bkL_len xs
    rw [hdl] at htl
    generalize bkL xs = ys at *
    have HDL := Lib.hid hdl
    clear hok hdl he hal hbad
    go_enter Try.func35, Try.ntmps35
    go_wp2_with fail
    refine (hil _).mono ?_
    rintro z w1 ⟨rfl, rfl⟩
    go_wp2_with fail
    refine (har _ h).mono ?_
    rintro z w1 ⟨rfl, rfl⟩
    go_wp2_with fail
    refine (hop _ h).mono ?_
    rintro z w1 ⟨v1, rfl, ho1, hE1⟩
    obtain ⟨A1, c1, rfl, hr1⟩ := ho1.rd
    go_wp2_with fail
    refine (htr _ _ _ hr1).mono ?_
    rintro z w2 ⟨g, rfl, hg, hb, hE2⟩
    rw [HDL.out]
    go_wp2_with fail
    refine (htl _ _ _ (hb.rd (by rw [HDL.out]; omega) (by rw [HDL.out]; exact Nat.le_refl _))).mono ?_
    rintro z w3 ⟨v3, rfl, ho3, hE3⟩
    go_wp2_with fail
    go_ret2
    have hE := hE1.tr hE2
    exact ⟨_, rfl, ho3.low hE.size, hE.tr hE3⟩
  · rw [if_neg hok, if_neg hok]
    unfold okT at hok
    by_cases h1 : lenB (xs.length : Int) = true
    · have h2 : bigB xs = true := by
        rw [h1, Bool.true_and] at hok
        simpa using hok
      rw [h1] at hil
      rw [h2] at har
      clear hok h1 h2
      go_enter Try.func35, Try.ntmps35
      go_wp2_with fail
      refine (hil _).mono ?_
      rintro z w1 ⟨rfl, rfl⟩
      go_wp2_with fail
      refine (har _ h).mono ?_
      rintro z w1 ⟨rfl, rfl⟩
      go_wp2_with fail
      go_ret2
      exact hbad
    · rw [show lenB (xs.length : Int) = false by simpa using h1] at hil
      clear hok h1
      go_enter Try.func35, Try.ntmps35
      go_wp2_with fail
      refine (hil _).mono ?_
      rintro z w1 ⟨rfl, rfl⟩
      go_wp2_with fail
      go_ret2
      exact hbad
/-- Whether two lists may be multiplied round. -/
def okP (xs ys : List Nat) : Bool := decide (xs.length = ys.length) && (okT xs && !bigB ys)
set_option maxHeartbeats 2000000 in
set_option maxRecDepth 100000 in
theorem pairOf_c (A A' : Option Addr) (c c' : Nat) (xs ys : List Nat) (w : World) (h : Rd w A c xs) (h' : Rd w A' c' ys) :
    Calls Try.prog 56 #[.slice A xs.length c, .slice A' ys.length c'] w fun e w' => e = .returned (.bool (okP xs ys)) ∧ w = w' := by
  have hil := fun w => isLength_c (xs.length : Int) w
  have har := fun w h => are_c A c xs w h
  have har' := fun w h => are_c A' c' ys w h
  unfold okP okT
  by_cases h0 : xs.length = ys.length
  · rw [decide_eq_true h0, Bool.true_and]
    have n0 : ((xs.length : Int) == (ys.length : Int)) = true := by rw [beq_iff_eq]; omega
    have n1 : ((xs.length : Int) = (ys.length : Int)) = True := eq_true (by omega)
    clear h0
    generalize lenB (xs.length : Int) = b1 at *
    generalize bigB xs = b2 at *
    generalize bigB ys = b3 at *
    cases b1
    · go_enter Try.func56, Try.ntmps56
      go_wp2_with fail
      refine (hil _).mono ?_
      rintro z w1 ⟨rfl, rfl⟩
      go_wp2_with fail
      go_ret
      exact ⟨rfl, rfl⟩
    cases b2
    · go_enter Try.func56, Try.ntmps56
      go_wp2_with fail
      refine (hil _).mono ?_
      rintro z w1 ⟨rfl, rfl⟩
      go_wp2_with fail
      refine (har _ h).mono ?_
      rintro z w1 ⟨rfl, rfl⟩
      go_wp2_with fail
      refine (har' _ h').mono ?_
      rintro z w1 ⟨rfl, rfl⟩
      go_wp2_with fail
      go_ret
      exact ⟨rfl, rfl⟩
    · go_enter Try.func56, Try.ntmps56
      go_wp2_with fail
      refine (hil _).mono ?_
      rintro z w1 ⟨rfl, rfl⟩
      go_wp2_with fail
      refine (har _ h).mono ?_
      rintro z w1 ⟨rfl, rfl⟩
      go_wp2_with fail
      go_ret
      exact ⟨rfl, rfl⟩
  · rw [decide_eq_false h0, Bool.false_and]
    have n0 : ((xs.length : Int) == (ys.length : Int)) = false := by rw [beq_eq_false_iff_ne]; omega
    have n1 : ((xs.length : Int) = (ys.length : Int)) = False := eq_false (by omega)
    clear h0
    go_enter Try.func56, Try.ntmps56
    go_wp2_with fail
    go_ret
    exact ⟨rfl, rfl⟩
theorem okP_use {xs ys : List Nat} (h : okP xs ys = true) : ∃ m, m ≤ 16 ∧ xs.length = 2 ^ m ∧ ys.length = 2 ^ m ∧ Al xs ∧ Al ys := by
  unfold okP at h
  rw [Bool.and_eq_true, Bool.and_eq_true, Bool.not_eq_true', decide_eq_true_eq] at h
  obtain ⟨m, hm, e, ha⟩ := okT_use h.2.1
  exact ⟨m, hm, e, by rw [← h.1, e], ha, al_of_big h.2.2⟩
set_option maxHeartbeats 2000000 in
set_option maxRecDepth 100000 in
theorem Round_c (A A' : Option Addr) (c c' : Nat) (xs ys : List Nat) (w : World) (h : Rd w A c xs) (h' : Rd w A' c' ys) :
    Calls Try.prog 18 #[.slice A xs.length c, .slice A' ys.length c'] w (LR w (if okP xs ys = true then cycL xs ys else []) (if okP xs ys = true then 0 else 1)) := by
  have hpo := fun w h h' => pairOf_c A A' c c' xs ys w h h'
  have hbad := LR.bad w 1
  by_cases hok : okP xs ys = true
  · rw [if_pos hok, if_pos hok]
    rw [hok] at hpo
    obtain ⟨m, hm, he, he', hal, hal'⟩ := okP_use hok
    have hle : 2 ^ m ≤ 2 ^ 16 := Nat.pow_le_pow_right (by omega) hm
    have hlx : xs.length ≤ 65536 := by omega
    have hly : ys.length ≤ 65536 := by omega
    have hop := fun w h => opened_c A c xs w h (by omega)
    have hop' := fun w h => opened_c A' c' ys w h (by omega)
    have hrd := fun A A' c c' w h h' => round_c m hm A A' c c' xs ys w h h' he he' hal hal'
    have htl := fun A c w h => told_c A c (cycL xs ys) w h (by rw [cycL_len]; omega)
    have hdl := cycL_len xs ys
    rw [hdl] at htl
    generalize cycL xs ys = zs at *
    have HDL := Lib.hid hdl
    clear hok hdl he he' hal hal' hbad hle
    go_enter Try.func18, Try.ntmps18
    go_wp2_with fail
    refine (hpo _ h h').mono ?_
    rintro z w1 ⟨rfl, rfl⟩
    go_wp2_with fail
    refine (hop _ h).mono ?_
    rintro z w1 ⟨v1, rfl, ho1, hE1⟩
    obtain ⟨A1, c1, rfl, hr1⟩ := ho1.rd
    go_wp2_with fail
    refine (hop' _ (h'.ext hE1)).mono ?_
    rintro z w2 ⟨v2, rfl, ho2, hE2⟩
    obtain ⟨A2, c2, rfl, hr2⟩ := ho2.rd
    go_wp2_with fail
    refine (hrd _ _ _ _ _ (hr1.ext hE2) hr2).mono ?_
    rintro z w3 ⟨g, rfl, hg, hb, hE3⟩
    rw [HDL.out]
    go_wp2_with fail
    refine (htl _ _ _ (hb.rd (by rw [HDL.out]; omega) (by rw [HDL.out]; exact Nat.le_refl _))).mono ?_
    rintro z w4 ⟨v4, rfl, ho4, hE4⟩
    go_wp2_with fail
    go_ret2
    have hE := (hE1.tr hE2).tr hE3
    exact ⟨_, rfl, ho4.low hE.size, hE.tr hE4⟩
  · rw [if_neg hok, if_neg hok]
    rw [show okP xs ys = false by simpa using hok] at hpo
    clear hok
    go_enter Try.func18, Try.ntmps18
    go_wp2_with fail
    refine (hpo _ h h').mono ?_
    rintro z w1 ⟨rfl, rfl⟩
    go_wp2_with fail
    go_ret2
    exact hbad
end Go.Proofs.Ythbnkhgcfcigjaa
namespace Go.Proofs.Ythbnkhgcfcigjaa
open Go.RowKit

theorem wtL_al (u : Nat) (a : List Nat) : Al (wtL u a) := tab_al (n := a.length) (f := fun i => a.getD i 0 * u ^ i % PP) fun i hi => Nat.mod_lt _ PP_pos
set_option maxHeartbeats 2000000 in
set_option maxRecDepth 100000 in
theorem Turned_c (A A' : Option Addr) (c c' : Nat) (xs ys : List Nat) (w : World) (h : Rd w A c xs) (h' : Rd w A' c' ys) :
    Calls Try.prog 19 #[.slice A xs.length c, .slice A' ys.length c'] w (LR w (if okP xs ys = true then trL xs ys else []) (if okP xs ys = true then 0 else 1)) := by
  have hpo := fun w h h' => pairOf_c A A' c c' xs ys w h h'
  have hbad := LR.bad w 1
  by_cases hok : okP xs ys = true
  · rw [if_pos hok, if_pos hok]
    rw [hok] at hpo
    obtain ⟨m, hm, he, he', hal, hal'⟩ := okP_use hok
    have hle : 2 ^ m ≤ 2 ^ 16 := Nat.pow_le_pow_right (by omega) hm
    have hpos := Nat.two_pow_pos m
    have hlx : xs.length ≤ 65536 := by omega
    have hly : ys.length ≤ 65536 := by omega
    have hlp : 0 < xs.length := by omega
    have hlxy : ys.length = xs.length := by omega
    have hop := fun w h => opened_c A c xs w h (by omega)
    have hop' := fun w h => opened_c A' c' ys w h (by omega)
    have hq : (18446744069414584320 : Int) / (2 * (xs.length : Int)) = (((PP - 1) / (2 * xs.length) : Nat) : Int) := by rw [PP_eq, Int.natCast_ediv, Int.natCast_mul]; rfl
    have hqB : (PP - 1) / (2 * xs.length) < B := by
      refine Nat.lt_of_le_of_lt (Nat.div_le_self _ _) ?_
      rw [PP_eq, B_eq]
      omega
    have hpw := fun w => power04_c 7 ((PP - 1) / (2 * xs.length)) w (by rw [B_eq]; omega) hqB
    have hpe : 7 ^ ((PP - 1) / (2 * xs.length)) % PP = rootN (2 * xs.length) := rfl
    rw [hpe] at hpw
    have e2 : 2 * xs.length = 2 ^ (m + 1) := by rw [he, Nat.pow_succ]; omega
    have htr := turn_tr (m := m) (a := xs) (b := ys) (by omega) he he'
    rw [← e2] at htr
    have hwx := fun A c w h => weighted_c A c xs (rootN (2 * xs.length)) w h (by omega) (Nat.lt_trans (rootN_lt _) PP_lt_B)
    have hwy := fun A c w h => weighted_c A c ys (rootN (2 * xs.length)) w h (by omega) (Nat.lt_trans (rootN_lt _) PP_lt_B)
    have hrd := fun A A' c c' w h h' => round_c m hm A A' c c' (wtL (rootN (2 * xs.length)) xs) (wtL (rootN (2 * xs.length)) ys) w h h' (by rw [wtL_len, he]) (by rw [wtL_len, he']) (wtL_al _ _) (wtL_al _ _)
    have hpv := fun w => power04_c (rootN (2 * xs.length)) (PP - 2) w (Nat.lt_trans (rootN_lt _) PP_lt_B) (by rw [PP_eq, B_eq]; omega)
    rw [show (((PP - 2 : Nat) : Nat) : Int) = 18446744069414584319 from rfl] at hpv
    have hpe2 : rootN (2 * xs.length) ^ (PP - 2) % PP = vN (2 * xs.length) := rfl
    rw [hpe2] at hpv
    have hwz := fun A c w h => weighted_c A c (cycL (wtL (rootN (2 * xs.length)) xs) (wtL (rootN (2 * xs.length)) ys)) (vN (2 * xs.length)) w h (by rw [cycL_len, wtL_len]; omega) (Nat.lt_trans (vN_lt _) PP_lt_B)
    have hzl : (cycL (wtL (rootN (2 * xs.length)) xs) (wtL (rootN (2 * xs.length)) ys)).length = xs.length := by rw [cycL_len, wtL_len]
    rw [htr, hzl] at hwz
    have htl := fun A c w h => told_c A c (trL xs ys) w h (by unfold trL; rw [tab_len]; omega)
    have htrl : (trL xs ys).length = xs.length := tab_len _ _
    rw [htrl] at htl
    rw [wtL_len, wtL_len] at hrd
    have l1 := wtL_len (rootN (2 * xs.length)) xs
    have l2 := wtL_len (rootN (2 * xs.length)) ys
    generalize cycL (wtL (rootN (2 * xs.length)) xs) (wtL (rootN (2 * xs.length)) ys) = Z at *
    generalize wtL (rootN (2 * xs.length)) xs = X at *
    generalize wtL (rootN (2 * xs.length)) ys = Y at *
    generalize trL xs ys = T at *
    generalize rootN (2 * xs.length) = u at *
    generalize vN (2 * xs.length) = v at *
    generalize hQ : (PP - 1) / (2 * xs.length) = q at *
    have hw2 : IntKind.u64.wrap (2 * (xs.length : Int)) = ((2 * xs.length : Nat) : Int) := by rw [IntKind.wrap_u64]; omega
    have hn0 : (((2 * xs.length : Nat) : Int) == 0) = false := by rw [beq_eq_false_iff_ne]; omega
    have HQ := Lib.hid hq
    have L1 := Lib.hid l1
    have L2 := Lib.hid l2
    have LZ := Lib.hid hzl
    have LT := Lib.hid htrl
    clear hq hok l1 l2 hzl htrl htr e2 he he' hal hal' hbad hle hpe hpe2 hQ hlxy
    go_enter Try.func19, Try.ntmps19
    go_wp2_with fail
    refine (hpo _ h h').mono ?_
    rintro z w1 ⟨rfl, rfl⟩
    go_wp2_with fail
    rw [HQ.out]
    refine (hpw _).mono ?_
    rintro z w1 ⟨rfl, rfl⟩
    go_wp2_with fail
    refine (hop _ h).mono ?_
    rintro z w1 ⟨v1, rfl, ho1, hE1⟩
    obtain ⟨A1, c1, rfl, hr1⟩ := ho1.rd
    go_wp2_with fail
    refine (hwx _ _ _ hr1).mono ?_
    rintro z w2 ⟨v2, rfl, ho2, hE2⟩
    obtain ⟨A2, c2, rfl, hr2⟩ := ho2.rd
    rw [L1.out]
    go_wp2_with fail
    refine (hop' _ ((h'.ext hE1).ext hE2)).mono ?_
    rintro z w3 ⟨v3, rfl, ho3, hE3⟩
    obtain ⟨A3, c3, rfl, hr3⟩ := ho3.rd
    go_wp2_with fail
    refine (hwy _ _ _ hr3).mono ?_
    rintro z w4 ⟨v4, rfl, ho4, hE4⟩
    obtain ⟨A4, c4, rfl, hr4⟩ := ho4.rd
    rw [L2.out]
    go_wp2_with fail
    refine (hrd _ _ _ _ _ ((hr2.ext hE3).ext hE4) hr4).mono ?_
    rintro z w5 ⟨g, rfl, hg, hb, hE5⟩
    rw [LZ.out]
    go_wp2_with fail
    refine (hpv _).mono ?_
    rintro z w6 ⟨rfl, rfl⟩
    go_wp2_with fail
    refine (hwz _ _ _ (hb.rd (by rw [LZ.out]; omega) (by rw [LZ.out]; exact Nat.le_refl _))).mono ?_
    rintro z w6 ⟨v6, rfl, ho6, hE6⟩
    obtain ⟨A6, c6, rfl, hr6⟩ := ho6.rd
    rw [LT.out]
    go_wp2_with fail
    refine (htl _ _ _ hr6).mono ?_
    rintro z w7 ⟨v7, rfl, ho7, hE7⟩
    go_wp2_with fail
    go_ret2
    have hE := ((((hE1.tr hE2).tr hE3).tr hE4).tr hE5).tr hE6
    exact ⟨_, rfl, ho7.low hE.size, hE.tr hE7⟩
  · rw [if_neg hok, if_neg hok]
    rw [show okP xs ys = false by simpa using hok] at hpo
    clear hok
    go_enter Try.func19, Try.ntmps19
    go_wp2_with fail
    refine (hpo _ h h').mono ?_
    rintro z w1 ⟨rfl, rfl⟩
    go_wp2_with fail
    go_ret2
    exact hbad
/-- Whether two lists may be multiplied. -/
def okL (xs ys : List Nat) : Bool := decide (xs.length ≤ 32768) && (decide (ys.length ≤ 32768) && (!bigB xs && !bigB ys))
set_option maxHeartbeats 2000000 in
set_option maxRecDepth 100000 in
theorem Long_c (A A' : Option Addr) (c c' : Nat) (xs ys : List Nat) (w : World) (h : Rd w A c xs) (h' : Rd w A' c' ys) :
    Calls Try.prog 20 #[.slice A xs.length c, .slice A' ys.length c'] w (LR w (if okL xs ys = true then lgL xs ys else []) (if okL xs ys = true then 0 else 1)) := by
  have har := fun w h => are_c A c xs w h
  have har' := fun w h => are_c A' c' ys w h
  have hbad := LR.bad w 1
  by_cases hok : okL xs ys = true
  · rw [if_pos hok, if_pos hok]
    unfold okL at hok
    rw [Bool.and_eq_true, Bool.and_eq_true, Bool.and_eq_true, Bool.not_eq_true', Bool.not_eq_true', decide_eq_true_eq, decide_eq_true_eq] at hok
    obtain ⟨hlx, hly, hb1, hb2⟩ := hok
    rw [hb1] at har
    rw [hb2] at har'
    have hop := fun w h => opened_c A c xs w h (by omega)
    have hop' := fun w h => opened_c A' c' ys w h (by omega)
    have hlg := fun A A' c c' w h h' => long_c A A' c c' xs ys w h h' hlx hly (al_of_big hb1) (al_of_big hb2)
    have hzl : (lgL xs ys).length ≤ 1000000 := by
      unfold lgL
      split
      · simp
      · rw [tab_len]; omega
    have htl := fun A c w h => told_c A c (lgL xs ys) w h hzl
    generalize lgL xs ys = Z at *
    have m1 : max (xs.length : Int) (ys.length : Int) ≤ 32768 := by omega
    have m2 : decide (32768 < max (xs.length : Int) (ys.length : Int)) = false := decide_eq_false (by omega)
    have m3 : (32768 < max (xs.length : Int) (ys.length : Int)) = False := eq_false (by omega)
    clear hb1 hb2 hbad
    go_enter Try.func20, Try.ntmps20
    go_wp2_with fail
    refine (har _ h).mono ?_
    rintro z w1 ⟨rfl, rfl⟩
    go_wp2_with fail
    refine (har' _ h').mono ?_
    rintro z w1 ⟨rfl, rfl⟩
    go_wp2_with fail
    refine (hop _ h).mono ?_
    rintro z w1 ⟨v1, rfl, ho1, hE1⟩
    obtain ⟨A1, c1, rfl, hr1⟩ := ho1.rd
    go_wp2_with fail
    refine (hop' _ (h'.ext hE1)).mono ?_
    rintro z w2 ⟨v2, rfl, ho2, hE2⟩
    obtain ⟨A2, c2, rfl, hr2⟩ := ho2.rd
    go_wp2_with fail
    refine (hlg _ _ _ _ _ (hr1.ext hE2) hr2).mono ?_
    rintro z w3 ⟨v3, rfl, ho3, hE3⟩
    obtain ⟨A3, c3, rfl, hr3⟩ := ho3.rd
    go_wp2_with fail
    refine (htl _ _ _ hr3).mono ?_
    rintro z w4 ⟨v4, rfl, ho4, hE4⟩
    go_wp2_with fail
    go_ret2
    have hE := (hE1.tr hE2).tr hE3
    exact ⟨_, rfl, ho4.low hE.size, hE.tr hE4⟩
  · rw [if_neg hok, if_neg hok]
    by_cases hm : xs.length ≤ 32768 ∧ ys.length ≤ 32768
    · have m1 : max (xs.length : Int) (ys.length : Int) ≤ 32768 := by omega
      have m2 : decide (32768 < max (xs.length : Int) (ys.length : Int)) = false := decide_eq_false (by omega)
      have m3 : (32768 < max (xs.length : Int) (ys.length : Int)) = False := eq_false (by omega)
      have hor : bigB xs = true ∨ bigB ys = true := by
        unfold okL at hok
        rw [decide_eq_true hm.1, decide_eq_true hm.2, Bool.true_and, Bool.true_and] at hok
        revert hok
        cases bigB xs <;> cases bigB ys <;> simp
      clear hok hm
      by_cases hb : bigB xs = true
      · rw [hb] at har
        clear hor hb
        go_enter Try.func20, Try.ntmps20
        go_wp2_with fail
        refine (har _ h).mono ?_
        rintro z w1 ⟨rfl, rfl⟩
        go_wp2_with fail
        go_ret2
        exact hbad
      · have hb2 : bigB ys = true := hor.resolve_left hb
        rw [show bigB xs = false by simpa using hb] at har
        rw [hb2] at har'
        clear hor hb hb2
        go_enter Try.func20, Try.ntmps20
        go_wp2_with fail
        refine (har _ h).mono ?_
        rintro z w1 ⟨rfl, rfl⟩
        go_wp2_with fail
        refine (har' _ h').mono ?_
        rintro z w1 ⟨rfl, rfl⟩
        go_wp2_with fail
        go_ret2
        exact hbad
    · have m1 : ¬ max (xs.length : Int) (ys.length : Int) ≤ 32768 := by omega
      have m2 : decide (32768 < max (xs.length : Int) (ys.length : Int)) = true := decide_eq_true (by omega)
      have m3 : (32768 < max (xs.length : Int) (ys.length : Int)) = True := eq_true (by omega)
      clear hok hm
      go_enter Try.func20, Try.ntmps20
      go_wp2_with fail
      go_ret2
      exact hbad
end Go.Proofs.Ythbnkhgcfcigjaa
