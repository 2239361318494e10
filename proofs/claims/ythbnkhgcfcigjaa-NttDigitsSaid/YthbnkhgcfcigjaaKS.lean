/- package ntt: transform. -/
import Derived.Test.YthbnkhgcfcigjaaKP
import Derived.Test.YthbnkhgcfcigjaaKQ
import Derived.Test.YthbnkhgcfcigjaaKT
import Derived.Laws.EntriesVeiled
import Derived.RegionIn
import Derived.OrdersIn
import Derived.BigRegionIn
set_option linter.unusedVariables false
set_option linter.unusedSimpArgs false
namespace Go.Proofs.Ythbnkhgcfcigjaa
open Go.RowKit Go.Shelf Go.Maps
attribute [local go_sem] Oper.semAt_some

/-- The roots of the halves. -/
def rtR (m u k : Nat) : Nat := u ^ 2 ^ (m - k) % PP
theorem rtR_lt (m u k : Nat) : rtR m u k < PP := Nat.mod_lt _ PP_pos
theorem rtR_top {m u : Nat} (hu : u < PP) : rtR m u m = u := by unfold rtR; rw [Nat.sub_self, Nat.pow_zero, Nat.pow_one, Nat.mod_eq_of_lt hu]
theorem rtR_step {m u j : Nat} (hj : j < m) : rtR m u j = rtR m u (j + 1) * rtR m u (j + 1) % PP := by
  unfold rtR
  rw [← Nat.mul_mod, ← Nat.pow_add, show m - j = (m - (j + 1)) + 1 by omega, Nat.pow_succ, Nat.mul_two]
theorem br_al {m : Nat} {xs : List Nat} (hl : xs.length = 2 ^ m) (h : Al xs) : Al (br m xs) := by
  intro j
  rcases Nat.lt_or_ge j (2 ^ m) with hj | hj
  · have := br_get m xs (rv m j) hl (rv_lt m j)
    rw [rv_rv hj] at this
    rw [this]
    exact h _
  · rw [getD_past (by rw [br_len m xs hl]; exact hj)]
    exact PP_pos
theorem btw_dft {m u : Nat} {xs : List Nat} (hl : xs.length = 2 ^ m) (hal : Al xs) (hu : u < PP) (hg : Gd m u) : btw (rtR m u) m 0 (br m xs) = dftL u xs := by
  refine ext_get (by rw [btw_len, dftL_len, br_len m xs hl, hl]) fun i hi => ?_
  rw [btw_len, br_len m xs hl] at hi
  have h1 := btw_get (rtR m u) m 0 (br m xs) (by rw [br_len m xs hl]; omega) (br_al hl hal) (fun j hj => rtR_step hj) i hi
  rw [Nat.zero_add, List.drop_zero, rtR_top hu, bfly_dft m u xs i hl hg hi] at h1
  rw [h1, dftL_get u xs (by omega)]
theorem frozen_new (w : World) (cs : Array Value) (t : TypeId) (i : Nat) : (w.alloc (.cells cs t)).frozen? ⟨w.heap.size, i, none⟩ = false := by
  have hz := heap_alloc_new w (.cells cs t)
  unfold World.frozen?
  dsimp only
  rw [hz]
  rfl
/-- What a call hands back: a row of residues, alone in a new block. -/
def Rk (w : World) (xs : List Nat) (e : Ending) (w' : World) : Prop := ∃ g, e = .returned (.slice (some ⟨g, 0, none⟩) xs.length xs.length) ∧ w.heap.size ≤ g ∧ Rs.Bk w' g xs ∧ Ext w w'
theorem own_gb {β : Type} (w2 : World) (g : Nat) : OwnFrom w2.heap.size (fun (_ : β) W => Gb g w2 W) := fun _ A B row hs hg hr =>
  ⟨hg.os.trans hs.os, hg.tape.trans hs.tape, hg.output.trans hs.output, Nat.le_trans hs.size hg.size, fun i hi hn => (hg.block i (Nat.lt_of_lt_of_le hi hs.size) (fun e => by have := (hr i e.symm).1; omega)).trans (hs.block i hi hn)⟩
theorem own_bk {β : Type} {B0 : Nat} (g : Nat) (hg : g < B0) (f : β → List Nat) : OwnFrom B0 (fun s W => Rs.Bk W g (f s)) := fun s A B row hs hg' hr =>
  ⟨(hg'.block g hs.lt (fun e => by have := (hr g e.symm).1; omega)).trans hs.h, hs.w64⟩
set_option maxRecDepth 100000 in
set_option maxHeartbeats 4000000 in
theorem transform_c (m : Nat) (hm : m ≤ 16) (A : Option Addr) (c : Nat) (xs : List Nat) (u : Nat) (w : World) (h : Rd w A c xs) (hl : xs.length = 2 ^ m) (hal : Al xs) (hu : u < PP) (hg : Gd m u) :
    Calls Try.prog 64 #[.slice A xs.length c, .int .u64 (u : Int)] w (Rk w (dftL u xs)) := by
  obtain ⟨N, hN⟩ : ∃ N, xs.length = N := ⟨_, rfl⟩
  have hNb : N ≤ 65536 := by rw [← hN, hl]; exact Nat.pow_le_pow_right (n := 2) (by omega) hm
  have hN0 : 0 < N := by rw [← hN, hl]; exact Nat.two_pow_pos m
  have htu := fun (n : Int) w => turned_c n w
  have hlen := hN
  rw [hl] at hN
  have HL := Lib.hid hN.symm
  have HN := Lib.hid hN0
  rw [hlen]
  have HLEN := Lib.hid hlen
  obtain ⟨ad, rfl⟩ := h.addr (by rw [hlen]; exact hN0)
  have hgr : ∀ i, i < N → w.cell? (ad.add i) = some (.int .u64 (xs.getD i 0 : Nat)) := fun i hi => h.get i (by rw [hlen]; exact hi)
  clear hl hN h hlen
  refine (callsIn_wide (n := 3)).1 (callsIn_of_wp_marks Try.func64 rfl trivial ?_)
  simp only [Try.ntmps64, List.size_toArray, List.length_cons, List.length_nil, Nat.reduceAdd, Nat.reduceSub, Array.replicate_succ, Array.replicate_zero, List.push_toArray, List.append_toArray, List.nil_append, List.cons_append]
  refine wpIn_wide.2 ?_
  go_wp2_with (first
    | (at_make; refine Rs.wp_make rfl _ _ _ rfl Try.underlying62 N _ rfl rfl rfl (by omega) ?_; intro g w1 hg1 hb1 he1; have cA : w1.cell? ⟨w.heap.size, 0, none⟩ = some (.slice (some ad) N c) := he1.cell (cell_of_row _ w.heap.size 0 _ _ _ (heap_alloc_new w _)); have cA2 := ((Ext.refl w1).al (.cells #[.slice (some ⟨g, 0, none⟩) N N] 62)).cell cA)
    | (go_at_call 90; refine (htu _ _).mono ?_; rintro e w' ⟨rfl, rfl⟩))
  have cB : (w1.alloc (.cells #[.slice (some ⟨g, 0, none⟩) N N] 62)).cell? ⟨w1.heap.size, 0, none⟩ = some (.slice (some ⟨g, 0, none⟩) N N) := cell_of_row _ w1.heap.size 0 _ _ _ (heap_alloc_new w1 (.cells #[.slice (some ⟨g, 0, none⟩) N N] 62))
  have cB2 := ((Ext.refl (w1.alloc (.cells #[.slice (some ⟨g, 0, none⟩) N N] 62))).al (.cells #[.int .i64 (N : Int)] 3)).cell cB
  have cA3 := ((Ext.refl (w1.alloc (.cells #[.slice (some ⟨g, 0, none⟩) N N] 62))).al (.cells #[.int .i64 (N : Int)] 3)).cell cA2
  have cQ : ((w1.alloc (.cells #[.slice (some ⟨g, 0, none⟩) N N] 62)).alloc (.cells #[.int .i64 (N : Int)] 3)).cell? ⟨(w1.alloc (.cells #[.slice (some ⟨g, 0, none⟩) N N] 62)).heap.size, 0, none⟩ = some (.int .i64 (N : Int)) := cell_of_row _ _ 0 _ _ _ (heap_alloc_new (w1.alloc (.cells #[.slice (some ⟨g, 0, none⟩) N N] 62)) (.cells #[.int .i64 (N : Int)] 3))
  rw [World.size_alloc] at cQ hg1
  have hb2 := (hb1.al (.cells #[.slice (some ⟨g, 0, none⟩) N N] 62)).al (.cells #[.int .i64 (N : Int)] 3)
  have hE2 : Ext w ((w1.alloc (.cells #[.slice (some ⟨g, 0, none⟩) N N] 62)).alloc (.cells #[.int .i64 (N : Int)] 3)) := ((((Ext.refl w).al _).tr he1).al _).al _
  have hg2 := hb1.lt
  have hz2 : w1.heap.size + 1 < ((w1.alloc (.cells #[.slice (some ⟨g, 0, none⟩) N N] 62)).alloc (.cells #[.int .i64 (N : Int)] 3)).heap.size := by rw [World.size_alloc, World.size_alloc]; omega
  generalize (w1.alloc (.cells #[.slice (some ⟨g, 0, none⟩) N N] 62)).alloc (.cells #[.int .i64 (N : Int)] 3) = w2 at *
  clear cA cA2 cB hb1 he1
  generalize w1.heap.size = b5 at *
  have hseq : SeqStopsK Fence.wide 2 Try.prog 103 #[.pointer (some ⟨b5 + 1, 0, none⟩)] (fun x : Fin N => #[.int .i64 ((x.1 : Nat) : Int), .int .i64 ((rv m x.1 : Nat) : Int)]) (KpB (b5 + 1)) (fun ys => ys = List.finRange N) (fun _ => True) N w2 := by
    intro l J Jx W hW _ _ hY h0
    exact turned1_in m N l _ hm HL.out J Jx hY W ((hW.cell hz2).trans cQ) h0
  refine (wpIn_wide (n := 3)).1 ?_
  refine wpIn_rangeFunc_ownF rfl (by omega) (gf := 103) (lb := #[.pointer (some ⟨b5 + 1, 0, none⟩)]) rfl trivial (enters_of Try.func103 (by kernel_rfl) rfl) hseq kpB_t (kpB_b hz2) (Below.refl _ _) (fun _ => rfl)
    (fun pre W => Gb g w2 W ∧ Rs.Bk W g (lay m xs pre (List.replicate N 0))) (fun _ _ _ => False) (OwnFrom.and (own_gb w2 g) (own_bk g (by omega) _)) (fun _ _ _ _ _ hs _ _ => hs) ⟨Gb.refl _ _, hb2⟩
    (fun x => { tmps := #[.slice (some ad) N c, .int .u64 (u : Int), .pointer (some ⟨w.heap.size, 0, none⟩), undef, .slice none 0 0, .pointer (some ⟨b5, 0, none⟩), .int .i64 ((x.1 : Nat) : Int), .int .i64 ((rv m x.1 : Nat) : Int), undef, undef, undef, undef, .slice (some ad) N c, .int .i64 (N : Int), .slice (some ⟨g, 0, none⟩) N N, .slice (some ad) N c, .int .i64 (N : Int), .func (.func 103) #[] #[.pointer (some ⟨b5 + 1, 0, none⟩)], .int .i64 ((x.1 : Nat) : Int), .int .i64 ((rv m x.1 : Nat) : Int), undef, undef, undef, undef, undef, undef, undef, undef, undef, undef, undef, undef, undef, undef, undef, undef, undef, undef, undef, undef, undef, undef, undef, undef, undef, undef], defers := [] }) ?assign ?body ?done ?stop
  case assign =>
    intro l x W K hK
    gi_wp2
    exact hK
  case stop =>
    rintro D cc pre W _ _ hh _
    exact hh.elim
  case body =>
    rintro l pre x W ⟨hG, hB⟩ hpre
    have hmx : Try.prog.follows .mixedOrders = true := by kernel_rfl
    have k2 := hG.far cA3 (by show w.heap.size ≠ g; omega)
    have k5 := hG.far cB2 (by show b5 ≠ g; omega)
    have hrl := rv_lt m x.1
    rw [← HL.out] at hrl
    have hx2 := x.2
    have hxc : W.cell? (ad.add x.1) = some (.int .u64 (xs.getD x.1 0 : Nat)) := (hG.ext hE2 (by omega)).cell (hgr x.1 hx2)
    have hyl : rv m x.1 < (lay m xs pre (List.replicate N 0)).length := by rw [lay_len, List.length_replicate]; exact hrl
    have hyc := hB.cell (rv m x.1) hyl
    have hyf := hB.frozen (rv m x.1)
    have hsn := lay_snoc m xs pre x (List.replicate N 0)
    have hvB := Nat.lt_trans (hal x.1) PP_lt_B
    have hB2 := hB.set (rv m x.1) (xs.getD x.1 0) hvB
    rw [← hsn] at hB2
    have HB2 := Lib.hid hB2
    clear hB2 hsn hyl hvB hgr
    generalize xs.getD x.1 0 = v at *
    generalize rv m x.1 = k at *
    obtain ⟨i, hi⟩ := x
    dsimp only at *
    gi_wp2
    gi_region
    all_goals gi_wp2
    all_goals exact ⟨(KeepsOthers.setCell _ _ _).trans (KeepsOthers.drew _), fun v hv => (((Gb.refl g W).set k _).drew).far hv (by show b5 + 1 ≠ g; omega), (hG.set k _).drew, HB2.out.drew⟩
  case done =>
    rintro D ys W hD rfl ⟨hG, hB⟩ hK
    rw [lay_br HL.out xs _ HLEN.out (by rw [List.length_replicate])] at hB
    have k2 := hG.far cA3 (by show w.heap.size ≠ g; omega)
    have k5 := hG.far cB2 (by show b5 ≠ g; omega)
    have hEW := hG.ext hE2 (by omega)
    have hmm := @run_makeMap Try.prog
    have hDW : D < W.heap.size := (Array.getElem?_eq_some_iff.1 hK).1
    have hE3 : Ext W ((W.alloc (.map #[] 0)).alloc (.cells #[.map (some W.heap.size)] 87)) := ((Ext.refl W).al (.map #[] 0)).al (.cells #[.map (some W.heap.size)] 87)
    have hM3 : Mp ((W.alloc (.map #[] 0)).alloc (.cells #[.map (some W.heap.size)] 87)) W.heap.size 0 (m + 1) m (rtR m u) :=
      ⟨.map [], (World.ownsMap_made W _ _ _).alloc _, ⟨[], rfl⟩, fun k a b => absurd a (by omega)⟩
    have c8 : ((W.alloc (.map #[] 0)).alloc (.cells #[.map (some W.heap.size)] 87)).cell? ⟨(W.alloc (.map #[] 0)).heap.size, 0, none⟩ = some (.map (some W.heap.size)) := cell_of_row _ _ 0 _ _ _ (heap_alloc_new (W.alloc (.map #[] 0)) (.cells #[.map (some W.heap.size)] 87))
    rw [World.size_alloc] at c8
    have hz3 : W.heap.size + 1 < ((W.alloc (.map #[] 0)).alloc (.cells #[.map (some W.heap.size)] 87)).heap.size := by rw [World.size_alloc, World.size_alloc]; omega
    have HE3 := Lib.hid hE3
    have HM3 := Lib.hid hM3
    have HC8 := Lib.hid c8
    have HZ3 := Lib.hid hz3
    have j2 := hE3.cell k2
    clear hgr hseq htu cA3 cB2 cQ hb2 hE3 hM3 c8 hz3
    go_wp2_with fail
    have hE3 := HE3.out
    have hM3 := HM3.out
    have c8 := HC8.out
    have hz3 := HZ3.out
    clear HE3 HM3 HC8 HZ3
    generalize (W.alloc (.map #[] 0)).alloc (.cells #[.map (some W.heap.size)] 87) = W3 at *
    have j5 := hE3.cell k5
    have hB3 := hB.ext hE3
    have hK3 := (hE3.block D hDW).trans hK
    have hEW3 := hEW.tr hE3
    have hgW := hB.lt
    have hsW := hEW.size
    have hb5W : b5 < W.heap.size := by have := hG.size; omega
    clear k2 k5 hK hE3 hB hEW hmm
    generalize W.heap.size = q at *
    go_loopw [9, 10] (fun v9 v10 wr => ∃ i : Nat, i ≤ m ∧ v9 = .int .i64 ((2 ^ i : Nat) : Int) ∧ v10 = .int .u64 ((rtR m u i : Nat) : Int) ∧ Mp wr q (m - i) (i + 1) m (rtR m u) ∧ Gb q W3 wr) (fun v _ _ => (intOf v).toNat)
    case atStart => exact ⟨m, Nat.le_refl _, by rw [← HL.out], by rw [rtR_top hu], by rw [Nat.sub_self]; exact hM3, Gb.refl _ _⟩
    case round =>
      obtain ⟨i, hi, rfl, rfl, hM4, hG4⟩ := hrel
      have k8 := hG4.far c8 (by show q + 1 ≠ q; omega)
      have r1 := rtR_lt m u i
      have HM4 := Lib.hid hM4
      clear hM4
      rcases i with _ | i
      · have hM5 := HM4.out
        rw [Nat.sub_zero, Nat.zero_add] at hM5
        have hqw := hM5.lt
        have hwk := fun w9 h1 h2 => work_c (rtR m u) (rtR_lt m u) g wr.heap.size (q + 1) q m m (by have := hG4.size; omega) (by omega) (by omega) (by omega) hm m 0 N (br m xs) w9 (Nat.le_refl _) h1 h2
        clear HM4
        have hmf : ∀ (fn : Fn) (first cap : Array Value) (w : World), (Instr.makeFunc fn first cap).run Try.prog w = .ok (.func fn first cap) w := fun _ _ _ _ => rfl
        have c1 : wr.cell? ⟨b5, 0, none⟩ = some (.slice (some ⟨g, 0, none⟩) N N) := hG4.far j5 (by show b5 ≠ q; omega)
        have e6 : Ext wr (wr.alloc (.cells #[wkV wr.heap.size (q + 1)] 88)) := (Ext.refl wr).al _
        have c5 := e6.cell c1
        have c8 := e6.cell k8
        have c11 : (wr.alloc (.cells #[wkV wr.heap.size (q + 1)] 88)).cell? ⟨wr.heap.size, 0, none⟩ = some (wkV wr.heap.size (q + 1)) := cell_of_row _ _ 0 _ _ _ (heap_alloc_new wr (.cells #[wkV wr.heap.size (q + 1)] 88))
        unfold wkV at c5 c8 c11 e6
        have HE6 := Lib.hid e6
        clear e6 hE2
        rw [Nat.pow_zero]
        go_wp2_with fail
        have E6 := HE6.out
        have hB6 := (hB3.h)
        have hsz4 := hG4.size
        have hB7 : Rs.Bk wr g (br m xs) := ⟨(hG4.block g (by omega) (fun e => by have := Option.some.inj e; omega)).trans hB3.h, hB3.w64⟩
        have hB8 := hB7.ext E6
        have hE8 := (hG4.ext hEW3 hsW).tr E6
        have hM8 := hM5.al (.cells #[.func (.func 91) #[] #[.pointer (some ⟨wr.heap.size, 0, none⟩), .pointer (some ⟨q + 1, 0, none⟩)]] 88)
        have hK8 := (E6.block D (by omega)).trans ((hG4.block D (by omega) (fun e => by have := Option.some.inj e; omega)).trans hK3)
        have hz8 := E6.size
        generalize wr.alloc (.cells #[.func (.func 91) #[] #[.pointer (some ⟨wr.heap.size, 0, none⟩), .pointer (some ⟨q + 1, 0, none⟩)]] 88) = w9 at *
        have hlb : (br m xs).length = N := by rw [br_len m xs (HLEN.out.trans HL.out), ← HL.out]
        have hw := hwk w9 hB8 (br_al (HLEN.out.trans HL.out) hal) (by omega) (by rw [← HL.out]; omega) (by rw [← HL.out]; exact Nat.le_refl _) (by omega) c11 c8 hM8
        rw [← HL.out] at hw
        refine hw.mono ?_
        rintro z w10 ⟨⟨v10, rfl⟩, hB10, hG10⟩
        rw [btw_dft (HLEN.out.trans HL.out) hal hu hg] at hB10
        have c10 := hG10.far c5 (by show b5 ≠ g; omega)
        have hE10 := hG10.ext hE8 (by omega)
        have hK10 := (hG10.block D (by omega) (fun e => by have := Option.some.inj e; omega)).trans hK8
        clear hw hwk
        go_wp2_with fail
        refine ⟨by simp, .inl ⟨_, _, rfl, run_takeDeferred hK10, ?_⟩⟩
        have hGD := grownBy_putObj' w10 D (.deferred none)
        have hBf : Rs.Bk (w10.putObj D (.deferred none)) g (dftL u xs) := ⟨(hGD.block g hB10.lt (fun e => by have := Option.some.inj e; omega)).trans hB10.h, hB10.w64⟩
        have hEf : Ext w (w10.putObj D (.deferred none)) := Gb.ext (g := D) hGD hE10 (by omega)
        refine ⟨_, results_tmp rfl _ _ _, ⟨g, ?_, by omega, hBf, hEf⟩⟩
        rw [dftL_len, HLEN.out]
        rfl
      · have hp : 2 ^ (i + 1) = 2 ^ i * 2 := Nat.pow_succ 2 i
        have hpos := Nat.two_pow_pos i
        have hle : 2 ^ (i + 1) ≤ 2 ^ 16 := Nat.pow_le_pow_right (by omega) (by omega)
        obtain ⟨n2, hn2⟩ : ∃ n2, 2 ^ i = n2 := ⟨_, rfl⟩
        have hst := rtR_step (u := u) (show i < m by omega)
        have hm1 := fun w => times_c (rtR m u (i + 1)) (rtR m u (i + 1)) w (Nat.lt_trans r1 PP_lt_B) (Nat.lt_trans r1 PP_lt_B)
        rw [← hst] at hm1
        obtain ⟨n, hn⟩ : ∃ n, 2 ^ (i + 1) = n := ⟨_, rfl⟩
        rw [hn2] at hp hpos
        rw [hn] at hp hle ⊢
        have n3 : (n : Int).tdiv 2 = (n2 : Int) := by rw [Int.tdiv_eq_ediv_of_nonneg (by omega)]; omega
        have n4 : (n : Int) / 2 = (n2 : Int) := by omega
        have n5 : decide (1 < (n : Int)) = true := decide_eq_true (by omega)
        have n6 : (1 < (n : Int)) = True := eq_true (by omega)
        have HNN := Lib.hid hn
        have HN2 := Lib.hid hn2
        have hlt : n2 < n := by omega
        have hle2 : n2 ≤ 65536 := by omega
        clear hn hn2 hp hst hle
        go_wp2_with (at_mapUpdate; refine wp_root rfl _ _ _ rfl q (m - (i + 1)) (i + 1) m (rtR m u) rfl HM4.out (by omega) (by omega) _ rfl (by rw [HNN.out]) rfl (Nat.lt_trans r1 PP_lt_B) ?_; intro w4 hM5 hG5)
        refine (hm1 _).mono ?_
        rintro zz w5 ⟨rfl, rfl⟩
        go_wp2_with fail
        go_roundw
        case rel => exact ⟨i, by omega, by rw [HN2.out], rfl, by rw [show m - i = m - (i + 1) + 1 by omega]; exact hM5, hG4.tr hG5⟩
        case measure => simp [intOf]; omega
end Go.Proofs.Ythbnkhgcfcigjaa
