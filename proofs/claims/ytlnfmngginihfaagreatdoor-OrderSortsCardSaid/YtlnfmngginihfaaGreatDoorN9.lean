/- fin.Make, Float, Args; order.Scale, Exponent; the error of a format, a rounding and floats (chapter 16); scaling as a function of floats. -/
import Derived.Test.YtlnfmngginihfaaGreatDoorN3
import Derived.Test.YtlnfmngginihfaaGreatDoorV5
import Derived.Test.YtlnfmngginihfaaGreatDoorOM
import Derived.Test.YtlnfmngginihfaaGreatDoorB0
import Derived.Test.YtlnfmngginihfaaGreatDoorOF
import Derived.Test.YtlnfmngginihfaaGreatDoorR4
import Derived.Test.YtlnfmngginihfaaGreatDoorTG
set_option linter.unusedVariables false
set_option linter.unusedSimpArgs false
namespace Go.Proofs.YtlnfmngginihfaaGreatDoor
open Go.RowKit
attribute [local go_sem ↓] Go.wp_at_zero Go.wp_at_succ

theorem boxesFY (w : World) (k p : Int) : ∀ W, W = ((w.alloc (.cells #[.int .i64 k, .int .i64 p] 23)).alloc (.cells #[.int .i64 0, .bool false, .int .i64 0, .slice none 0 0] 40)) →
    Bf W w.heap.size (.int .i64 k) (.int .i64 p) ∧ Bx W (w.heap.size + 1) (.int .i64 0) (.bool false) (.int .i64 0) (.slice none 0 0) ∧ Ext w W := by
  rintro W rfl
  have x2 := Bx.new (w.alloc (.cells #[.int .i64 k, .int .i64 p] 23)) (.int .i64 0) (.bool false) (.int .i64 0) (.slice none 0 0)
  rw [World.size_alloc] at x2
  exact ⟨(Bf.new w _ _).ext ((Ext.refl _).al _), x2, ((Ext.refl w).al _).al _⟩
theorem or12 : bits BinOp.or IntKind.i64 1 2 = 3 := by decide
theorem step_bd {k p e : Int} (hR : Rgt k p) (h1 : -2100000 ≤ e) (h2 : e ≤ 2300000) : -2200000 ≤ stepN k p e ∧ stepN k p e ≤ 2300000 := by
  obtain ⟨r1, r2, r3, r4⟩ := hR
  have hg := gr_bd r1 r2
  have hle : le k = 1 - gr k := rfl
  have hti : ti k p = le k - (p - 1) := rfl
  unfold stepN
  split <;> omega
set_option exponentiation.threshold 1000 in
theorem cn_len_pow2 {n e : Nat} (h : n ≤ 2 ^ e) (he : e ≤ 256) : (cn n).length ≤ 5 := by
  refine (cn_len_le _ 5).2 ?_
  rw [B_two, ← Nat.pow_mul]
  exact Nat.lt_of_le_of_lt h (Nat.pow_lt_pow_right (by omega) (by omega))
end Go.Proofs.YtlnfmngginihfaaGreatDoor
namespace Go.Proofs.YtlnfmngginihfaaGreatDoor
open Go.RowKit
attribute [local go_sem ↓] Go.wp_at_zero Go.wp_at_succ

theorem small_all {l : List FA} (h : l.any (fun a => decide (4096 < a.xs.length)) = false) (i : Nat) (hi : i < l.length) : ¬ 4096 < l[i].xs.length := fun hb => by
  rw [any_of_large i hi hb] at h
  cases h
set_option maxHeartbeats 4000000 in
set_option maxRecDepth 100000 in
theorem args_arg (k p r : Int) (out : Bool) (A : Option Addr) (c : Nat) (l : List FA) (hb : l.any (fun a => decide (4096 < a.xs.length)) = false) (hro : ¬ (0 ≤ r ∧ r ≤ 4) ∨ out = true) (w : World) (h : FRd w A c l) :
    Calls Tryz.prog 15 #[.agg #[.int .i64 k, .int .i64 p], .int .i64 r, .bool out, .slice A l.length c] w fun e w' => e = .returned (.tuple #[.slice none 0 0, .int .i64 1]) ∧ Ext w w' := by
  have hll := h.len
  have hrt := fun w => right_c r w
  have hE := (Ext.refl w).al (Obj.cells #[Value.int IntKind.i64 k, Value.int IntKind.i64 p] 23)
  have hsm := small_all hb
  have HE := Lib.hid hE
  clear hE hb
  go_enter Tryz.func15, Tryz.ntmps15
  go_wp2
  go_loopw [14] (fun v16 wr => AgL w l v16 wr) (fun v _ => l.length - (intOf v).toNat)
  case atStart => exact ⟨0, Nat.zero_le _, rfl, fun j _ hj => absurd hj (by omega), HE.out⟩
  case round =>
    clear HE
    obtain ⟨i, hi, rfl, hsm', hE⟩ := hrel
    have HSM := Lib.hid hsm'
    clear hsm'
    by_cases hlt : i < l.length
    · obtain ⟨ad, rfl, h0, h1, h2, h3, hr⟩ := h.cell i hlt
      replace h0 := hE.cell h0
      replace h1 := hE.cell h1
      replace h2 := hE.cell h2
      replace h3 := hE.cell h3
      have hidx : ((i : Int) * 4).toNat = i * 4 := by omega
      have hbig := hsm i hlt
      have hd : decide ((4096 : Int) < (l[i].xs.length : Int)) = false := decide_eq_false (by omega)
      have HSM2 := Lib.hid hsm
      clear hsm hbig
      go_wp2
      go_roundw
      case rel => exact ⟨i + 1, hlt, by go_num, fun j hj _ => HSM2.out j hj, hE.al _⟩
      case measure => simp [intOf]; omega
    · obtain rfl : i = l.length := by omega
      clear HSM hsm
      by_cases hr : 0 ≤ r ∧ r ≤ 4
      · have ho : out = true := hro.resolve_left (fun h => h hr)
        subst ho
        rw [decide_eq_true hr] at hrt
        clear hr hro
        go_wp2_with fail
        refine (hrt _).mono ?_
        rintro z w2 ⟨rfl, rfl⟩
        go_wp2
        go_ret2
        exact ⟨rfl, hE⟩
      · rw [decide_eq_false hr] at hrt
        clear hr hro
        go_wp2_with fail
        refine (hrt _).mono ?_
        rintro z w2 ⟨rfl, rfl⟩
        go_wp2
        go_ret2
        exact ⟨rfl, hE⟩
set_option maxHeartbeats 4000000 in
set_option maxRecDepth 100000 in
theorem args_ok (k p r : Int) (A : Option Addr) (c : Nat) (l : List FA) (hb : l.any (fun a => decide (4096 < a.xs.length)) = false) (hr : 0 ≤ r ∧ r ≤ 4) (w : World) (hT : Tab w) (h : FRd w A c l) :
    Calls Tryz.prog 15 #[.agg #[.int .i64 k, .int .i64 p], .int .i64 r, .bool false, .slice A l.length c] w (FlsR w (FlsS k p l)) := by
  have hll := h.len
  have hrt := fun w => right_c r w
  rw [decide_eq_true hr] at hrt
  have hfl := fun w hT h => floats_c k p A c l w hT h
  generalize FlsS k p l = S at *
  unfold FlsR at hfl ⊢
  obtain ⟨ec, fs⟩ := S
  simp only at hfl ⊢
  have hE := (Ext.refl w).al (Obj.cells #[Value.int IntKind.i64 k, Value.int IntKind.i64 p] 23)
  have hF := Bf.new w (.int .i64 k) (.int .i64 p)
  have hsm := small_all hb
  have h' := h.ext hE
  have HE := Lib.hid hE
  have HF := Lib.hid hF
  clear hE hb h hF
  go_enter Tryz.func15, Tryz.ntmps15
  go_wp2
  generalize w.alloc (Obj.cells #[Value.int IntKind.i64 k, Value.int IntKind.i64 p] 23) = W at *
  go_loopw [14] (fun v16 wr => AgL W l v16 wr) (fun v _ => l.length - (intOf v).toNat)
  case atStart => exact ⟨0, Nat.zero_le _, rfl, fun j _ hj => absurd hj (by omega), Ext.refl _⟩
  case round =>
    obtain ⟨i, hi, rfl, hsm', hE⟩ := hrel
    have HSM := Lib.hid hsm'
    clear hsm'
    by_cases hlt : i < l.length
    · obtain ⟨ad, rfl, h0, h1, h2, h3, hr⟩ := h'.cell i hlt
      replace h0 := hE.cell h0
      replace h1 := hE.cell h1
      replace h2 := hE.cell h2
      replace h3 := hE.cell h3
      have hidx : ((i : Int) * 4).toNat = i * 4 := by omega
      have hbig := hsm i hlt
      have hd : decide ((4096 : Int) < (l[i].xs.length : Int)) = false := decide_eq_false (by omega)
      have HSM2 := Lib.hid hsm
      clear hsm hbig
      go_wp2
      go_roundw
      case rel => exact ⟨i + 1, hlt, by go_num, fun j hj _ => HSM2.out j hj, hE.al _⟩
      case measure => simp [intOf]; omega
    · obtain rfl : i = l.length := by omega
      clear HSM hsm
      obtain ⟨f0, f1⟩ := (HF.out.ext hE).facts
      go_wp2_with fail
      refine (hrt _).mono ?_
      rintro z w2 ⟨rfl, rfl⟩
      go_wp2_with fail
      refine (hfl _ (hT.ext (HE.out.tr hE)) (h'.ext hE)).mono ?_
      rintro z w3 ⟨v, rfl, ho, hb3⟩
      have hE3 := HE.out.tr (hE.tr hb3)
      have ho3 := ho.low (HE.out.tr hE).size
      go_wp2
      go_ret2
      exact ⟨_, rfl, ho3, hE3⟩
end Go.Proofs.YtlnfmngginihfaaGreatDoor
namespace Go.Proofs.YtlnfmngginihfaaGreatDoor
open Go.RowKit
attribute [local go_sem ↓] Go.wp_at_zero Go.wp_at_succ

/-- What Scale hands back. -/
def ScR (w : World) (ec K : Int) (f : Fl) (e : Ending) (w' : World) : Prop := ∃ u, e = .returned (.tuple #[u, .int .i64 K, .int .i64 ec]) ∧ FlR w' w.heap.size f u ∧ Ext w w'
theorem ScR.bad {w w' : World} {ec : Int} (hE : Ext w w') : ScR w ec 0 ⟨0, false, 0, 0⟩ (.returned (.tuple #[flV 0 false 0 (.slice none 0 0), .int .i64 0, .int .i64 ec])) w' :=
  ⟨_, rfl, ⟨_, rfl, by rw [show cn 0 = [] from digs_zero B]; exact Own.nil _ _⟩, hE⟩
theorem any_small_one {a : FA} (h : a.xs.length ≤ 4096) : [a].any (fun a => decide (4096 < a.xs.length)) = false := by simp; omega
theorem oneRow (W : World) (a : FA) (n : Nat) (hn : W.heap.size = n) (ha : Rd W a.A a.c a.xs) : FRd (W.alloc (.cells #[.int .i64 a.k, .bool a.neg, .int .i64 a.e, .slice a.A a.xs.length a.c] 40)) (some ⟨n, 0, none⟩) 1 [a] := by
  subst hn
  exact FRd.one (Bx.new W _ _ _ _) (ha.ext ((Ext.refl W).al _))
end Go.Proofs.YtlnfmngginihfaaGreatDoor
namespace Go.Proofs.YtlnfmngginihfaaGreatDoor
open Go.RowKit
attribute [local go_sem ↓] Go.wp_at_zero Go.wp_at_succ

end Go.Proofs.YtlnfmngginihfaaGreatDoor
namespace Go.Proofs.YtlnfmngginihfaaGreatDoor
open Go.RowKit
attribute [local go_sem ↓] Go.wp_at_zero Go.wp_at_succ

/-- The error of a rounding, and of a format and floats. -/
def kaS (k p r : Int) (l : List FA) : Int := if 0 ≤ r ∧ r ≤ 4 then chkS k p l else 1
end Go.Proofs.YtlnfmngginihfaaGreatDoor
namespace Go.Proofs.YtlnfmngginihfaaGreatDoor
open Go.RowKit

def scF (k p r : Int) (f : Fl) (n : Int) : Fl := if f.kind = 1 then fltF k p r f.neg f.mag (f.exp + n) else f
def scK (k p r : Int) (f : Fl) (n : Int) : Int := if f.kind = 1 then fltK k p r f.neg f.mag (f.exp + n) else 0
theorem mk_of {k p U : Int} {neg : Bool} {N : Nat} (hR : Rgt k p) (hN : N ≤ 2 ^ p.toNat) (hU : ti k p ≤ U) (hg : U + bl N - 1 ≤ gr k) : FOf k p (mkF neg N U) := by
  obtain ⟨r1, r2, r3, r4⟩ := hR
  have hgb := gr_bd r1 r2
  have hle : le k = 1 - gr k := rfl
  have hti : ti k p = le k - (p - 1) := rfl
  unfold mkF
  by_cases hn : N = 0
  · rw [if_pos hn]
    refine ⟨⟨by simp, by simp, by simp, by simp, by simp, by simp⟩, fun h => by simp at h, ?_⟩
    show (cn 0).length ≤ 4096
    rw [show cn 0 = [] from digs_zero B]
    simp
  · rw [if_neg hn]
    have hp : 0 < N := by omega
    have hbt := bl_div_tz hp
    have htl := tz_lt_bl N hp
    have hbq : (bl (N / 2 ^ tz N) : Int) ≤ p := by
      rcases Nat.lt_or_ge N (2 ^ p.toNat) with h | h
      · have := (bl_le N p.toNat).2 h
        omega
      · have e : N = 2 ^ p.toNat := by omega
        have e2 : tz N = p.toNat := by
          rw [e]
          have := tz_mul_pow 1 p.toNat (by omega)
          rwa [Nat.mul_one, show tz 1 = 0 from tz_odd rfl, Nat.add_zero] at this
        rw [e2, e, Nat.div_self (Nat.two_pow_pos _)]
        have := (bl_le 1 1).2 (by decide)
        omega
    refine ⟨⟨by simp only; omega, by simp only; omega, by simp, fun _ => (tz_div N hp).2, by simp, by simp⟩, fun _ => ?_, ?_⟩
    · simp only
      omega
    · simp only
      refine Nat.le_trans (cn_len_mono (Nat.div_le_self _ _)) (Nat.le_trans (cn_len_pow2 (e := p.toNat) hN (by omega)) (by omega))
theorem over_of {k p r : Int} {neg : Bool} (hR : Rgt k p) : FOf k p (overF k p r neg) := by
  obtain ⟨r1, r2, r3, r4⟩ := hR
  have hgb := gr_bd r1 r2
  have hle : le k = 1 - gr k := rfl
  have hti : ti k p = le k - (p - 1) := rfl
  unfold overF
  split
  · have hod : (2 ^ p.toNat - 1) % 2 = 1 := by
      obtain ⟨n, hn⟩ : ∃ n, p.toNat = n + 1 := ⟨p.toNat - 1, by omega⟩
      have := Nat.two_pow_pos n
      rw [hn, Nat.pow_succ]
      omega
    have hb : bl (2 ^ p.toNat - 1) = p.toNat := by
      obtain ⟨n, hn⟩ : ∃ n, p.toNat = n + 1 := ⟨p.toNat - 1, by omega⟩
      rw [hn]
      have := Nat.two_pow_pos n
      refine bl_unique ?_ ?_
      · rw [Nat.pow_succ]; omega
      · rw [Nat.pow_succ]; omega
    refine ⟨⟨by simp only; omega, by simp only; omega, by simp, fun _ => hod, by simp, by simp⟩, fun _ => ?_, ?_⟩
    · simp only
      rw [hb]
      omega
    · simp only
      exact Nat.le_trans (cn_len_pow2 (e := p.toNat) (by omega) (by omega)) (by omega)
  · refine ⟨⟨by simp, by simp, by simp, by simp, by simp, by simp⟩, fun h => by simp at h, ?_⟩
    show (cn 0).length ≤ 4096
    rw [show cn 0 = [] from digs_zero B]
    simp
theorem flt_of {k p r exp : Int} {neg : Bool} (hR : Rgt k p) {m : Nat} (hm : 0 < m) : FOf k p (fltF k p r neg m exp) := by
  unfold fltF
  split
  · exact over_of hR
  · exact mk_of hR (fN_bits hR hm) (cut_bits hR hm).2.2 (by omega)
theorem sc_of {k p r : Int} (hR : Rgt k p) {f : Fl} (hf : FOf k p f) (n : Int) : FOf k p (scF k p r f n) := by
  unfold scF
  split
  · rename_i hk
    exact flt_of hR (by have := hf.ok.odd hk; omega)
  · exact hf
/-- Scaled without flags, and back without flags. -/
theorem sc_back {k p r : Int} {f : Fl} (hf : FOf k p f) {n : Int} (h1 : scK k p r f n = 0) (h2 : scK k p r (scF k p r f n) (-n) = 0) : scF k p r (scF k p r f n) (-n) = f := by
  obtain ⟨fk, fn, fe, fm⟩ := f
  by_cases hk : fk = 1
  · subst hk
    have hod := hf.ok.odd rfl
    unfold scK at h1
    simp only [if_true] at h1
    have e1 : scF k p r ⟨1, fn, fe, fm⟩ n = ⟨1, fn, fe + n, fm⟩ := by
      unfold scF
      simp only [if_true]
      exact flt_exact hod h1
    rw [e1] at h2 ⊢
    unfold scK at h2
    simp only [if_true] at h2
    unfold scF
    simp only [if_true]
    rw [flt_exact hod h2]
    congr 1
    omega
  · have e : ∀ n, scF k p r ⟨fk, fn, fe, fm⟩ n = ⟨fk, fn, fe, fm⟩ := fun n => by
      unfold scF
      exact if_neg hk
    rw [e, e]
theorem ka_good {k p r : Int} {a : FA} (h : kaS k p r [a] = 0) (hw : W64 a.xs) (hl : a.xs.length ≤ 4096) : (0 ≤ r ∧ r ≤ 4) ∧ Rgt k p ∧ ∃ f, a.can = some f ∧ FOf k p f ∧ FlsS k p [a] = (0, [f]) := by
  unfold kaS at h
  split at h
  · rename_i hr
    obtain ⟨hR, hf⟩ := chk_good h
    obtain ⟨f, hc, hin⟩ := hf a (by simp)
    have hof := of_good hc hin hw hl
    exact ⟨hr, hR, f, hc, hof, FlsS_one_ok hR hl hc hin⟩
  · omega
end Go.Proofs.YtlnfmngginihfaaGreatDoor
