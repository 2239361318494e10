/- package format: Encode. -/
import Derived.Test.YtlnfmngginihfaaGreatDoorF6
import Derived.Deep.CutBlock
set_option linter.unusedVariables false
set_option linter.unusedSimpArgs false
namespace Go.Proofs.YtlnfmngginihfaaGreatDoor
open Go.RowKit
attribute [local go_sem ↓] Go.wp_at_zero Go.wp_at_succ

/-- The number that encodes a canonical float of a right format. -/
def encM (k p : Int) (f : Fl) : Nat :=
  if f.kind = 0 then 0 else if f.kind = 1 then
    (if f.exp + bl f.mag - 1 < le k then f.mag * 2 ^ (f.exp - ti k p).toNat else (f.exp + bl f.mag - 1 + gr k - 1).toNat * 2 ^ (p.toNat - 1) + f.mag * 2 ^ (p - bl f.mag).toNat)
  else (2 ^ k.toNat - 1) * 2 ^ (p.toNat - 1) + (if f.kind = 3 then 2 ^ (p.toNat - 2) else 0)
def encS (k p : Int) (f : Fl) : Nat := encM k p f + if f.neg = true then 2 ^ (k.toNat + p.toNat - 1) else 0
/-- What Encode hands back: the error and the number. -/
def NatR (w : World) (ec : Int) (n : Nat) (e : Ending) (w' : World) : Prop := ∃ v, e = .returned (.tuple #[v, .int .i64 ec]) ∧ Own w' w.heap.size v (cn n) ∧ Ext w w'
theorem FRd.one {w : World} {g : Nat} {a : FA} (hx : Bx w g (.int .i64 a.k) (.bool a.neg) (.int .i64 a.e) (.slice a.A a.xs.length a.c)) (hr : Rd w a.A a.c a.xs) : FRd w (some ⟨g, 0, none⟩) 1 [a] :=
  ⟨by simp, by simp, fun i hi => by
    obtain rfl : i = 0 := by simpa using hi
    obtain ⟨h0, h1, h2, h3, -⟩ := hx.facts
    exact ⟨_, rfl, h0, h1, h2, h3, hr⟩⟩
theorem OwnF.one {w : World} {base : Nat} {v : Value} {f : Fl} (h : OwnF w base v [f]) : ∃ g A1 c1 c, v = .slice (some ⟨g, 0, none⟩) 1 c ∧ w.cell? ⟨g, 0, none⟩ = some (.int .i64 f.kind) ∧ w.cell? ⟨g, 1, none⟩ = some (.bool f.neg) ∧ w.cell? ⟨g, 2, none⟩ = some (.int .i64 f.exp) ∧
    w.cell? ⟨g, 3, none⟩ = some (.slice A1 (cn f.mag).length c1) ∧ Rd w A1 c1 (cn f.mag) ∧ Own w base (.slice A1 (cn f.mag).length c1) (cn f.mag) := by
  obtain ⟨A, c, rfl, hc, h⟩ := h.rd
  obtain ⟨g, A1, c1, rfl, h0, h1, h2, h3, h4, h5⟩ := h 0 (by simp)
  exact ⟨g, A1, c1, c, rfl, h0, h1, h2, h3, h4, h5⟩
/-- What a call of Floats with one float hands back. -/
theorem FlsS_one (k p : Int) (a : FA) : FlsS k p [a] = (if 4096 < a.xs.length then (2, []) else if Rgt k p then (match holdS k p a.can with | some f => (0, [f]) | none => (151, [])) else (150, []) : Int × List Fl) := by
  unfold FlsS
  simp only [List.any_cons, List.any_nil, Bool.or_false, decide_eq_true_eq, List.mapM_cons, List.mapM_nil]
  cases holdS k p a.can <;> rfl
/-- The error of a format and one float. -/
def fltE (k p : Int) (a : FA) : Int := (FlsS k p [a]).1
theorem FlsS_err {k p : Int} {a : FA} (h : fltE k p a ≠ 0) : FlsS k p [a] = (fltE k p a, []) := by
  unfold fltE at h ⊢
  rw [FlsS_one] at h ⊢
  split
  · rfl
  · split
    · split
      · rename_i h1 h2 _ _ h3; rw [if_neg h1, if_pos h2, h3] at h; exact absurd rfl h
      · rfl
    · rfl
theorem FlsS_ok {k p : Int} {a : FA} (h : fltE k p a = 0) : Rgt k p ∧ a.xs.length ≤ 4096 ∧ ∃ f, a.can = some f ∧ InF k p f ∧ FlsS k p [a] = (0, [f]) := by
  unfold fltE at h
  rw [FlsS_one] at h ⊢
  split at h
  · cases h
  · rename_i h1
    split at h
    · rename_i h2
      refine ⟨h2, by omega, ?_⟩
      cases hc : a.can with
      | none => rw [hc] at h; exact absurd h (by simp [holdS])
      | some f =>
        rw [hc] at h
        by_cases hin : InF k p f
        · exact ⟨f, rfl, hin, by rw [if_neg h1, if_pos h2]; simp [holdS, hin]⟩
        · exact absurd h (by simp [holdS, hin])
    · exact absurd h (by simp)
/-- The three boxes with which a function over a format and a float begins to call Floats. -/
theorem boxes3 (w : World) (k p : Int) (a : FA) (hT : Tab w) (h : Rd w a.A a.c a.xs) : ∀ W, W = ((w.alloc (Obj.cells #[Value.int IntKind.i64 k, Value.int IntKind.i64 p] 23)).alloc (Obj.cells #[Value.int IntKind.i64 a.k, Value.bool a.neg, Value.int IntKind.i64 a.e, Value.slice a.A a.xs.length a.c] 40)).alloc
      (Obj.cells #[Value.int IntKind.i64 a.k, Value.bool a.neg, Value.int IntKind.i64 a.e, Value.slice a.A a.xs.length a.c] 40) →
    Ext w W ∧ Bf W w.heap.size (.int .i64 k) (.int .i64 p) ∧ Bx W (w.heap.size + 1) (.int .i64 a.k) (.bool a.neg) (.int .i64 a.e) (.slice a.A a.xs.length a.c) ∧
      Calls Tryz.prog 24 #[.agg #[.int .i64 k, .int .i64 p], .slice (some ⟨w.heap.size + 1 + 1, 0, none⟩) 1 1] W (FlsR W (FlsS k p [a])) := by
  rintro W rfl
  have hE := (((Ext.refl w).al (Obj.cells #[Value.int IntKind.i64 k, Value.int IntKind.i64 p] 23)).al (Obj.cells #[Value.int IntKind.i64 a.k, Value.bool a.neg, Value.int IntKind.i64 a.e, Value.slice a.A a.xs.length a.c] 40)).al (Obj.cells #[Value.int IntKind.i64 a.k, Value.bool a.neg, Value.int IntKind.i64 a.e, Value.slice a.A a.xs.length a.c] 40)
  refine ⟨hE, ((Bf.new w _ _).ext ((Ext.refl _).al _)).ext ((Ext.refl _).al _), ?_, ?_⟩
  · have := (Bx.new (w.alloc (Obj.cells #[Value.int IntKind.i64 k, Value.int IntKind.i64 p] 23)) (.int .i64 a.k) (.bool a.neg) (.int .i64 a.e) (.slice a.A a.xs.length a.c)).ext ((Ext.refl _).al (Obj.cells #[Value.int IntKind.i64 a.k, Value.bool a.neg, Value.int IntKind.i64 a.e, Value.slice a.A a.xs.length a.c] 40))
    rwa [World.size_alloc] at this
  · have hx := Bx.new ((w.alloc (Obj.cells #[Value.int IntKind.i64 k, Value.int IntKind.i64 p] 23)).alloc (Obj.cells #[Value.int IntKind.i64 a.k, Value.bool a.neg, Value.int IntKind.i64 a.e, Value.slice a.A a.xs.length a.c] 40)) (.int .i64 a.k) (.bool a.neg) (.int .i64 a.e) (.slice a.A a.xs.length a.c)
    simp only [World.size_alloc] at hx
    exact floats_c k p _ 1 [a] _ (hT.ext hE) (FRd.one hx (h.ext hE))
set_option maxHeartbeats 4000000 in
set_option maxRecDepth 100000 in
theorem encode_bad (k p : Int) (a : FA) (w : World) (hT : Tab w) (h : Rd w a.A a.c a.xs) (hbad : fltE k p a ≠ 0) :
    Calls Tryz.prog 51 #[.agg #[.int .i64 k, .int .i64 p], a.v] w (NatR w (fltE k p a) 0) := by
  obtain ⟨hE, -, -, hfl⟩ := boxes3 w k p a hT h _ rfl
  rw [FlsS_err hbad] at hfl
  have hEb : (fltE k p a != 0) = true := by simpa using hbad
  clear hbad
  generalize fltE k p a = ec at *
  obtain ⟨kd, neg, e, A, c, xs⟩ := a
  go_enter Tryz.func51, Tryz.ntmps51
  go_wp2_with fail
  refine hfl.mono ?_
  rintro e w1 ⟨v, rfl, -, hb1⟩
  go_wp2
  go_ret2
  exact ⟨_, rfl, by rw [show cn 0 = [] from digs_zero B]; exact Own.nil _ _, hE.tr hb1⟩
theorem shl_i (A : Option Addr) (c : Nat) (xs : List Nat) (S : Int) (w : World) (h : Rd w A c xs) (h0 : 0 ≤ S) (hs : S ≤ 1000000000) (hl : xs.length ≤ 1000000000) :
    Calls Tryz.prog 67 #[.slice A xs.length c, .int .i64 S] w (Res w (cn (val xs * 2 ^ S.toNat))) := by
  obtain ⟨s, rfl⟩ := Int.eq_ofNat_of_zero_le h0
  exact shl_c A c xs s w h (by omega) hl
theorem shr_i (A : Option Addr) (c : Nat) (xs : List Nat) (S : Int) (w : World) (h : Rd w A c xs) (h0 : 0 ≤ S) (hs : S ≤ 1000000000) (hl : xs.length ≤ 1000000000) :
    Calls Tryz.prog 73 #[.slice A xs.length c, .int .i64 S] w (Res w (cn (val xs / 2 ^ S.toNat))) := by
  obtain ⟨s, rfl⟩ := Int.eq_ofNat_of_zero_le h0
  exact shr_c A c xs s w h (by omega) hl
theorem word_i (X : Int) (w : World) (h0 : 0 ≤ X) (hx : X < 18446744073709551616) : Calls Tryz.prog 81 #[.int .u64 X] w (Res w (cn X.toNat)) := by
  obtain ⟨x, rfl⟩ := Int.eq_ofNat_of_zero_le h0
  exact word_c x w (by rw [B_eq]; omega)
/-- Where the ways through Encode's switch meet. -/
def EncI (w : World) (k p : Int) (f : Fl) (s : Value) (v13 : Value) (wr : World) : Prop := Own wr w.heap.size v13 (cn (encM k p f)) ∧ Ext w wr ∧ Bf wr w.heap.size (.int .i64 k) (.int .i64 p) ∧ Bx wr (w.heap.size + 1) (.int .i64 f.kind) (.bool f.neg) (.int .i64 f.exp) s
theorem canon_fin_bl {a : FA} {f : Fl} (hc : a.can = some f) (hr : W64 a.xs) (hl : a.xs.length ≤ 4096) : bl f.mag ≤ 262144 ∧ (cn f.mag).length ≤ 4096 := by
  have h1 := canon_mag hc
  have h2 := bl_val_le hr
  exact ⟨by have := bl_mono h1; omega, by have := cn_len_of_le hr h1; omega⟩
/-- The exponents' ends of a format, without sight of the powers. -/
theorem gr_pow {k : Int} (h1 : 2 ≤ k) : gr k + 1 = ((2 ^ (k.toNat - 1) : Nat) : Int) := by
  have hc : (2 : Int) ^ (k.toNat - 1) = ((2 ^ (k.toNat - 1) : Nat) : Int) := by rw [Int.natCast_pow]; rfl
  unfold gr; omega
theorem enc_lt {k p : Int} {f : Fl} (hR : Rgt k p) (hf : f.Ok) (hin : InF k p f) : encM k p f < 2 ^ (k.toNat + p.toNat - 1) := by
  obtain ⟨hk1, hk2, hp1, hp2⟩ := hR
  have hg := gr_pow hk1
  have hpk : (2 : Nat) ^ k.toNat = 2 * 2 ^ (k.toNat - 1) := by rw [← Nat.pow_succ']; congr 1; omega
  have hpp : (2 : Nat) ^ (k.toNat + p.toNat - 1) = 2 ^ k.toNat * 2 ^ (p.toNat - 1) := by rw [← Nat.pow_add]; congr 1; omega
  have hp2' : (2 : Nat) ^ (p.toNat - 1) = 2 * 2 ^ (p.toNat - 2) := by rw [← Nat.pow_succ']; congr 1; omega
  have hpos : 0 < 2 ^ (k.toNat - 1) := Nat.two_pow_pos _
  have hpos2 : 0 < 2 ^ (p.toNat - 2) := Nat.two_pow_pos _
  have hpos3 : 0 < 2 ^ (p.toNat - 1) := Nat.two_pow_pos _
  have hK : (2 ^ k.toNat - 1) * 2 ^ (p.toNat - 1) + 2 ^ (p.toNat - 1) = 2 ^ k.toNat * 2 ^ (p.toNat - 1) := by
    rw [Nat.sub_mul, Nat.one_mul]; exact Nat.sub_add_cancel (Nat.le_mul_of_pos_left _ (by omega))
  unfold encM
  split
  · exact Nat.two_pow_pos _
  · rename_i h0
    split
    · rename_i h1
      obtain ⟨i1, i2, i3⟩ := hin h1
      have hodd := hf.odd h1
      have hm : 0 < f.mag := by omega
      have hlt := @bl_lt f.mag
      have hbp := bl_pos hm
      split
      · rename_i h2
        rw [hpp]
        calc f.mag * 2 ^ (f.exp - ti k p).toNat < 2 ^ bl f.mag * 2 ^ (f.exp - ti k p).toNat := Nat.mul_lt_mul_of_pos_right hlt (Nat.two_pow_pos _)
          _ = 2 ^ (bl f.mag + (f.exp - ti k p).toNat) := (Nat.pow_add ..).symm
          _ ≤ 2 ^ (p.toNat - 1) := Nat.pow_le_pow_right (by omega) (by unfold ti at i2 ⊢; omega)
          _ ≤ 2 ^ k.toNat * 2 ^ (p.toNat - 1) := Nat.le_mul_of_pos_left _ (Nat.two_pow_pos _)
      · rename_i h2
        have hs : f.mag * 2 ^ (p - bl f.mag).toNat < 2 * 2 ^ (p.toNat - 1) := by
          calc f.mag * 2 ^ (p - bl f.mag).toNat < 2 ^ bl f.mag * 2 ^ (p - bl f.mag).toNat := Nat.mul_lt_mul_of_pos_right hlt (Nat.two_pow_pos _)
            _ = 2 ^ (p.toNat - 1 + 1) := by rw [← Nat.pow_add]; congr 1; omega
            _ = 2 * 2 ^ (p.toNat - 1) := Nat.pow_succ'
        have hq : (f.exp + bl f.mag - 1 + gr k - 1).toNat + 2 ≤ 2 ^ k.toNat := by
          have : le k = 1 - gr k := rfl
          omega
        have := Nat.mul_le_mul_right (2 ^ (p.toNat - 1)) hq
        rw [Nat.add_mul] at this
        rw [hpp]; omega
    · rw [hpp]
      split <;> omega
set_option exponentiation.threshold 1000 in
theorem encM_len {k p : Int} {f : Fl} (hR : Rgt k p) (hf : f.Ok) (hin : InF k p f) : (cn (encM k p f)).length ≤ 5 := by
  refine (cn_len_le _ _).2 (Nat.lt_of_lt_of_le (enc_lt hR hf hin) ?_)
  obtain ⟨hk1, hk2, hp1, hp2⟩ := hR
  rw [B_two, ← Nat.pow_mul]; exact Nat.pow_le_pow_right (by omega) (by omega)
theorem cn_len_pow {m n k : Nat} (h : n < 2 ^ m) (hm : m ≤ 64 * k) : (cn n).length ≤ k :=
  (cn_len_le _ _).2 (Nat.lt_of_lt_of_le h (by rw [B_two, ← Nat.pow_mul]; exact Nat.pow_le_pow_right (by omega) hm))
/-- Shl of the literal 1. -/
theorem shl1_c (S : Int) (w : World) (h0 : 0 ≤ S) (hs : S ≤ 1000000000) : Calls Tryz.prog 67 #[.slice (some ⟨w.heap.size, 0, none⟩) 1 1, .int .i64 S]
    (w.alloc (.cells #[.int .u64 1] 45)) (Res (w.alloc (.cells #[.int .u64 1] 45)) (cn (2 ^ S.toNat))) := by
  have h := shl_i (some ⟨w.heap.size, 0, none⟩) 1 [1] S _ (Rd.new1 w 1 (by rw [B_eq]; omega)) h0 hs (by simp)
  rwa [val_one, Nat.one_mul] at h
theorem wrap_ones {k : Int} (h1 : 2 ≤ k) (h2 : k ≤ 15) : IntKind.u64.wrap (IntKind.u64.wrap (2 ^ k.toNat) - 1) = ((2 ^ k.toNat - 1 : Nat) : Int) := by
  have hlt : 2 ^ k.toNat ≤ 2 ^ 15 := Nat.pow_le_pow_right (by omega) (by omega)
  have hpos := Nat.two_pow_pos k.toNat
  have hc : (2 : Int) ^ k.toNat = ((2 ^ k.toNat : Nat) : Int) := by rw [Int.natCast_pow]; rfl
  rw [hc]
  generalize 2 ^ k.toNat = q at *
  rw [IntKind.wrap_u64, IntKind.wrap_u64]; omega
end Go.Proofs.YtlnfmngginihfaaGreatDoor
