/- package format: Decode: what it answers; the errors. -/
import Derived.Test.YtlnfmngginihfaaGreatDoorF8
set_option linter.unusedVariables false
set_option linter.unusedSimpArgs false
namespace Go.Proofs.YtlnfmngginihfaaGreatDoor
open Go.RowKit
attribute [local go_sem ↓] Go.wp_at_zero Go.wp_at_succ

/-- The bits of the exponent, the rest, and the sign, of a number. -/
def dB (k p : Int) (n : Nat) : Nat := n / 2 ^ (p.toNat - 1) % 2 ^ k.toNat
def dL (p : Int) (n : Nat) : Nat := n % 2 ^ (p.toNat - 1)
def dN (k p : Int) (n : Nat) : Bool := n.testBit (k.toNat + p.toNat - 1)
/-- The magnitude and the exponent of the finite float of a number, before it is made canonical. -/
def dM (k p : Int) (n : Nat) : Nat := if dB k p n = 0 then dL p n else dL p n + 2 ^ (p.toNat - 1)
def dE (k p : Int) (n : Nat) : Int := if dB k p n = 0 then ti k p else dB k p n - gr k - p + 1
/-- The float that a number encodes. -/
def decF (k p : Int) (n : Nat) : Fl :=
  if dB k p n = 2 ^ k.toNat - 1 then (if dL p n = 0 then ⟨2, dN k p n, 0, 0⟩ else ⟨3, false, 0, 0⟩)
  else if dB k p n = 0 ∧ dL p n = 0 then ⟨0, dN k p n, 0, 0⟩
  else ⟨1, dN k p n, dE k p n + tz (dM k p n), dM k p n / 2 ^ tz (dM k p n)⟩
def decE (k p : Int) (xs : List Nat) : Int := if 4096 < xs.length then 2 else if Rgt k p then (if k + p < bl (val xs) then 151 else 0) else 150
/-- What Decode hands back: the error and the float. -/
def FErr (w : World) (ec : Int) (f : Fl) (e : Ending) (w' : World) : Prop := ∃ u, e = .returned (.tuple #[u, .int .i64 ec]) ∧ FlR w' w.heap.size f u ∧ Ext w w'
theorem FErr.bad {w w' : World} {ec : Int} (hE : Ext w w') : FErr w ec ⟨0, false, 0, 0⟩ (.returned (.tuple #[flV 0 false 0 (.slice none 0 0), .int .i64 ec])) w' :=
  ⟨_, rfl, ⟨_, rfl, by rw [show cn 0 = [] from digs_zero B]; exact Own.nil _ _⟩, hE⟩
set_option maxHeartbeats 4000000 in
set_option maxRecDepth 100000 in
theorem decode_size (k p : Int) (A : Option Addr) (c : Nat) (xs : List Nat) (w : World) (hl : 4096 < xs.length) :
    Calls Tryz.prog 46 #[.agg #[.int .i64 k, .int .i64 p], .slice A xs.length c] w (FErr w 2 ⟨0, false, 0, 0⟩) := by
  have hd : decide ((4096 : Int) < (xs.length : Int)) = true := by simp; omega
  generalize xs.length = n at *
  go_enter Tryz.func46, Tryz.ntmps46
  go_wp2
  refine bodyPost_ret (v := .tuple #[flV 0 false 0 (.slice none 0 0), .int .i64 2]) (by simp [results, Tryz.results46, go_sem]) rfl ?_
  exact FErr.bad (by repeat (with_reducible first | exact Ext.refl _ | refine Ext.set ?_ (by simp) _ _ | refine Ext.al ?_ _ | refine Ext.drewN ?_ _ | refine Ext.drew ?_))
set_option maxHeartbeats 4000000 in
set_option maxRecDepth 100000 in
theorem decode_fmt (k p : Int) (A : Option Addr) (c : Nat) (xs : List Nat) (w : World) (hl : xs.length ≤ 4096) (hR : ¬ Rgt k p) :
    Calls Tryz.prog 46 #[.agg #[.int .i64 k, .int .i64 p], .slice A xs.length c] w (FErr w 150 ⟨0, false, 0, 0⟩) := by
  have hd : decide ((4096 : Int) < (xs.length : Int)) = false := by simp; omega
  have hrng := fun w => range_no k p w hR
  generalize xs.length = n at *
  have hE0 := ((Ext.refl w).al (Obj.cells #[.int .i64 k, .int .i64 p] 23)).al (Obj.cells #[.int .i64 0, .bool false, .int .i64 0, .slice none 0 0] 40)
  have hX0 := Bx.new (w.alloc (Obj.cells #[.int .i64 k, .int .i64 p] 23)) (.int .i64 0) (.bool false) (.int .i64 0) (.slice none 0 0)
  rw [World.size_alloc] at hX0
  clear hR hl
  go_enter Tryz.func46, Tryz.ntmps46
  go_wp2_with (go_at_call 64; refine (hrng _).mono ?_; rintro e w1 ⟨rfl, hb⟩; obtain ⟨r0, r1, r2, r3, rf⟩ := (hX0.ext hb).facts; have hz := (hX0.ext hb).lt)
  have hE1 := hE0.tr hb
  obtain ⟨q0, q1, q2, q3, -⟩ := ((hX0.ext hb).put (.int .i64 0) (.bool false) (.int .i64 0) (.slice none 0 0)).facts
  refine bodyPost_ret (v := .tuple #[flV 0 false 0 (.slice none 0 0), .int .i64 150]) (by simp [results, Tryz.results46, go_sem, q0, q1, q2, q3]) rfl ?_
  exact FErr.bad (by repeat (with_reducible first | exact hE1 | refine Ext.set ?_ (by omega) _ _ | refine Ext.al ?_ _ | refine Ext.drewN ?_ _ | refine Ext.drew ?_))
set_option maxHeartbeats 4000000 in
set_option maxRecDepth 100000 in
theorem decode_long (k p : Int) (A : Option Addr) (c : Nat) (xs : List Nat) (w : World) (h : Rd w A c xs) (hl : xs.length ≤ 4096) (hR : Rgt k p) (hlen : k + p < bl (val xs)) :
    Calls Tryz.prog 46 #[.agg #[.int .i64 k, .int .i64 p], .slice A xs.length c] w (FErr w 151 ⟨0, false, 0, 0⟩) := by
  have hd : decide ((4096 : Int) < (xs.length : Int)) = false := by simp; omega
  have hd2 : decide (k + p < (bl (val xs) : Int)) = true := by simpa using hlen
  have hrng := fun w => range_yes k p w hR
  have hlc := fun w h => len_c A c xs w h (by omega)
  obtain ⟨hk1, hk2, hp1, hp2⟩ := hR
  have hw1 : IntKind.i64.wrap (k + p) = k + p := by rw [IntKind.wrap_i64]; omega
  have hE0 := ((Ext.refl w).al (Obj.cells #[.int .i64 k, .int .i64 p] 23)).al (Obj.cells #[.int .i64 0, .bool false, .int .i64 0, .slice none 0 0] 40)
  have hF0 := (Bf.new w (.int .i64 k) (.int .i64 p)).ext ((Ext.refl _).al (Obj.cells #[.int .i64 0, .bool false, .int .i64 0, .slice none 0 0] 40))
  have hX0 := Bx.new (w.alloc (Obj.cells #[.int .i64 k, .int .i64 p] 23)) (.int .i64 0) (.bool false) (.int .i64 0) (.slice none 0 0)
  rw [World.size_alloc] at hX0
  generalize bl (val xs) = ℓ at *
  go_enter Tryz.func46, Tryz.ntmps46
  go_wp2_with (go_at_call 64; refine (hrng _).mono ?_; rintro e w1 ⟨rfl, hb⟩; obtain ⟨r0, r1, r2, r3, rf⟩ := (hX0.ext hb).facts; obtain ⟨f0, f1⟩ := (hF0.ext hb).facts; have hz := (hX0.ext hb).lt)
  have hE1 := hE0.tr hb
  have hr1 := (h.ext hE0).ext hb
  go_region_held3 (fun w' => w'.cell? ⟨w.heap.size, 0, none⟩ = some (.int .i64 k)) (go_keep)
    (first | (go_at_call 65; refine (hlc _ (by first | exact hr1 | exact hr1.drew)).mono ?_; rintro e w3 ⟨rfl, n, rfl⟩))
  go_wp2
  obtain ⟨q0, q1, q2, q3, -⟩ := (((hX0.ext hb).ext ((Ext.refl w1).drewN (1 + n))).put (.int .i64 0) (.bool false) (.int .i64 0) (.slice none 0 0)).facts
  refine bodyPost_ret (v := .tuple #[flV 0 false 0 (.slice none 0 0), .int .i64 151]) (by simp [results, Tryz.results46, go_sem, q0, q1, q2, q3]) rfl ?_
  exact FErr.bad (by repeat (with_reducible first | exact hE1 | refine Ext.set ?_ (by omega) _ _ | refine Ext.al ?_ _ | refine Ext.drewN ?_ _ | refine Ext.drew ?_))
theorem i64_or_nat (a b : Nat) (ha : a < 9223372036854775808) (hb : b < 9223372036854775808) : bits BinOp.or IntKind.i64 (a : Int) (b : Int) = ((a ||| b : Nat) : Int) := by
  have hx : a ||| b < 2 ^ 63 := Nat.or_lt_two_pow (by omega) (by omega)
  show IntKind.i64.wrap ((BitVec.ofInt 64 (a : Int) ||| BitVec.ofInt 64 (b : Int)).toNat : Int) = _
  rw [BitVec.toNat_or, ofInt_u64 a (by omega), ofInt_u64 b (by omega), IntKind.wrap_i64]
  omega
/-- One bit more of a number's low bits. -/
theorem mod_bit (h i : Nat) : h % 2 ^ (i + 1) = h % 2 ^ i + (if h.testBit i = true then 2 ^ i else 0) := by
  have e : h % 2 ^ (i + 1) = h % 2 ^ i + 2 ^ i * (h / 2 ^ i % 2) := by rw [Nat.pow_succ, Nat.mod_mul]
  rw [e, Nat.testBit_eq_decide_div_mod_eq]
  have := Nat.mod_two_eq_zero_or_one (h / 2 ^ i)
  rcases this with h0 | h0 <;> rw [h0] <;> simp
theorem or_bit (h i : Nat) (hi : i ≤ 15) (hb : h.testBit i = true) : bits BinOp.or IntKind.i64 ((h % 2 ^ i : Nat) : Int) (2 ^ i) = ((h % 2 ^ (i + 1) : Nat) : Int) := by
  have hle : 2 ^ i ≤ 2 ^ 15 := Nat.pow_le_pow_right (by omega) hi
  have hm := Nat.mod_lt h (Nat.two_pow_pos i)
  have hc : (2 : Int) ^ i = ((2 ^ i : Nat) : Int) := by rw [Int.natCast_pow]; rfl
  rw [hc, i64_or_nat _ _ (by omega) (by omega), Nat.or_comm, nat_join i _ _ (Nat.mod_self _) hm, mod_bit, if_pos hb, Nat.add_comm]
theorem wrap_pow15 (i : Nat) (hi : i ≤ 15) : IntKind.i64.wrap (2 ^ i) = 2 ^ i := by
  have hle : 2 ^ i ≤ 2 ^ 15 := Nat.pow_le_pow_right (by omega) hi
  have hc : (2 : Int) ^ i = ((2 ^ i : Nat) : Int) := by rw [Int.natCast_pow]; rfl
  have hp := Nat.two_pow_pos i
  generalize 2 ^ i = q at *
  rw [hc, IntKind.wrap_i64]; omega
theorem bit_i (A : Option Addr) (c : Nat) (xs : List Nat) (I : Int) (w : World) (h : Rd w A c xs) (h0 : 0 ≤ I) (hi : I ≤ 1000000000) :
    Calls Tryz.prog 72 #[.slice A xs.length c, .int .i64 I] w fun e w' => e = .returned (.bool ((val xs).testBit I.toNat)) ∧ ∃ n, w' = w.drewN n := by
  obtain ⟨s, rfl⟩ := Int.eq_ofNat_of_zero_le h0
  exact bit_c A c xs s w h (by omega)
theorem FErr.plain {w w' : World} {kd : Int} {ng : Bool} (hE : Ext w w') : FErr w 0 ⟨kd, ng, 0, 0⟩ (.returned (.tuple #[flV kd ng 0 (.slice none 0 0), .int .i64 0])) w' :=
  ⟨_, rfl, ⟨_, rfl, by rw [show cn 0 = [] from digs_zero B]; exact Own.nil _ _⟩, hE⟩
theorem wrap_ones_i {k : Int} (h1 : 2 ≤ k) (h2 : k ≤ 15) : wrap64 (wrap64 (2 ^ k.toNat) - 1) = ((2 ^ k.toNat - 1 : Nat) : Int) := by
  have hlt : 2 ^ k.toNat ≤ 2 ^ 15 := Nat.pow_le_pow_right (by omega) (by omega)
  have hpos := Nat.two_pow_pos k.toNat
  have hc : (2 : Int) ^ k.toNat = ((2 ^ k.toNat : Nat) : Int) := by rw [Int.natCast_pow]; rfl
  rw [hc]
  generalize 2 ^ k.toNat = q at *
  unfold wrap64; omega
/-- The finite float of a number is right. -/
theorem dec_can {k p : Int} {n : Nat} (h1 : 2 ≤ k) (h2 : k ≤ 15) (h3 : 2 ≤ p) (h4 : p ≤ 256) (hb : dB k p n ≠ 2 ^ k.toNat - 1) (hz : ¬ (dB k p n = 0 ∧ dL p n = 0)) :
    -1048576 ≤ dE k p n ∧ dE k p n ≤ 1048576 ∧ 0 < dM k p n ∧ bl (dM k p n) ≤ p ∧ canon 1 (dN k p n) (dE k p n) (dM k p n) = some (decF k p n) ∧ dB k p n ≤ 32768 ∧ -20000 ≤ dE k p n ∧ dE k p n ≤ 40000 := by
  have hg := gr_bd h1 h2
  have hti : ti k p = 1 - gr k - (p - 1) := rfl
  have hB : dB k p n < 2 ^ k.toNat := Nat.mod_lt _ (Nat.two_pow_pos _)
  have hle : 2 ^ k.toNat ≤ 2 ^ 15 := Nat.pow_le_pow_right (by omega) (by omega)
  have hL : dL p n < 2 ^ (p.toNat - 1) := Nat.mod_lt _ (Nat.two_pow_pos _)
  have hE : -20000 ≤ dE k p n ∧ dE k p n ≤ 40000 := by unfold dE; split <;> omega
  have hM : 0 < dM k p n := by unfold dM; split <;> omega
  have hbl : bl (dM k p n) ≤ p := by
    have : bl (dM k p n) ≤ p.toNat := (bl_le _ _).2 (by
      have e : 2 ^ p.toNat = 2 * 2 ^ (p.toNat - 1) := by rw [← Nat.pow_succ']; congr 1; omega
      unfold dM; split <;> omega)
    omega
  have ht := tz_le_bl (dM k p n)
  refine ⟨by omega, by omega, hM, hbl, ?_, by omega, hE.1, hE.2⟩
  unfold canon decF
  rw [if_neg (by omega), if_neg (by omega), if_pos rfl, if_neg (by omega), if_pos (by omega), if_neg hb, if_neg hz]
theorem Bx.apart {w : World} {g g' : Nat} {a b c d : Value} (x : Bx w g a b c d) (hne : g ≠ g') (a' b' c' d' : Value) : Bx ((((w.setCell ⟨g', 0, none⟩ a').setCell ⟨g', 1, none⟩ b').setCell ⟨g', 2, none⟩ c').setCell ⟨g', 3, none⟩ d') g a b c d := by
  refine ⟨?_⟩
  rw [Below.heap_setCell _ _ _ _ (by simpa using hne), Below.heap_setCell _ _ _ _ (by simpa using hne), Below.heap_setCell _ _ _ _ (by simpa using hne), Below.heap_setCell _ _ _ _ (by simpa using hne)]
  exact x.h
theorem Bx.s3 {w : World} {g : Nat} {a b c d : Value} (x : Bx w g a b c d) (v : Value) : Bx (w.setCell ⟨g, 3, none⟩ v) g a b c v := by
  have h := x.h
  constructor
  simp [World.setCell, Array.getElem?_modify, h]
theorem Bx.s2 {w : World} {g : Nat} {a b c d : Value} (x : Bx w g a b c d) (v : Value) : Bx (w.setCell ⟨g, 2, none⟩ v) g a b v d := by
  have h := x.h
  constructor
  simp [World.setCell, Array.getElem?_modify, h]
end Go.Proofs.YtlnfmngginihfaaGreatDoor
