/- the reference's Decode. -/
import Derived.Test.YtplnaajoeoiieaaDoorS6
import Derived.Test.YtplnaajoeoiieaaDoorF9
set_option linter.unusedVariables false
set_option linter.unusedSimpArgs false
namespace Go.Proofs.YtplnaajoeoiieaaDoor
open Go.RowKit
attribute [local go_sem ↓] Go.wp_at_zero Go.wp_at_succ

theorem rbit_i (A : Option Addr) (c : Nat) (xs : List Nat) (I : Int) (w : World) (h : Rd w A c xs) (h0 : 0 ≤ I) (hi : I ≤ 1000000000) :
    Calls Tryd.prog 81 #[.slice A xs.length c, .int .i64 I] w fun e w' => e = .returned (.bool ((val xs).testBit I.toNat)) ∧ w = w' := by
  obtain ⟨i, rfl⟩ := Int.eq_ofNat_of_zero_le h0
  exact rbit_c A c xs i w h (by omega)
theorem rlow15_c (A : Option Addr) (c : Nat) (xs : List Nat) (w : World) (h : Rd w A c xs) : Calls Tryd.prog 83 #[.slice A xs.length c] w fun e w' => e = .returned (.int .u64 (xs.getD 0 0 : Nat)) ∧ w = w' := by
  by_cases h0 : xs.length = 0
  · obtain rfl := List.eq_nil_of_length_eq_zero h0
    go_enter Tryd.func83, Tryd.ntmps83
    go_wp2
    go_ret
    exact ⟨rfl, rfl⟩
  · obtain ⟨ad, rfl, hc⟩ := h.cell 0 (by omega)
    have hz : ((xs.length : Int) == 0) = false := by rw [beq_eq_false_iff_ne]; omega
    have hp : (0 : Int) < (xs.length : Int) := by omega
    have e0 : ad.add 0 = ad := by unfold Addr.add; simp
    rw [e0] at hc
    generalize xs.getD 0 0 = x at *
    clear h0
    go_enter Tryd.func83, Tryd.ntmps83
    go_wp2
    go_ret
    exact ⟨rfl, rfl⟩
theorem cn_low {m : Nat} (h : m < B) : (cn m).getD 0 0 = m := by
  rcases Nat.eq_zero_or_pos m with rfl | h0
  · rw [show cn 0 = [] from digs_zero B]; rfl
  · rw [show cn m = [m] by rw [cn, digs_pos two_le_B h0, Nat.mod_eq_of_lt h, Nat.div_eq_of_lt h, digs_zero]]; rfl
theorem dB_alt {k p : Int} {n : Nat} (h1 : 2 ≤ k) (h3 : 2 ≤ p) : n % 2 ^ (k + p - 1).toNat / 2 ^ (p - 1).toNat = dB k p n := by
  unfold dB
  rw [show (k + p - 1).toNat = (p.toNat - 1) + k.toNat by omega, show (p - 1).toNat = p.toNat - 1 by omega, Nat.pow_add, Nat.mod_mul_right_div_self]
/-- What the reference's Decode hands back. -/
def DecR (w : World) (ok : Bool) (f : Fl) (e : Ending) (w' : World) : Prop := ∃ u, e = .returned (.tuple #[u, .bool ok]) ∧ FlR w' w.heap.size f u ∧ Ext w w'
theorem DecR.plain {w w' : World} {ok : Bool} {kd : Int} {ng : Bool} (hE : Ext w w') : DecR w ok ⟨kd, ng, 0, 0⟩ (.returned (.tuple #[flV kd ng 0 (.slice none 0 0), .bool ok])) w' :=
  ⟨_, rfl, ⟨_, rfl, by rw [show cn 0 = [] from digs_zero B]; exact Own.nil _ _⟩, hE⟩
set_option maxHeartbeats 4000000 in
set_option maxRecDepth 100000 in
theorem rdecode_c (k p : Int) (hR : Rgt k p) (A : Option Addr) (c : Nat) (xs : List Nat) (w : World) (h : Rd w A c xs) (hl : xs.length ≤ 4096) :
    Calls Tryd.prog 30 #[.agg #[.int .i64 k, .int .i64 p], .slice A xs.length c] w (DecR w (decide ((bl (val xs) : Int) ≤ k + p)) (if (bl (val xs) : Int) ≤ k + p then decF k p (val xs) else ⟨0, false, 0, 0⟩)) := by
  have hF := Bg.new w (.int .i64 k) (.int .i64 p)
  have hA := (Ext.refl w).al (.cells #[.int .i64 k, .int .i64 p] 28)
  have hF2 := hF.ext ((Ext.refl _).al (.cells #[.int .i64 0, .bool false, .int .i64 0, .slice none 0 0] 43))
  have hA2 := hA.al (.cells #[.int .i64 0, .bool false, .int .i64 0, .slice none 0 0] 43)
  have hX := Br.new (w.alloc (.cells #[.int .i64 k, .int .i64 p] 28)) (.int .i64 0) (.bool false) (.int .i64 0) (.slice none 0 0)
  rw [World.size_alloc] at hX
  have HF := Lib.hid hF2
  have HA := Lib.hid hA2
  have HX := Lib.hid hX
  clear hF hA hF2 hA2 hX
  have hlen := fun w h => rlen_c A c xs w h (by omega)
  have hR0 := hR
  obtain ⟨hk1, hk2, hp1, hp2⟩ := hR
  obtain ⟨n, hkn⟩ := Int.eq_ofNat_of_zero_le (show 0 ≤ k by omega)
  obtain ⟨P, hP1, hP2, hP3, hP4⟩ := pow_i64 (n := n) (by omega)
  have e0 : IntKind.i64.wrap (k + p) = k + p := by rw [IntKind.wrap_i64]; omega
  have e1 : IntKind.i64.wrap (k + p - 1) = k + p - 1 := by rw [IntKind.wrap_i64]; omega
  have e2 : IntKind.i64.wrap (p - 1) = p - 1 := by rw [IntKind.wrap_i64]; omega
  by_cases hbl : (bl (val xs) : Int) ≤ k + p
  · rw [if_pos hbl, show decide ((bl (val xs) : Int) ≤ k + p) = true by simpa using hbl]
    have hd : decide (k + p < (bl (val xs) : Int)) = false := by simp; omega
    have hbit := fun w h => rbit_i A c xs (k + p - 1) w h (by omega) (by omega)
    have hlow1 := fun w h => rlow_i A c xs (p - 1) w h (by omega) (by omega) (by omega)
    have hlow2 := fun w h => rlow_i A c xs (k + p - 1) w h (by omega) (by omega) (by omega)
    have hml : ∀ m, (cn (val xs % m)).length ≤ 4096 := fun m => Nat.le_trans (cn_len_of_le h.w64 (Nat.mod_le _ _)) hl
    have hrt := fun A2 c2 w h => rright_i A2 c2 (cn (val xs % 2 ^ (k + p - 1).toNat)) (p - 1) w h (by omega) (by omega) (by have := hml (2 ^ (k + p - 1).toNat); omega)
    rw [val_cn, dB_alt hk1 hp1] at hrt
    have hdB : dB k p (val xs) < P := by
      unfold dB; rw [hP2, show k.toNat = n by omega]; exact Nat.mod_lt _ (Nat.pow_pos (by omega))
    have hlw := fun A2 c2 w h => rlow15_c A2 c2 (cn (dB k p (val xs))) w h
    rw [cn_low (by rw [B_eq]; omega)] at hlw
    have hdL : val xs % 2 ^ (p - 1).toNat = dL p (val xs) := by unfold dL; rw [show (p - 1).toNat = p.toNat - 1 by omega]
    have hLl := hml (2 ^ (p - 1).toNat)
    rw [hdL] at hlow1 hLl
    have hiz := fun A2 c2 w h => riszero_c A2 c2 (cn (dL p (val xs))) w h (by omega)
    rw [val_cn] at hiz
    have hdN : (val xs).testBit (k + p - 1).toNat = dN k p (val xs) := by unfold dN; rw [show (k + p - 1).toNat = k.toNat + p.toNat - 1 by omega]
    rw [hdN] at hbit
    have hcan := dec_can (k := k) (p := p) (n := val xs) hk1 hk2 hp1 hp2
    have hwb : IntKind.i64.wrap (dB k p (val xs) : Int) = dB k p (val xs) := by rw [IntKind.wrap_i64]; omega
    have hP5 : 2 ^ k.toNat - 1 = P - 1 := by rw [hP2, show k.toNat = n by omega]
    have hdF : decF k p (val xs) = if dB k p (val xs) = P - 1 then (if dL p (val xs) = 0 then ⟨2, dN k p (val xs), 0, 0⟩ else ⟨3, false, 0, 0⟩) else if dB k p (val xs) = 0 ∧ dL p (val xs) = 0 then ⟨0, dN k p (val xs), 0, 0⟩ else decF k p (val xs) := by
      unfold decF; rw [hP5]; split <;> (try split) <;> (try split) <;> rfl
    rw [hP5] at hcan
    have hdM0 : dB k p (val xs) = 0 → dM k p (val xs) = dL p (val xs) := fun h0 => by unfold dM; rw [if_pos h0]
    have hdM1 : dB k p (val xs) ≠ 0 → dM k p (val xs) = dL p (val xs) + 2 ^ (p - 1).toNat := fun h0 => by unfold dM; rw [if_neg h0, show (p - 1).toNat = p.toNat - 1 by omega]
    have hdE0 : dB k p (val xs) = 0 → dE k p (val xs) = ti k p := fun h0 => by unfold dE; rw [if_pos h0]
    have hdE1 : dB k p (val xs) ≠ 0 → dE k p (val xs) = dB k p (val xs) - gr k - p + 1 := fun h0 => by unfold dE; rw [if_neg h0]
    have hMl : (cn (dM k p (val xs))).length ≤ 4096 ∨ (dB k p (val xs) = P - 1 ∨ (dB k p (val xs) = 0 ∧ dL p (val xs) = 0)) := by
      by_cases hb1 : dB k p (val xs) = P - 1
      · exact .inr (.inl hb1)
      by_cases hz : dB k p (val xs) = 0 ∧ dL p (val xs) = 0
      · exact .inr (.inr hz)
      · obtain ⟨-, -, -, h4, -⟩ := hcan hb1 hz
        left
        have : (cn (dM k p (val xs))).length ≤ 5 := cn_len_pow ((bl_le _ _).1 (Nat.le_refl _)) (by omega)
        omega
    generalize val xs % 2 ^ (k + p - 1).toNat = n2 at *
    generalize dM k p (val xs) = dm at *
    generalize dE k p (val xs) = de at *
    generalize decF k p (val xs) = F at *
    generalize dN k p (val xs) = neg at *
    generalize dL p (val xs) = lo at *
    generalize dB k p (val xs) = b at *
    generalize bl (val xs) = l at *
    have HDF := Lib.hid hdF
    have HCAN := Lib.hid hcan
    have HM0 := Lib.hid hdM0
    have HM1 := Lib.hid hdM1
    have HE0 := Lib.hid hdE0
    have HE1 := Lib.hid hdE1
    have HML := Lib.hid hMl
    clear hdF hcan hdM0 hdM1 hdE0 hdE1 hMl hdL hdN hml hbl hP5
    obtain ⟨iz, hizb⟩ : ∃ iz, decide (lo = 0) = iz := ⟨_, rfl⟩
    rw [hizb] at hiz
    have HIZ := Lib.hid hizb
    subst hkn
    have key : b = P - 1 ∨ (b ≠ P - 1 ∧ b = 0) ∨ (b ≠ P - 1 ∧ b ≠ 0) := by omega
    have KEY := Lib.hid key
    clear hP2 key hizb
    go_enter Tryd.func30, Tryd.ntmps30
    go_wp2
    go_quiet (fail)
    have hF := HF.out
    have hA := HA.out
    have hX := HX.out
    clear HF HA HX
    generalize ((w.alloc (.cells #[.int .i64 (n : Int), .int .i64 p] 28)).alloc (.cells #[.int .i64 0, .bool false, .int .i64 0, .slice none 0 0] 43)) = W at *
    replace hF := hF.ext ((Ext.refl W).drewN nq)
    replace hX := hX.ext ((Ext.refl W).drewN nq)
    replace hA := hA.drewN nq
    generalize W.drewN nq = W1 at *
    go_wp2_with fail
    refine (hlen _ (h.ext hA)).mono ?_
    rintro z w1 ⟨rfl, rfl⟩
    go_wp2_with fail
    refine (hbit _ (h.ext hA)).mono ?_
    rintro z w1 ⟨rfl, rfl⟩
    go_wp2_with fail
    refine (hlow1 _ (h.ext hA)).mono ?_
    rintro z w2 ⟨v, rfl, ho2, hb2⟩
    obtain ⟨A1, c1, rfl, hr1⟩ := ho2.rd
    go_wp2_with fail
    refine (hlow2 _ (h.ext (hA.tr hb2))).mono ?_
    rintro z w3 ⟨v, rfl, ho3, hb3⟩
    obtain ⟨A2, c2, rfl, hr2⟩ := ho3.rd
    go_wp2_with fail
    refine (hrt A2 c2 _ hr2).mono ?_
    rintro z w6 ⟨v, rfl, ho4, hb4⟩
    obtain ⟨A3, c3, rfl, hr3⟩ := ho4.rd
    go_wp2_with fail
    refine (hlw A3 c3 _ hr3).mono ?_
    rintro z w1 ⟨rfl, rfl⟩
    have hr6 := (hr1.ext hb3).ext hb4
    have hF6 := ((hF.ext hb2).ext hb3).ext hb4
    have hX6 := ((hX.ext hb2).ext hb3).ext hb4
    have hE6 := ((hA.tr hb2).tr hb3).tr hb4
    clear hlen hbit hlow1 hlow2 hrt hlw hA hF hX ho2 ho3 ho4 hb2 hb3 hb4 hr1 hr2 hr3
    obtain ⟨x0, x1, x2, x3, xf⟩ := hX6.facts
    obtain ⟨f0, f1⟩ := hF6.facts
    have hlx := hX6.lt
    rcases KEY.out with hb | ⟨hb, hb0⟩ | ⟨hb, hb0⟩
    · have hbeq : ((b : Int) == (P : Int) - 1) = true := by rw [beq_iff_eq]; omega
      have HB := Lib.hid hb
      clear hb KEY
      cases iz
      · go_wp2_with (go_at_call 54; refine (hiz A1 c1 _ hr6).mono ?_; rintro z w7 ⟨rfl, rfl⟩)
        obtain ⟨q0, q1, q2, q3, -⟩ := (hX6.put (.int .i64 3) (.bool false) (.int .i64 0) (.slice none 0 0)).facts
        refine bodyPost_ret (v := .tuple #[flV 3 false 0 (.slice none 0 0), .bool true]) (by simp [results, Tryd.results30, go_sem, q0, q1, q2, q3]) rfl ?_
        have e := HDF.out
        rw [if_pos HB.out, if_neg (by simpa using HIZ.out)] at e
        rw [e]
        exact DecR.plain (hE6.put (by omega) _ _ _ _)
      · go_wp2_with (go_at_call 54; refine (hiz A1 c1 _ hr6).mono ?_; rintro z w7 ⟨rfl, rfl⟩)
        obtain ⟨q0, q1, q2, q3, -⟩ := (hX6.put (.int .i64 2) (.bool neg) (.int .i64 0) (.slice none 0 0)).facts
        refine bodyPost_ret (v := .tuple #[flV 2 neg 0 (.slice none 0 0), .bool true]) (by simp [results, Tryd.results30, go_sem, q0, q1, q2, q3]) rfl ?_
        have e := HDF.out
        rw [if_pos HB.out, if_pos (by simpa using HIZ.out)] at e
        rw [e]
        exact DecR.plain (hE6.put (by omega) _ _ _ _)
    · have hbeq : ((b : Int) == (P : Int) - 1) = false := by rw [beq_eq_false_iff_ne]; omega
      have hbz : ((b : Int) == 0) = true := by rw [beq_iff_eq]; omega
      have HB := Lib.hid hb
      have HB0 := Lib.hid hb0
      clear hb KEY hb0
      cases iz
      · have hlo : lo ≠ 0 := by simpa using HIZ.out
        obtain ⟨h1, h2, -, -, h5, -⟩ := HCAN.out HB.out (fun hh => hlo hh.2)
        rw [HM0.out HB0.out, HE0.out HB0.out] at h5
        have htn := fun w => rtiny_c (n : Int) p w hR0
        have hcn := fun w hr => rcanonical_c 1 (ti (n : Int) p) neg A1 c1 (cn lo) w hr (by omega) F (by rw [val_cn]; exact h5)
        generalize ti (n : Int) p = T at *
        clear h1 h2 h5 hlo HIZ HCAN HM0 HM1 HE0 HE1 HML HDF
        go_wp2_with fail
        refine (hiz A1 c1 _ hr6).mono ?_
        rintro z w7 ⟨rfl, rfl⟩
        go_wp2_with fail
        refine (htn _).mono ?_
        rintro z w7 ⟨rfl, hb7⟩
        go_wp2_with fail
        refine (hcn _ (hr6.ext hb7)).mono ?_
        rintro z w8 ⟨u, rfl, ⟨v, rfl, ho8⟩, hb8⟩
        obtain ⟨A8, c8, rfl, -⟩ := ho8.rd
        have hX8 := (hX6.ext hb7).ext hb8
        clear x0 x1 x2 x3 xf f0 f1
        obtain ⟨x0, x1, x2, x3, xf⟩ := hX8.facts
        have hlx8 := hX8.lt
        go_wp2
        obtain ⟨q0, q1, q2, q3, -⟩ := (hX8.put (.int .i64 F.kind) (.bool F.neg) (.int .i64 F.exp) (.slice A8 (cn F.mag).length c8)).facts
        refine bodyPost_ret (v := .tuple #[flV F.kind F.neg F.exp (.slice A8 (cn F.mag).length c8), .bool true]) (by simp [results, Tryd.results30, go_sem, q0, q1, q2, q3]) rfl ?_
        have hE7 := hE6.tr hb7
        have hlt7 := (hX6.ext hb7).lt
        exact ⟨_, rfl, ⟨_, rfl, (ho8.putBelow (g := w.heap.size + 1) hlt7 _ _ _ _).low hE7.size⟩, (hE7.tr hb8).put (by omega) _ _ _ _⟩
      · go_wp2_with (go_at_call 54; refine (hiz A1 c1 _ hr6).mono ?_; rintro z w7 ⟨rfl, rfl⟩)
        obtain ⟨q0, q1, q2, q3, -⟩ := (hX6.put (.int .i64 0) (.bool neg) (.int .i64 0) (.slice none 0 0)).facts
        refine bodyPost_ret (v := .tuple #[flV 0 neg 0 (.slice none 0 0), .bool true]) (by simp [results, Tryd.results30, go_sem, q0, q1, q2, q3]) rfl ?_
        have e := HDF.out
        rw [if_neg HB.out, if_pos ⟨HB0.out, by simpa using HIZ.out⟩] at e
        rw [e]
        exact DecR.plain (hE6.put (by omega) _ _ _ _)
    · have hbeq : ((b : Int) == (P : Int) - 1) = false := by rw [beq_eq_false_iff_ne]; omega
      have hbz : ((b : Int) == 0) = false := by rw [beq_eq_false_iff_ne]; omega
      obtain ⟨h1, h2, -, h4, h5, -⟩ := HCAN.out hb (fun hh => hb0 hh.1)
      have hml5 : (cn dm).length ≤ 5 := cn_len_pow ((bl_le _ _).1 (Nat.le_refl _)) (by omega)
      have hgt := fun w => rgreat_c (n : Int) p w hR0.1 hR0.2.1
      have hlf := fun A2 c2 w h => rleft_i A2 c2 (cn 1) (p - 1) w h (by omega) (by omega) (by have := one_len; omega)
      rw [val_cn, Nat.one_mul] at hlf
      have hdm := HM1.out hb0
      have hpl : (cn (2 ^ (p - 1).toNat)).length ≤ 5 := Nat.le_trans (cn_len_mono (by rw [hdm]; exact Nat.le_add_left _ _)) hml5
      have hcn := fun A9 c9 w hr => rcanonical_c 1 de neg A9 c9 (cn dm) w hr (by omega) F (by rw [val_cn]; exact h5)
      have hde := HE1.out hb0
      have w1 : IntKind.i64.wrap ((b : Int) - gr (n : Int)) = (b : Int) - gr (n : Int) := by have := gr_bd hR0.1 hR0.2.1; rw [IntKind.wrap_i64]; omega
      have w2 : IntKind.i64.wrap ((b : Int) - gr (n : Int) - p) = (b : Int) - gr (n : Int) - p := by have := gr_bd hR0.1 hR0.2.1; rw [IntKind.wrap_i64]; omega
      have w3 : IntKind.i64.wrap ((b : Int) - gr (n : Int) - p + 1) = de := by have := gr_bd hR0.1 hR0.2.1; rw [IntKind.wrap_i64]; omega
      have w4 : (b : Int) - gr (n : Int) - p + 1 = de := hde.symm
      have w5 : wrap64 de = de := by unfold wrap64; omega
      generalize gr (n : Int) = G at *
      generalize 2 ^ (p - 1).toNat = S at *
      have hone := rone_c
      generalize cn 1 = ones at *
      have HDM := Lib.hid hdm
      clear hdm hde h1 h2 h4 h5 HIZ HCAN HM0 HM1 HE0 HE1 HML HDF hb hb0 KEY hiz
      go_wp2_with fail
      refine (hgt _).mono ?_
      rintro z w7 ⟨rfl, hb7⟩
      go_wp2_with fail
      refine (hone _).mono ?_
      rintro z w8 ⟨v, rfl, ho8, hb8⟩
      obtain ⟨A8, c8, rfl, hr8⟩ := ho8.rd
      go_wp2_with fail
      refine (hlf A8 c8 _ hr8).mono ?_
      rintro z w9 ⟨v, rfl, ho9, hb9⟩
      obtain ⟨A9, c9, rfl, hr9⟩ := ho9.rd
      go_wp2_with fail
      refine (radd_c A1 A9 c1 c9 (cn lo) (cn S) _ (((hr6.ext hb7).ext hb8).ext hb9) hr9 (by omega) (by omega)).mono ?_
      rintro z w10 ⟨v, rfl, ho10, hb10⟩
      rw [val_cn, val_cn, ← HDM.out] at ho10
      obtain ⟨A10, c10, rfl, hr10⟩ := ho10.rd
      have hX10 := (((hX6.ext hb7).ext hb8).ext hb9).ext hb10
      have hE10 := (((hE6.tr hb7).tr hb8).tr hb9).tr hb10
      go_wp2_with fail
      refine (hcn A10 c10 _ hr10).mono ?_
      rintro z w11 ⟨u, rfl, ⟨v, rfl, ho11⟩, hb11⟩
      obtain ⟨A11, c11, rfl, -⟩ := ho11.rd
      have hX11 := hX10.ext hb11
      clear x0 x1 x2 x3 xf f0 f1
      obtain ⟨x0, x1, x2, x3, xf⟩ := hX11.facts
      have hlx11 := hX11.lt
      go_wp2
      obtain ⟨q0, q1, q2, q3, -⟩ := (hX11.put (.int .i64 F.kind) (.bool F.neg) (.int .i64 F.exp) (.slice A11 (cn F.mag).length c11)).facts
      refine bodyPost_ret (v := .tuple #[flV F.kind F.neg F.exp (.slice A11 (cn F.mag).length c11), .bool true]) (by simp [results, Tryd.results30, go_sem, q0, q1, q2, q3]) rfl ?_
      exact ⟨_, rfl, ⟨_, rfl, (ho11.putBelow (g := w.heap.size + 1) hX10.lt _ _ _ _).low hE10.size⟩, (hE10.tr hb11).put (by omega) _ _ _ _⟩
  · rw [if_neg hbl, show decide ((bl (val xs) : Int) ≤ k + p) = false by simpa using hbl]
    have hd : decide (k + p < (bl (val xs) : Int)) = true := by simp; omega
    generalize bl (val xs) = l at *
    clear hbl hP1 hP2 hP3 hP4 hkn hR0
    go_enter Tryd.func30, Tryd.ntmps30
    go_wp2
    go_quiet (fail)
    have hF := HF.out
    have hA := HA.out
    have hX := HX.out
    clear HF HA HX
    generalize ((w.alloc (.cells #[.int .i64 k, .int .i64 p] 28)).alloc (.cells #[.int .i64 0, .bool false, .int .i64 0, .slice none 0 0] 43)) = W at *
    go_wp2_with fail
    refine (hlen _ ((h.ext hA).drewN nq)).mono ?_
    rintro z w1 ⟨rfl, rfl⟩
    replace hX := hX.ext ((Ext.refl W).drewN nq)
    obtain ⟨x0, x1, x2, x3, xf⟩ := hX.facts
    have hlx := hX.lt
    go_wp2
    obtain ⟨q0, q1, q2, q3, -⟩ := (hX.put (.int .i64 0) (.bool false) (.int .i64 0) (.slice none 0 0)).facts
    refine bodyPost_ret (v := .tuple #[flV 0 false 0 (.slice none 0 0), .bool false]) (by simp [results, Tryd.results30, go_sem, q0, q1, q2, q3]) rfl ?_
    exact DecR.plain ((hA.drewN nq).put (by omega) _ _ _ _)
end Go.Proofs.YtplnaajoeoiieaaDoor
