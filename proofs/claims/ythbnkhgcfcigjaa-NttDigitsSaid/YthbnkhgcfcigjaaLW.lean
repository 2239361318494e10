/- NttDigits: the walk. -/
import Derived.Test.YthbnkhgcfcigjaaLV
import Derived.Test.YthbnkhgcfcigjaaJX
import Derived.Test.YthbnkhgcfcigjaaJS
set_option linter.unusedVariables false
set_option linter.unusedSimpArgs false
namespace Go.Proofs.Ythbnkhgcfcigjaa
open Go.RowKit

theorem dig_ok {b : Int} {s P : Nat} (hb : b = (s : Int)) (hP : 2 ^ s = P) (hd : isD b = true) (A : Option Addr) (c : Nat) (xs : List Nat) (w : World) (h : Rd w A c xs) (hl : xs.length ≤ 40) :
    Calls Try.prog 38 #[.slice A xs.length c, .int .i64 b] w (LR w (digs P (val xs)) 0) := by
  have q := Digits_c A c xs b w h
  have hl2 : xs.length ≤ 4096 := by omega
  unfold dgX dgE at q
  rw [if_pos hl2, if_pos hl2, if_pos hd, if_pos hd, hb, Int.toNat_natCast, hP, ← hb] at q
  exact q
theorem jn_len {P : Nat} (hP : P ≤ 4294967296) {l : List Nat} (hw : W64 l) : (cn (valb P l)).length ≤ l.length := by
  have := cn_drop_len (P := P) (Nat.le_trans hP (by rw [B_eq]; omega)) hw 0
  rwa [List.drop_zero] at this
theorem jn_ok {b : Int} {s P : Nat} (hb : b = (s : Int)) (hP : 2 ^ s = P) (hd : isD b = true) (hP32 : P ≤ 4294967296) (A : Option Addr) (c : Nat) (l : List Nat) (w : World) (h : Rd w A c l) (hl : l.length ≤ 40) :
    Calls Try.prog 43 #[.slice A l.length c, .int .i64 b] w (LR w (cn (valb P l)) 0) := by
  have q := Join_c A c l b w h
  have hc := jn_len hP32 h.w64
  have hl2 : isD b = true ∧ l.length ≤ 262144 := ⟨hd, by omega⟩
  have hc2 : (cn (valb P l)).length ≤ 4096 := by omega
  unfold jnX jnE at q
  rw [if_pos hl2, if_pos hl2, hb, Int.toNat_natCast, hP, ← hb] at q
  unfold ftX ftE at q
  rw [if_pos hc2, if_pos hc2] at q
  exact q
theorem dig_no {b : Int} (hd : isD b = false) (A : Option Addr) (c : Nat) (xs : List Nat) (w : World) (h : Rd w A c xs) (hl : xs.length ≤ 40) :
    Calls Try.prog 38 #[.slice A xs.length c, .int .i64 b] w (LR w [] 1) := by
  have q := Digits_c A c xs b w h
  have hl2 : xs.length ≤ 4096 := by omega
  unfold dgX dgE at q
  rw [if_pos hl2, if_pos hl2, hd, if_neg Bool.false_ne_true, if_neg Bool.false_ne_true] at q
  exact q
theorem jn_no {b : Int} (A : Option Addr) (c : Nat) (l : List Nat) (w : World) (h : Rd w A c l) (hd : isD b = false ∨ 262144 < l.length) :
    Calls Try.prog 43 #[.slice A l.length c, .int .i64 b] w (LR w [] 1) := by
  have q := Join_c A c l b w h
  have hn : ¬ (isD b = true ∧ l.length ≤ 262144) := by
    rintro ⟨h1, h2⟩
    rcases hd with h3 | h3
    · rw [h1] at h3
      exact absurd h3 (by decide)
    · omega
  unfold jnX jnE at q
  rw [if_neg hn, if_neg hn] at q
  exact q
theorem isD_no {b : Int} (h8 : ¬ b = 8) (h16 : ¬ b = 16) (h32 : ¬ b = 32) : isD b = false := by
  unfold isD
  rw [decide_eq_false h8, decide_eq_false h16, decide_eq_false h32]
  rfl
theorem rem3 (b : Int) : (IntKind.u64.wrap b).tmod 3 = 0 ∨ (IntKind.u64.wrap b).tmod 3 = 1 ∨ (IntKind.u64.wrap b).tmod 3 = 2 := by
  have h : 0 ≤ IntKind.u64.wrap b := wrap_u64_nonneg b
  rw [Int.tmod_eq_emod_of_nonneg h]
  omega
set_option maxHeartbeats 8000000 in
set_option maxRecDepth 100000 in
theorem nttDigits_c (A : Option Addr) (c : Nat) (xs : List Nat) (A' : Option Addr) (c' : Nat) (ys : List Nat) (b0 : Int) (w : World) (h : Rd w A c xs) (h' : Rd w A' c' ys) :
    Calls Try.prog 10 #[.slice A xs.length c, .slice A' ys.length c', .int .i64 b0] w fun e w' => e = .returned (.bool true) ∧ Ext w w' := by
  have hf1 := few_c A c xs 20 w h (by omega)
  have hf2 := fun w h => few_c A' c' ys 40 w h (by omega)
  have hla : (xs.take 20).length ≤ 40 := by rw [List.length_take]; omega
  have hld : (ys.take 40).length ≤ 40 := by rw [List.length_take]; omega
  generalize xs.take 20 = a at *
  generalize ys.take 40 = d at *
  have hzl : (List.replicate 262145 0 : List Nat).length = 262145 := List.length_replicate
  have hJ2 := fun A c w h => jn_no (b := 8) A c (List.replicate 262145 0) w h (.inr (by rw [hzl]; omega))
  rw [hzl] at hJ2
  have hrz : ∀ (g : Nat) (w : World), Bk w g (List.replicate 262145 0) → Rd w (some ⟨g, 0, none⟩) 262145 (List.replicate 262145 0) := fun g w hb => hb.rd (by rw [hzl]; omega) (by rw [hzl]; exact Nat.le_refl _)
  obtain ⟨Z, hZ⟩ : ∃ Z : List Nat, List.replicate 262145 0 = Z := ⟨_, rfl⟩
  rw [hZ] at hJ2 hrz
  have HZ := Lib.hid hZ
  clear hzl hZ
  go_enter Try.func10, Try.ntmps10
  go_wp2_with fail
  refine hf1.mono ?_
  rintro z w1 ⟨v1, rfl, ho1, hE1⟩
  obtain ⟨A1, c1, rfl, hr1⟩ := ho1.rd
  go_wp2_with fail
  refine (hf2 _ (h'.ext hE1)).mono ?_
  rintro z w2 ⟨v2, rfl, ho2, hE2⟩
  obtain ⟨A2, c2, rfl, hr2⟩ := ho2.rd
  replace hr1 := hr1.ext hE2
  have hE12 := hE1.tr hE2
  clear ho1 ho2 hE1 hE2 hf1 hf2 h h'
  go_wp2_with fail
  go_loopw [2, 9] (fun v2 v9 wr => ∃ (i : Nat) (b : Int), i ≤ 2 ∧ v9 = .int .i64 (i : Int) ∧ v2 = .int .i64 b ∧ Ext w2 wr) (fun _ v _ => 2 - (intOf v).toNat)
  case atStart => exact ⟨0, b0, Nat.zero_le _, rfl, rfl, Ext.refl _⟩
  case round =>
    obtain ⟨i, b, hi, rfl, rfl, hE⟩ := hrel
    replace hr1 := hr1.ext hE
    replace hr2 := hr2.ext hE
    by_cases hlt : i < 2
    · clear hJ2 hrz
      by_cases h8 : b = 8
      · -- 8 bits
        subst h8
        have hD := fun w h => dig_ok (b := 8) (s := 8) (P := 256) rfl rfl rfl A1 c1 a w h hla
        have hJ := fun w h => jn_ok (b := 8) (s := 8) (P := 256) rfl rfl rfl (by omega) A2 c2 d w h hld
        have hRD := fun w h => rdigits04_8 A1 c1 a w h (by omega)
        have hRJ := fun w h => rjoin04_c 8 256 rfl (by omega) A2 c2 d w h (by omega)
        simp only [show ((8 : Nat) : Int) = 8 from rfl] at hRJ
        have hcl : (cn (valb 256 d)).length ≤ 1000000 := Nat.le_trans (jn_len (P := 256) (by omega) (hr2.w64)) (by omega)
        have hI := fun A A' c c' w h h' => is_cn A A' c c' (valb 256 d) w h h' hcl
        have hS := fun A A' c c' w h h' => same04_c A A' c c' (digs 256 (val a)) (digs 256 (val a)) w h h'
        simp only [decide_true] at hS
        generalize cn (valb 256 d) = C at *
        generalize digs 256 (val a) = R at *
        clear hcl
        go_wp2_with fail
        refine (hD _ hr1).mono ?_
        rintro z w3 ⟨v3, rfl, ho3, hE3⟩
        obtain ⟨A3, c3, rfl, hr3⟩ := ho3.rd
        replace hr1 := hr1.ext hE3
        replace hr2 := hr2.ext hE3
        clear hD ho3
        go_wp2_with fail
        refine (hJ _ hr2).mono ?_
        rintro z w4 ⟨v4, rfl, ho4, hE4⟩
        obtain ⟨A4, c4, rfl, hr4⟩ := ho4.rd
        replace hr1 := hr1.ext hE4
        replace hr2 := hr2.ext hE4
        replace hr3 := hr3.ext hE4
        clear hJ ho4
        go_wp2_with fail
        refine (hRD _ hr1).mono ?_
        rintro z w5 ⟨v5, rfl, ho5, hE5⟩
        obtain ⟨A5, c5, rfl, hr5⟩ := ho5.rd
        replace hr2 := hr2.ext hE5
        replace hr3 := hr3.ext hE5
        replace hr4 := hr4.ext hE5
        clear hRD ho5 hr1
        go_wp2_with fail
        refine (hS _ _ _ _ _ hr3 hr5).mono ?_
        rintro z w6 ⟨rfl, n6, rfl⟩
        replace hr2 := hr2.drewN n6
        replace hr4 := hr4.drewN n6
        have hE6 := hE5.drewN n6
        clear hS hr3 hr5
        go_wp2_with fail
        refine (hRJ _ hr2).mono ?_
        rintro z w7 ⟨v7, rfl, ho7, hE7⟩
        obtain ⟨A7, c7, rfl, hr7⟩ := ho7.rd
        replace hr4 := hr4.ext hE7
        clear hRJ ho7 hr2
        go_wp2_with fail
        refine (hI _ _ _ _ _ hr4 hr7).mono ?_
        rintro z w8 ⟨rfl, hE8⟩
        clear hI hr4 hr7
        have hE9 := ((((hE.tr hE3).tr hE4).tr hE6).tr hE7).tr hE8
        go_wp2_with fail
        go_roundw
        case rel => exact ⟨i + 1, _, hlt, by go_num, rfl, hE9⟩
        case measure => simp [intOf]; omega
      by_cases h16 : b = 16
      · -- 16 bits
        subst h16
        have hD := fun w h => dig_ok (b := 16) (s := 16) (P := 65536) rfl rfl rfl A1 c1 a w h hla
        have hJ := fun w h => jn_ok (b := 16) (s := 16) (P := 65536) rfl rfl rfl (by omega) A2 c2 d w h hld
        have hRD := fun w h => rdigits04_16 A1 c1 a w h (by omega)
        have hRJ := fun w h => rjoin04_c 16 65536 rfl (by omega) A2 c2 d w h (by omega)
        simp only [show ((16 : Nat) : Int) = 16 from rfl] at hRJ
        have hcl : (cn (valb 65536 d)).length ≤ 1000000 := Nat.le_trans (jn_len (P := 65536) (by omega) (hr2.w64)) (by omega)
        have hI := fun A A' c c' w h h' => is_cn A A' c c' (valb 65536 d) w h h' hcl
        have hS := fun A A' c c' w h h' => same04_c A A' c c' (digs 65536 (val a)) (digs 65536 (val a)) w h h'
        simp only [decide_true] at hS
        generalize cn (valb 65536 d) = C at *
        generalize digs 65536 (val a) = R at *
        clear hcl
        go_wp2_with fail
        refine (hD _ hr1).mono ?_
        rintro z w3 ⟨v3, rfl, ho3, hE3⟩
        obtain ⟨A3, c3, rfl, hr3⟩ := ho3.rd
        replace hr1 := hr1.ext hE3
        replace hr2 := hr2.ext hE3
        clear hD ho3
        go_wp2_with fail
        refine (hJ _ hr2).mono ?_
        rintro z w4 ⟨v4, rfl, ho4, hE4⟩
        obtain ⟨A4, c4, rfl, hr4⟩ := ho4.rd
        replace hr1 := hr1.ext hE4
        replace hr2 := hr2.ext hE4
        replace hr3 := hr3.ext hE4
        clear hJ ho4
        go_wp2_with fail
        refine (hRD _ hr1).mono ?_
        rintro z w5 ⟨v5, rfl, ho5, hE5⟩
        obtain ⟨A5, c5, rfl, hr5⟩ := ho5.rd
        replace hr2 := hr2.ext hE5
        replace hr3 := hr3.ext hE5
        replace hr4 := hr4.ext hE5
        clear hRD ho5 hr1
        go_wp2_with fail
        refine (hS _ _ _ _ _ hr3 hr5).mono ?_
        rintro z w6 ⟨rfl, n6, rfl⟩
        replace hr2 := hr2.drewN n6
        replace hr4 := hr4.drewN n6
        have hE6 := hE5.drewN n6
        clear hS hr3 hr5
        go_wp2_with fail
        refine (hRJ _ hr2).mono ?_
        rintro z w7 ⟨v7, rfl, ho7, hE7⟩
        obtain ⟨A7, c7, rfl, hr7⟩ := ho7.rd
        replace hr4 := hr4.ext hE7
        clear hRJ ho7 hr2
        go_wp2_with fail
        refine (hI _ _ _ _ _ hr4 hr7).mono ?_
        rintro z w8 ⟨rfl, hE8⟩
        clear hI hr4 hr7
        have hE9 := ((((hE.tr hE3).tr hE4).tr hE6).tr hE7).tr hE8
        go_wp2_with fail
        go_roundw
        case rel => exact ⟨i + 1, _, hlt, by go_num, rfl, hE9⟩
        case measure => simp [intOf]; omega
      by_cases h32 : b = 32
      · -- 32 bits
        subst h32
        have hD := fun w h => dig_ok (b := 32) (s := 32) (P := 4294967296) rfl rfl rfl A1 c1 a w h hla
        have hJ := fun w h => jn_ok (b := 32) (s := 32) (P := 4294967296) rfl rfl rfl (by omega) A2 c2 d w h hld
        have hRD := fun w h => rdigits04_32 A1 c1 a w h (by omega)
        have hRJ := fun w h => rjoin04_c 32 4294967296 rfl (by omega) A2 c2 d w h (by omega)
        simp only [show ((32 : Nat) : Int) = 32 from rfl] at hRJ
        have hcl : (cn (valb 4294967296 d)).length ≤ 1000000 := Nat.le_trans (jn_len (P := 4294967296) (by omega) (hr2.w64)) (by omega)
        have hI := fun A A' c c' w h h' => is_cn A A' c c' (valb 4294967296 d) w h h' hcl
        have hS := fun A A' c c' w h h' => same04_c A A' c c' (digs 4294967296 (val a)) (digs 4294967296 (val a)) w h h'
        simp only [decide_true] at hS
        generalize cn (valb 4294967296 d) = C at *
        generalize digs 4294967296 (val a) = R at *
        clear hcl
        go_wp2_with fail
        refine (hD _ hr1).mono ?_
        rintro z w3 ⟨v3, rfl, ho3, hE3⟩
        obtain ⟨A3, c3, rfl, hr3⟩ := ho3.rd
        replace hr1 := hr1.ext hE3
        replace hr2 := hr2.ext hE3
        clear hD ho3
        go_wp2_with fail
        refine (hJ _ hr2).mono ?_
        rintro z w4 ⟨v4, rfl, ho4, hE4⟩
        obtain ⟨A4, c4, rfl, hr4⟩ := ho4.rd
        replace hr1 := hr1.ext hE4
        replace hr2 := hr2.ext hE4
        replace hr3 := hr3.ext hE4
        clear hJ ho4
        go_wp2_with fail
        refine (hRD _ hr1).mono ?_
        rintro z w5 ⟨v5, rfl, ho5, hE5⟩
        obtain ⟨A5, c5, rfl, hr5⟩ := ho5.rd
        replace hr2 := hr2.ext hE5
        replace hr3 := hr3.ext hE5
        replace hr4 := hr4.ext hE5
        clear hRD ho5 hr1
        go_wp2_with fail
        refine (hS _ _ _ _ _ hr3 hr5).mono ?_
        rintro z w6 ⟨rfl, n6, rfl⟩
        replace hr2 := hr2.drewN n6
        replace hr4 := hr4.drewN n6
        have hE6 := hE5.drewN n6
        clear hS hr3 hr5
        go_wp2_with fail
        refine (hRJ _ hr2).mono ?_
        rintro z w7 ⟨v7, rfl, ho7, hE7⟩
        obtain ⟨A7, c7, rfl, hr7⟩ := ho7.rd
        replace hr4 := hr4.ext hE7
        clear hRJ ho7 hr2
        go_wp2_with fail
        refine (hI _ _ _ _ _ hr4 hr7).mono ?_
        rintro z w8 ⟨rfl, hE8⟩
        clear hI hr4 hr7
        have hE9 := ((((hE.tr hE3).tr hE4).tr hE6).tr hE7).tr hE8
        go_wp2_with fail
        go_roundw
        case rel => exact ⟨i + 1, _, hlt, by go_num, rfl, hE9⟩
        case measure => simp [intOf]; omega
      · -- no digit
        have hno := isD_no h8 h16 h32
        have hD := fun w h => dig_no hno A1 c1 a w h hla
        have hJ := fun w h => jn_no A2 c2 d w h (.inl hno)
        have b8 : (b != 8) = true := by rw [bne_iff_ne]; exact h8
        have b16 : (b != 16) = true := by rw [bne_iff_ne]; exact h16
        have b32 : (b != 32) = true := by rw [bne_iff_ne]; exact h32
        have hrm := rem3 b
        clear hno
        go_wp2_with fail
        refine (hD _ hr1).mono ?_
        rintro z w3 ⟨v3, rfl, ho3, hE3⟩
        obtain ⟨A3, c3, rfl, hr3⟩ := ho3.rd
        replace hr2 := hr2.ext hE3
        clear hD ho3 hr1
        go_wp2_with fail
        refine (hJ _ hr2).mono ?_
        rintro z w4 ⟨v4, rfl, ho4, hE4⟩
        obtain ⟨A4, c4, rfl, hr4⟩ := ho4.rd
        clear hJ ho4 hr2
        have hE9 := (hE.tr hE3).tr hE4
        rcases hrm with hr | hr | hr
        · go_wp2_with fail
          go_roundw
          case rel => exact ⟨i + 1, _, hlt, by go_num, rfl, hE9⟩
          case measure => simp [intOf]; omega
        · go_wp2_with fail
          go_roundw
          case rel => exact ⟨i + 1, _, hlt, by go_num, rfl, hE9⟩
          case measure => simp [intOf]; omega
        · go_wp2_with fail
          go_roundw
          case rel => exact ⟨i + 1, _, hlt, by go_num, rfl, hE9⟩
          case measure => simp [intOf]; omega
    · obtain rfl : i = 2 := by omega
      clear hr1 hr2
      go_wp2_with (at_make; refine wp_make rfl _ _ _ rfl Try.underlying30 262145 _ rfl rfl rfl (by omega) ?_; intro g w5 hg5 hb5 hE5)
      rw [HZ.out] at hb5
      have rz := hrz g w5 hb5
      refine (hJ2 _ _ _ rz).mono ?_
      rintro z w6 ⟨v6, rfl, ho6, hE6⟩
      obtain ⟨A6, c6, rfl, hr6⟩ := ho6.rd
      go_wp2_with fail
      refine (awake04_c _).mono ?_
      rintro z w7 ⟨rfl, hE7⟩
      go_wp2_with fail
      go_ret
      exact ⟨rfl, (((hE12.tr hE).tr hE5).tr hE6).tr hE7⟩
end Go.Proofs.Ythbnkhgcfcigjaa
