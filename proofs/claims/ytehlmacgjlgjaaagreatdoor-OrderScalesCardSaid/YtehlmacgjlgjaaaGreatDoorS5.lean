/- the references' Low. the reference's Exponent, Class, bits. -/
import Derived.Test.YtehlmacgjlgjaaaGreatDoorR7
import Derived.Test.YtehlmacgjlgjaaaGreatDoorS4
import Derived.Test.YtehlmacgjlgjaaaGreatDoorTB
set_option linter.unusedVariables false
set_option linter.unusedSimpArgs false
namespace Go.Proofs.YtehlmacgjlgjaaaGreatDoor
open Go.RowKit

theorem low_step {V i x q : Nat} (hV : V < B ^ i) : (V + B ^ i * x) % (B ^ i * q) = V + B ^ i * (x % q) := by
  rw [Nat.mod_mul, Nat.add_mul_mod_self_left, Nat.mod_eq_of_lt hV, Nat.add_mul_div_left _ _ (Nat.pow_pos B_pos), Nat.div_eq_of_lt hV, Nat.zero_add]
set_option maxHeartbeats 1000000 in
set_option maxRecDepth 100000 in
theorem rlow_c (A : Option Addr) (c : Nat) (xs : List Nat) (s : Nat) (w : World) (h : Rd w A c xs) (hs : s ≤ 1000000000) (hl : xs.length ≤ 10000000) :
    Calls Tryz.prog 110 #[.slice A xs.length c, .int .i64 s] w (Res w (cn (val xs % 2 ^ s))) := by
  have hw := h.w64
  go_enter Tryz.func110, Tryz.ntmps110
  go_wp2
  go_loopw [5, 6] (fun v5 v6 wr => ∃ (i : Nat) (o : List Nat), i ≤ xs.length ∧ v6 = .int .i64 i ∧ Own wr w.heap.size v5 o ∧ o.length = i ∧ val o = val (xs.take i) % 2 ^ s ∧ Ext w wr) (fun _ v _ => xs.length - (intOf v).toNat)
  case atStart => exact ⟨0, [], Nat.zero_le _, rfl, Own.nil _ _, rfl, by simp [val, valb], Ext.refl _⟩
  case round =>
    obtain ⟨i, o, hi, rfl, hown, hol, hov, hE⟩ := hrel
    obtain ⟨m, hm⟩ : ∃ m, m = 64 * i := ⟨_, rfl⟩
    have im : 64 * (i : Int) = (m : Int) := by omega
    by_cases hlt : i < xs.length ∧ m < s
    · obtain ⟨hlt, hms⟩ := hlt
      obtain ⟨ad, rfl, hc⟩ := h.cell i hlt
      have hc1 := hE.cell hc
      have hx := hw.get i
      obtain ⟨d, hd⟩ : ∃ d, d = s - m := ⟨_, rfl⟩
      have id : (s : Int) - (m : Int) = (d : Int) := by omega
      have hVlt : val (xs.take i) < B ^ i := by
        have := val_lt (hw.take i)
        rwa [List.length_take, Nat.min_eq_left (by omega)] at this
      have hps : 2 ^ s = B ^ i * 2 ^ d := by rw [B_two, ← Nat.pow_mul, ← Nat.pow_add]; congr 1; omega
      have hob : val o = val (xs.take i) := by
        rw [hov, hps, Nat.mod_eq_of_lt]
        exact Nat.lt_of_lt_of_le hVlt (Nat.le_mul_of_pos_right _ (Nat.pow_pos (by omega)))
      have htk : val (xs.take (i + 1)) = val (xs.take i) + B ^ i * xs.getD i 0 := valb_take_past B xs i
      obtain ⟨x, hxx⟩ : ∃ x, xs.getD i 0 = x := ⟨_, rfl⟩
      rw [hxx] at hc hc1 hx htk
      have hfin : ∀ u, u = x % 2 ^ d → val (o ++ [u]) = val (xs.take (i + 1)) % 2 ^ s := fun u hu => by
        rw [htk, hps, low_step hVlt, ← hu, val, valb_snoc, hol]
        show val o + _ = _
        rw [hob]
      have HF := Lib.hid hfin
      have HOL := Lib.hid hol
      have hob2 : o.length ≤ 10000000 := by omega
      have HE := Lib.hid hE
      have hg0 : (i : Int) < (xs.length : Int) := by omega
      by_cases hd64 : d < 64
      · obtain ⟨p, hp⟩ : ∃ p, p = 2 ^ d := ⟨_, rfl⟩
        have hpB : p < B := by rw [hp, B_two]; exact Nat.pow_lt_pow_right (by omega) hd64
        have hp0 : 0 < p := by rw [hp]; exact Nat.pow_pos (by omega)
        obtain ⟨u, hu⟩ : ∃ u, u = x % p := ⟨_, rfl⟩
        have huB : u < B := by rw [hu]; exact Nat.lt_of_le_of_lt (Nat.mod_le _ _) hx
        have j1 : IntKind.u64.wrap (2 ^ d) = (p : Int) := by rw [IntKind.wrap_u64]; rw [B_eq] at hpB; rw [show ((2 : Int) ^ d) = ((2 ^ d : Nat) : Int) by rw [Int.natCast_pow]; rfl, ← hp]; omega
        have j2 : IntKind.u64.wrap (1 * 2 ^ d) = (p : Int) := by rw [Int.one_mul]; exact j1
        have j3 : (x : Int) % (p : Int) = (u : Int) := by rw [hu, Int.natCast_emod]
        have j4 : (x : Int).tmod (p : Int) = (u : Int) := by rw [Int.tmod_eq_emod_of_nonneg (by omega)]; exact j3
        have hpz : ((p : Int) == 0) = false := by rw [beq_eq_false_iff_ne]; omega
        have HU := Lib.hid (show u = x % 2 ^ d by rw [hu, hp])
        clear hfin hps hob htk hxx hov hol hVlt hu hp hm hd
        go_wp2_with (at_builtin; refine wp_append rfl _ _ _ rfl Tryz.underlying26 w.heap.size _ o rfl (hown.ext ((Ext.refl _).al _)) (some ⟨wr.heap.size, 0, none⟩) 1 1 [u] rfl rfl (Rd.new1 wr u huB) ?hb ?hl ?_; (case hb => simp; have := hE.size; omega); (case hl => simp; omega); intro v' w1 ho hb1 hat hg)
        go_roundw
        case rel => exact ⟨i + 1, _, hlt, by go_num, ho, by simp [HOL.out], HF.out _ HU.out, Below.trans (HE.out.al _) hb1⟩
        case measure => simp [intOf]; omega
      · have hxm : x = x % 2 ^ d := by
          refine (Nat.mod_eq_of_lt (Nat.lt_of_lt_of_le hx ?_)).symm
          rw [B_two]; exact Nat.pow_le_pow_right (by omega) (by omega)
        have HU := Lib.hid hxm
        clear hfin hps hob htk hxx hov hol hVlt hm hd hxm
        go_wp2_with (at_builtin; refine wp_append rfl _ _ _ rfl Tryz.underlying26 w.heap.size _ o rfl (hown.ext ((Ext.refl _).al _)) (some ⟨wr.heap.size, 0, none⟩) 1 1 [x] rfl rfl (Rd.new1 wr x hx) ?hb ?hl ?_; (case hb => simp; have := hE.size; omega); (case hl => simp; omega); intro v' w1 ho hb1 hat hg)
        go_roundw
        case rel => exact ⟨i + 1, _, hlt, by go_num, ho, by simp [HOL.out], HF.out _ HU.out, Below.trans (HE.out.al _) hb1⟩
        case measure => simp [intOf]; omega
    · have hfin : val o = val xs % 2 ^ s := by
        rw [hov]
        by_cases hil : i < xs.length
        · have hms : s ≤ m := by omega
          have e : val (xs.take i) = val xs % B ^ i := valb_take_mod B B_pos xs hw i
          rw [e]
          refine Nat.mod_mod_of_dvd _ ?_
          rw [B_two, ← Nat.pow_mul]
          exact Nat.pow_dvd_pow 2 (by omega)
        · rw [List.take_of_length_le (by omega)]
      obtain ⟨A5, c5, rfl, hr5⟩ := hown.rd
      have hob : o.length ≤ 10000000 := by omega
      have HF := Lib.hid hfin
      clear hfin hov hm hol
      by_cases hil : i < xs.length
      · have hms : s ≤ m := by omega
        clear hlt
        go_wp2_with (go_at_call 76; refine (rtrim_c A5 c5 o _ hr5 ?hx).mono ?_; (case hx => omega); rintro e w1 ⟨v, rfl, ho, hb⟩)
        rw [HF.out] at ho
        go_ret
        exact ⟨_, rfl, ho.low hE.size, hE.tr hb⟩
      · clear hlt
        go_wp2_with (go_at_call 76; refine (rtrim_c A5 c5 o _ hr5 ?hx).mono ?_; (case hx => omega); rintro e w1 ⟨v, rfl, ho, hb⟩)
        rw [HF.out] at ho
        go_ret
        exact ⟨_, rfl, ho.low hE.size, hE.tr hb⟩
end Go.Proofs.YtehlmacgjlgjaaaGreatDoor
namespace Go.Proofs.YtehlmacgjlgjaaaGreatDoor
open Go.RowKit
attribute [local go_sem ↓] Go.wp_at_zero Go.wp_at_succ

theorem rlow_i (A : Option Addr) (c : Nat) (xs : List Nat) (S : Int) (w : World) (h : Rd w A c xs) (h0 : 0 ≤ S) (hs : S ≤ 1000000000) (hl : xs.length ≤ 10000000) :
    Calls Tryz.prog 110 #[.slice A xs.length c, .int .i64 S] w (Res w (cn (val xs % 2 ^ S.toNat))) := by
  obtain ⟨s, rfl⟩ := Int.eq_ofNat_of_zero_le h0
  exact rlow_c A c xs s w h (by omega) hl

set_option maxHeartbeats 1000000 in
set_option maxRecDepth 100000 in
theorem rexp_c (k e : Int) (neg : Bool) (A : Option Addr) (c : Nat) (xs : List Nat) (w : World) (h : Rd w A c xs) (hl : xs.length ≤ 4096) (he1 : -1048576 ≤ e) (he2 : e ≤ 1048576) :
    Calls Tryz.prog 11 #[flV k neg e (.slice A xs.length c)] w fun z w' => z = .returned (.int .i64 ((bl (val xs) : Int) - 1 + e)) ∧ Ext w w' := by
  have hX := Br.new w (.int .i64 k) (.bool neg) (.int .i64 e) (.slice A xs.length c)
  have hA := (Ext.refl w).al (.cells #[.int .i64 k, .bool neg, .int .i64 e, .slice A xs.length c] 41)
  have hlen := fun w h => rlen_c A c xs w h (by omega)
  have hbl := bl_val_le h.w64
  have hbl2 : bl (val xs) ≤ 262144 := by omega
  generalize bl (val xs) = l at *
  have w1 : IntKind.i64.wrap ((l : Int) - 1) = (l : Int) - 1 := by rw [IntKind.wrap_i64]; omega
  have w2 : IntKind.i64.wrap ((l : Int) - 1 + e) = (l : Int) - 1 + e := by rw [IntKind.wrap_i64]; omega
  have HX := Lib.hid hX
  have HA := Lib.hid hA
  clear hX hA hbl
  go_enter Tryz.func11, Tryz.ntmps11
  go_wp2_with fail
  have hX := HX.out
  have hA := HA.out
  clear HX HA
  generalize w.alloc (.cells #[.int .i64 k, .bool neg, .int .i64 e, .slice A xs.length c] 41) = W at *
  obtain ⟨x0, x1, x2, x3, -⟩ := hX.facts
  have q2 := Later.cell x2
  have q3 := Later.cell x3
  refine wp_region_later (by kernel_rfl) (by kernel_rfl) ?_
  repeat (go_big_quiet_step (first
    | (go_at_call 30; refine Calls.later_same (hlen _ (h.ext (hA.tr (Later.h _)))))))
  refine wpQuiet_nil ?_
  intro _ hw'
  obtain ⟨⟨wq, hq⟩, rfl⟩ := hw'
  go_wp2
  go_ret
  exact ⟨rfl, hA.tr hq⟩
/-- The class of a canonical float in a right format. -/
def clsF (k : Int) (f : Fl) : Int := if f.kind = 0 then 0 else if f.kind = 2 then 3 else if f.kind = 3 then 4 else if f.exp + bl f.mag - 1 < le k then 1 else 2
theorem canon_bl {neg : Bool} {e : Int} {m : Nat} {f : Fl} (h : canon 1 neg e m = some f) : (bl m : Int) + e = bl f.mag + f.exp := by
  obtain ⟨rfl, h0, -, -⟩ := canon_fin h
  simp only
  have h1 := (tz_div m h0).1
  have h2 : 0 < m / 2 ^ tz m := by
    rcases Nat.eq_zero_or_pos (m / 2 ^ tz m) with hz | hz
    · rw [hz, Nat.zero_mul] at h1; omega
    · exact hz
  have h3 := bl_mul_pow (m / 2 ^ tz m) (tz m) h2
  rw [h1] at h3
  omega
end Go.Proofs.YtehlmacgjlgjaaaGreatDoor
