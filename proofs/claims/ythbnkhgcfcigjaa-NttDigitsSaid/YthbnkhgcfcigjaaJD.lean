/- package ntt: digits. package ntt: the closure put of join. package nat: trim, Trim (with slices.Clone). package ntt: join. -/
import Derived.Test.YthbnkhgcfcigjaaJE
import Derived.Test.YthbnkhgcfcigjaaKF
import Derived.Test.YthbnkhgcfcigjaaB0
import Derived.Lib.SliceRun
import Derived.Laws.EntriesVeiled
set_option linter.unusedVariables false
set_option linter.unusedSimpArgs false
namespace Go.Proofs.Ythbnkhgcfcigjaa
open Go.RowKit

/-- The length that a slice says. -/
def slen (v : Value) : Nat := match v with | .slice _ n _ => n | _ => 0
theorem Own.cut {w : World} {base : Nat} {A : Option Addr} {n c : Nat} {xs : List Nat} (h : Own w base (.slice A n c) xs) (k : Nat) (hk : k ≤ xs.length) : Own w base (.slice A k c) (xs.take k) := by
  obtain ⟨⟨h0, h1⟩, h2⟩ := h
  rcases h1 with ⟨e, hn⟩ | ⟨g, cap, cur, e, hb, hh, h1, h3, h4, h5⟩
  · injection e with e1 e2 e3
    subst e1 e2 e3
    obtain rfl : k = 0 := by omega
    exact ⟨⟨by simp [enc], .inl ⟨rfl, by simp⟩⟩, W64.nil⟩
  · injection e with e1 e2 e3
    subst e1 e2 e3
    have hl : (xs.take k).length = k := by rw [List.length_take]; omega
    refine ⟨⟨by rw [enc_len, Nat.mul_one], .inr ⟨g, c, cur, by rw [hl], hb, hh, by omega, h3, h4, ?_⟩⟩, h2.take k⟩
    rw [hl, Nat.mul_one]
    rw [Nat.mul_one] at h5
    have e6 : enc (xs.take k) = (enc xs).take k := by simp [enc, List.map_take]
    rw [e6, ← h5, List.take_take, Nat.min_eq_left hk]
set_option maxHeartbeats 4000000 in
set_option maxRecDepth 100000 in
theorem digits_c (s K : Nat) (hsK : s * K = 64) (hs1 : 8 ≤ s) (hs2 : s ≤ 32) (A : Option Addr) (c : Nat) (xs : List Nat) (w : World) (h : Rd w A c xs) (hl : xs.length ≤ 100000) :
    Calls Try.prog 71 #[.slice A xs.length c, .int .u64 (s : Int)] w (Res w (digs (2 ^ s) (val xs))) := by
  have hK0 : 0 < K := by
    rcases Nat.eq_zero_or_pos K with e | e
    · rw [e] at hsK; omega
    · exact e
  have hb2 : 2 ≤ 2 ^ s := by
    have : 2 ^ 8 ≤ 2 ^ s := Nat.pow_le_pow_right (by omega) hs1
    omega
  have hb32 : 2 ^ s ≤ 4294967296 := Nat.pow_le_pow_right (n := 2) (by omega) hs2
  have HS := Lib.hid hsK
  have HB2 := Lib.hid hb2
  clear hsK hb2
  go_enter Try.func71, Try.ntmps71
  go_wp2_with fail
  go_loopw [5, 11] (fun v5 v11 wr => ∃ (i : Nat) (out : List Nat), i ≤ xs.length ∧ v11 = .int .i64 (i : Int) ∧ out.length = K * i ∧ (∀ x ∈ out, x < 2 ^ s) ∧ valb (2 ^ s) out = val (xs.take i) ∧ Own wr w.heap.size v5 out ∧ Ext w wr) (fun _ v _ => xs.length - (intOf v).toNat)
  case atStart => exact ⟨0, [], Nat.zero_le _, rfl, by simp, by simp, rfl, Own.nil _ _, Ext.refl _⟩
  case round =>
    obtain ⟨i, out, hi, rfl, hol, hob, hov, ho, hE⟩ := hrel
    by_cases hlt : i < xs.length
    · obtain ⟨ad, rfl, hx⟩ := h.cell i hlt
      replace hx := hE.cell hx
      have hw := h.w64.get i
      have hnx := valb_take B xs i hlt
      generalize xs.getD i 0 = x at *
      have HX := Lib.hid hnx
      have HOL := Lib.hid hol
      have HOB := Lib.hid hob
      have HOV := Lib.hid hov
      clear hnx hol hob hov
      go_wp2_with fail
      go_loopw [5, 8] (fun v5 v8 w1 => ∃ (j : Nat) (out : List Nat), j ≤ K ∧ v8 = .int .u64 ((s * j : Nat) : Int) ∧ out.length = K * i + j ∧ (∀ x ∈ out, x < 2 ^ s) ∧ valb (2 ^ s) out = val (xs.take i) + B ^ i * (x % 2 ^ (s * j)) ∧ Own w1 w.heap.size v5 out ∧ Ext w w1) (fun _ v _ => 64 - (intOf v).toNat)
      case atStart => exact ⟨0, out, Nat.zero_le _, by rw [Nat.mul_zero]; rfl, HOL.out, HOB.out, by rw [HOV.out, Nat.mul_zero, Nat.pow_zero, Nat.mod_one]; rfl, ho, hE⟩
      case round =>
        obtain ⟨j, ou, hj, rfl, hol, hob, hov, ho1, hE1⟩ := hrel
        obtain ⟨e, he⟩ : ∃ e, s * j = e := ⟨_, rfl⟩
        have he64 : e ≤ 64 := by rw [← he, ← HS.out]; exact Nat.mul_le_mul_left s hj
        by_cases hjl : j < K
        · have hes : e + s ≤ 64 := by
            have := Nat.mul_le_mul_left s (show j + 1 ≤ K from hjl)
            rw [HS.out, Nat.mul_succ, he] at this
            exact this
          have hstep := dig_step K i j x (val (xs.take i)) HS.out ou hol hov
          rw [he] at hstep ⊢
          have hms : s * (j + 1) = e + s := by rw [Nat.mul_succ, he]
          obtain ⟨y, hy⟩ : ∃ y, x / 2 ^ e = y := ⟨_, rfl⟩
          have hyx : y < B := by rw [← hy]; exact Nat.lt_of_le_of_lt (Nat.div_le_self _ _) hw
          have hsh : (x : Int) / 2 ^ e = (y : Int) := by rw [← hy, Int.natCast_ediv, Int.natCast_pow]; rfl
          rw [hy] at hstep
          obtain ⟨P, hP⟩ : ∃ P, 2 ^ s = P := ⟨_, rfl⟩
          have hPi : (2 : Int) ^ s = (P : Int) := by rw [← hP, Int.natCast_pow]; rfl
          rw [hP] at hb32 hstep
          have hP2 : 2 ≤ P := by rw [← hP]; exact HB2.out
          have hand : bits BinOp.and IntKind.u64 (y : Int) ((P : Int) - 1) = ((y % P : Nat) : Int) := by
            have e1 : (P : Int) - 1 = ((P - 1 : Nat) : Int) := by omega
            rw [e1, u64_and_nat _ _ (by rw [← B_eq]; exact hyx) (by omega), ← hP, Nat.and_two_pow_sub_one_eq_mod]
          have hdP : y % P < P := Nat.mod_lt _ (by omega)
          generalize y % P = d at *
          have hdB : d < B := by rw [B_eq]; omega
          have hln : ou.length ≤ 64 * 100000 + 64 := by
            rw [hol]
            have h1 : K ≤ 64 := by
              have := Nat.mul_le_mul_right K (show 1 ≤ s by omega)
              rw [HS.out, Nat.one_mul] at this
              exact this
            have h2 := Nat.mul_le_mul h1 (show i ≤ 100000 by omega)
            omega
          have HST := Lib.hid hstep
          have HO1 := Lib.hid ho1
          have HE1 := Lib.hid hE1
          have HOL1 := Lib.hid hol
          have HOB1 := Lib.hid hob
          have HMS := Lib.hid hms
          have HPP := Lib.hid hP
          have HLN := Lib.hid hln
          have hsz := hE1.size
          clear hstep ho1 hol hob hov hms hP hln hy he hE1
          go_wp2_with (first
            | (at_builtin; refine wp_append rfl _ _ _ rfl Try.underlying30 w.heap.size _ ou rfl (HO1.out.ext ((Ext.refl _).al _)) (some ⟨wr.heap.size, 0, none⟩) 1 1 [d] rfl rfl (Rd.nw1 wr d hdB) ?hb ?hl ?_; (case hb => simp; omega); (case hl => have := HLN.out; simp; omega); intro v' w4 ho4 hb4 hat hg4; have hE4 : Ext w w4 := (HE1.out.al _).trans hb4; clear hat hg4 hb4))
          go_roundw
          case rel => exact ⟨j + 1, ou ++ [d], hjl, by rw [HMS.out]; go_num, by rw [List.length_append, HOL1.out]; rfl, fun z hz => by
            rcases List.mem_append.1 hz with hz | hz
            · exact HOB1.out z hz
            · rw [List.mem_singleton.1 hz, HPP.out]; exact hdP, by rw [HPP.out]; exact HST.out, ho4, hE4⟩
          case measure => simp [intOf]; omega
        · obtain rfl : j = K := by omega
          have e64 : e = 64 := by rw [← he]; exact HS.out
          rw [HS.out, ← B_two, Nat.mod_eq_of_lt hw, ← HX.out] at hov
          have HOL1 := Lib.hid hol
          have HOB1 := Lib.hid hob
          have HOV1 := Lib.hid hov
          rw [HS.out]
          clear hol hob hov he e64
          go_wp2_with fail
          go_roundw
          case rel => exact ⟨i + 1, ou, hlt, by go_num, by rw [HOL1.out, Nat.mul_succ], HOB1.out, HOV1.out, ho1, hE1⟩
          case measure => simp [intOf]; omega
    · obtain rfl : i = xs.length := by omega
      rw [List.take_length] at hov
      have hln : out.length ≤ 100000 * 64 := by
        rw [hol]
        have h1 : K ≤ 64 := by
          have := Nat.mul_le_mul_right K (show 1 ≤ s by omega)
          rw [HS.out, Nat.one_mul] at this
          exact this
        have h2 := Nat.mul_le_mul h1 hl
        omega
      clear hol
      go_wp2_with fail
      go_loopw [5] (fun v5 w1 => ∃ out : List Nat, out.length ≤ 100000 * 64 ∧ (∀ x ∈ out, x < 2 ^ s) ∧ valb (2 ^ s) out = val xs ∧ Own w1 w.heap.size v5 out ∧ Ext w w1) (fun v _ => slen v)
      case atStart => exact ⟨out, hln, hob, hov, ho, hE⟩
      case round =>
        obtain ⟨l, hll, hlb, hlv, hlo, hlE⟩ := hrel
        obtain ⟨A1, c1, rfl, hr1⟩ := hlo.rd
        by_cases h0 : 0 < l.length
        · obtain ⟨ad1, rfl, hx1⟩ := hr1.cell (l.length - 1) (by omega)
          have hidx : ((l.length : Int) - 1) = ((l.length - 1 : Nat) : Int) := by omega
          by_cases hz : l.getD (l.length - 1) 0 = 0
          · have hcut := hlo.cut (l.length - 1) (by omega)
            have hlv2 := valb_drop_zero (b := 2 ^ s) h0 hz
            rw [hlv] at hlv2
            rw [hz] at hx1
            have hcp : ((l.length - 1 : Nat) : Int) ≤ (c1 : Int) := by have := hr1.cap; omega
            have HC := Lib.hid hcut
            have HV := Lib.hid hlv2
            have HB := Lib.hid hlb
            clear hcut hlv2 hlb hlv hlo
            go_wp2_with fail
            go_roundw
            case rel => exact ⟨l.take (l.length - 1), by rw [List.length_take]; omega, fun x hx => HB.out x (List.mem_of_mem_take hx), HV.out, HC.out, hlE⟩
            case measure => simp [slen]; omega
          · have hd := digs_done HB2.out hlb (.inr hz)
            rw [hlv] at hd
            have HD := Lib.hid hd
            generalize l.getD (l.length - 1) 0 = v at *
            have hz0 : ((v : Int) == 0) = false := by rw [beq_eq_false_iff_ne]; omega
            have hz1 : ((v : Int) = 0) = False := eq_false (by omega)
            clear hd hlb hlv hz
            go_wp2_with fail
            go_ret
            rw [HD.out]
            exact ⟨_, rfl, hlo, hlE⟩
        · have hn0 : l.length = 0 := by omega
          have hd := digs_done HB2.out hlb (.inl hn0)
          rw [hlv] at hd
          have HD := Lib.hid hd
          have hn1 : decide (0 < (l.length : Int)) = false := decide_eq_false (by omega)
          clear hd hlb hlv
          go_wp2_with fail
          go_ret
          rw [HD.out]
          exact ⟨_, rfl, hlo, hlE⟩
end Go.Proofs.Ythbnkhgcfcigjaa
namespace Go.Proofs.Ythbnkhgcfcigjaa
open Go.RowKit

/-- A box of one cell. -/
structure Bo (w : World) (g : Nat) (v : Value) (t : TypeId) : Prop where
  h : w.heap[g]? = some (.cells #[v] t (0, 0))
section
variable {w w' : World} {g : Nat} {v : Value} {t : TypeId}
theorem Bo.new (w : World) (v : Value) (t : TypeId) : Bo (w.alloc (.cells #[v] t)) w.heap.size v t := ⟨heap_alloc_new w _⟩
theorem Bo.lt (b : Bo w g v t) : g < w.heap.size := (Array.getElem?_eq_some_iff.1 b.h).1
theorem Bo.cell (b : Bo w g v t) : w.cell? ⟨g, 0, none⟩ = some v := by
  rw [cell_of_row w g 0 _ _ _ b.h]; rfl
theorem Bo.frozen (b : Bo w g v t) : w.frozen? ⟨g, 0, none⟩ = false := by
  have h := b.h
  unfold World.frozen?
  dsimp only
  rw [h]
  rfl
theorem Bo.set (b : Bo w g v t) (u : Value) : Bo (w.setCell ⟨g, 0, none⟩ u) g u t := by
  have h := b.h
  refine ⟨?_⟩
  simp [World.setCell, Array.getElem?_modify, h]
theorem Bo.far (b : Bo w g v t) {p : Addr} (hp : g ≠ p.block) (u : Value) : Bo (w.setCell p u) g v t := ⟨(Below.heap_setCell w p u g hp).trans b.h⟩
theorem Bo.ext (b : Bo w g v t) (h : Ext w w') : Bo w' g v t := ⟨(h.block g b.lt).trans b.h⟩
theorem Bo.below (b : Bo w g v t) {n : Nat} (h : Below n w w') (hn : g < n) : Bo w' g v t := ⟨(h.block g hn).trans b.h⟩
end
theorem Own.setLow {w : World} {base : Nat} {v : Value} {xs : List Nat} (h : Own w base v xs) {p : Addr} (hp : p.block < base) (u : Value) : Own (w.setCell p u) base v xs := by
  have hg : w.grownBy (w.setCell p u) (some p.block) := ⟨rfl, rfl, rfl, by simp, fun k _ hk => Below.heap_setCell _ _ _ k (fun e => hk (by rw [e]))⟩
  refine ⟨h.own.kept hg ?_, h.w64⟩
  rcases ho : v.ownBlock with _ | k
  · exact .inl rfl
  · refine .inr fun e => ?_
    have := (h.own.lt k ho).1
    have := Option.some.inj e
    omega
/-- The six boxes of join: the digit's bits, the number so far, high, low, now, at. -/
structure Jb (w : World) (q s lo hi now a : Nat) (v : Value) : Prop where
  many : Bo w q (.int .u64 (s : Int)) 28
  out : Bo w (q + 1) v 38
  high : Bo w (q + 1 + 1) (.int .u64 (hi : Int)) 22
  low : Bo w (q + 1 + 1 + 1) (.int .u64 (lo : Int)) 22
  nw : Bo w (q + 1 + 1 + 1 + 1) (.int .u64 (now : Int)) 22
  pos : Bo w (q + 1 + 1 + 1 + 1 + 1) (.int .u64 (a : Int)) 28
section
variable {w : World} {q s lo hi now a : Nat} {v : Value}
theorem Jb.setLow (J : Jb w q s lo hi now a v) (x : Nat) : Jb (w.setCell ⟨q + 1 + 1 + 1, 0, none⟩ (.int .u64 (x : Int))) q s x hi now a v :=
  ⟨J.many.far (by simp <;> omega) _, J.out.far (by simp <;> omega) _, J.high.far (by simp <;> omega) _, J.low.set _, J.nw.far (by simp <;> omega) _, J.pos.far (by simp <;> omega) _⟩
theorem Jb.setHigh (J : Jb w q s lo hi now a v) (x : Nat) : Jb (w.setCell ⟨q + 1 + 1, 0, none⟩ (.int .u64 (x : Int))) q s lo x now a v :=
  ⟨J.many.far (by simp <;> omega) _, J.out.far (by simp <;> omega) _, J.high.set _, J.low.far (by simp <;> omega) _, J.nw.far (by simp <;> omega) _, J.pos.far (by simp <;> omega) _⟩
theorem Jb.setNow (J : Jb w q s lo hi now a v) (x : Nat) : Jb (w.setCell ⟨q + 1 + 1 + 1 + 1, 0, none⟩ (.int .u64 (x : Int))) q s lo hi x a v :=
  ⟨J.many.far (by simp <;> omega) _, J.out.far (by simp <;> omega) _, J.high.far (by simp <;> omega) _, J.low.far (by simp <;> omega) _, J.nw.set _, J.pos.far (by simp <;> omega) _⟩
theorem Jb.setPos (J : Jb w q s lo hi now a v) (x : Nat) : Jb (w.setCell ⟨q + 1 + 1 + 1 + 1 + 1, 0, none⟩ (.int .u64 (x : Int))) q s lo hi now x v :=
  ⟨J.many.far (by simp <;> omega) _, J.out.far (by simp <;> omega) _, J.high.far (by simp <;> omega) _, J.low.far (by simp <;> omega) _, J.nw.far (by simp <;> omega) _, J.pos.set _⟩
theorem Jb.setOut (J : Jb w q s lo hi now a v) (u : Value) : Jb (w.setCell ⟨q + 1, 0, none⟩ u) q s lo hi now a u :=
  ⟨J.many.far (by simp <;> omega) _, J.out.set _, J.high.far (by simp <;> omega) _, J.low.far (by simp <;> omega) _, J.nw.far (by simp <;> omega) _, J.pos.far (by simp <;> omega) _⟩
theorem Jb.ext (J : Jb w q s lo hi now a v) {w' : World} (h : Ext w w') : Jb w' q s lo hi now a v :=
  ⟨J.many.ext h, J.out.ext h, J.high.ext h, J.low.ext h, J.nw.ext h, J.pos.ext h⟩
theorem Jb.below (J : Jb w q s lo hi now a v) {w' : World} (h : Below (q + 6) w w') : Jb w' q s lo hi now a v :=
  ⟨J.many.below h (by omega), J.out.below h (by omega), J.high.below h (by omega), J.low.below h (by omega), J.nw.below h (by omega), J.pos.below h (by omega)⟩
end
/-- What the machine reckons at one digit. -/
theorem put_num {s lo now a x : Nat} (hx : x < B) (hlo : lo < B) (hs1 : 8 ≤ s) (hs2 : s ≤ 32) (ha : a + s ≤ 64) (hnow : now < 2 ^ a) :
    ∃ S C P d Aa D n E Q F G : Nat, (lo + x) % B = S ∧ (lo + x) / B = C ∧ IntKind.u64.wrap (C : Int) = (C : Int) ∧ (2 : Int) ^ s = (P : Int) ∧ IntKind.u64.wrap (P : Int) = (P : Int) ∧ IntKind.u64.wrap ((P : Int) - 1) = ((P - 1 : Nat) : Int) ∧
      bits BinOp.and IntKind.u64 (S : Int) ((P - 1 : Nat) : Int) = (d : Int) ∧ (2 : Int) ^ a = (Aa : Int) ∧ IntKind.u64.wrap ((d : Int) * (Aa : Int)) = (D : Int) ∧ bits BinOp.or IntKind.u64 (now : Int) (D : Int) = (n : Int) ∧
      (S : Int) / (P : Int) = (E : Int) ∧ (2 : Int) ^ (64 - s) = (Q : Int) ∧ IntKind.u64.wrap ((C : Int) * (Q : Int)) = (F : Int) ∧ bits BinOp.or IntKind.u64 (E : Int) (F : Int) = (G : Int) ∧ (C : Int) / (P : Int) = 0 ∧
      n = now + 2 ^ a * ((lo + x) % 2 ^ s) ∧ n < 2 ^ (a + s) ∧ G = (lo + x) / 2 ^ s ∧ G < B := by
  have hP8 : 2 ^ 8 ≤ 2 ^ s := Nat.pow_le_pow_right (by omega) hs1
  have hP32 : 2 ^ s ≤ 2 ^ 32 := Nat.pow_le_pow_right (by omega) hs2
  have hC : (lo + x) / B ≤ 1 := by
    have := Nat.div_lt_of_lt_mul (show lo + x < B * 2 by omega)
    omega
  have hS : (lo + x) % B < B := Nat.mod_lt _ B_pos
  have hd : (lo + x) % B % 2 ^ s = (lo + x) % 2 ^ s := by
    refine Nat.mod_mod_of_dvd _ ?_
    rw [B_two]
    exact Nat.pow_dvd_pow 2 (by omega)
  have hdl : (lo + x) % 2 ^ s < 2 ^ s := Nat.mod_lt _ (Nat.two_pow_pos s)
  have hD : (lo + x) % 2 ^ s * 2 ^ a < B := by
    rw [B_two]
    refine Nat.lt_of_lt_of_le (Nat.mul_lt_mul_of_pos_right hdl (Nat.two_pow_pos a)) ?_
    rw [← Nat.pow_add]
    exact Nat.pow_le_pow_right (by omega) (by omega)
  have hnB : now < B := by
    rw [B_two]
    exact Nat.lt_of_lt_of_le hnow (Nat.pow_le_pow_right (by omega) (by omega))
  have hor := now_or (d := (lo + x) % 2 ^ s) hnow
  have hcar := carry_or (t := lo + x) (s := s) (by omega) (by omega) (by omega)
  have hF : (lo + x) / B * 2 ^ (64 - s) % B < B := Nat.mod_lt _ B_pos
  have hE : (lo + x) % B / 2 ^ s < B := Nat.lt_of_le_of_lt (Nat.div_le_self _ _) hS
  have hG : (lo + x) / 2 ^ s < B := by
    rw [← hcar, B_two]
    exact Nat.or_lt_two_pow (by rw [← B_two]; exact hE) (by rw [← B_two]; exact hF)
  have hn : now + 2 ^ a * ((lo + x) % 2 ^ s) < 2 ^ (a + s) := by
    rw [Nat.pow_add]
    have h1 := Nat.mul_le_mul_left (2 ^ a) (show (lo + x) % 2 ^ s + 1 ≤ 2 ^ s from hdl)
    rw [Nat.mul_succ] at h1
    omega
  refine ⟨_, _, 2 ^ s, (lo + x) % 2 ^ s, 2 ^ a, (lo + x) % 2 ^ s * 2 ^ a, now + 2 ^ a * ((lo + x) % 2 ^ s), (lo + x) % B / 2 ^ s, 2 ^ (64 - s), (lo + x) / B * 2 ^ (64 - s) % B, (lo + x) / 2 ^ s, rfl, rfl, ?_, ?_, ?_, ?_, ?_, ?_, ?_, ?_, ?_, ?_, ?_, ?_, ?_, rfl, hn, rfl, hG⟩
  · rw [IntKind.wrap_u64]
    generalize (lo + x) / B = C at *
    omega
  · rw [Int.natCast_pow]; rfl
  · rw [IntKind.wrap_u64]
    generalize 2 ^ s = P at *
    omega
  · rw [IntKind.wrap_u64]
    generalize 2 ^ s = P at *
    omega
  · rw [u64_and_nat _ _ (by rw [← B_eq]; exact hS) (by omega), Nat.and_two_pow_sub_one_eq_mod, hd]
  · rw [Int.natCast_pow]; rfl
  · rw [← Int.natCast_mul, IntKind.wrap_u64]
    rw [B_eq] at hD
    generalize (lo + x) % 2 ^ s * 2 ^ a = D at *
    omega
  · rw [u64_or_nat _ _ (by rw [← B_eq]; exact hnB) (by rw [← B_eq]; exact hD), hor]
  · rw [Int.natCast_ediv]
  · rw [Int.natCast_pow]; rfl
  · rw [← Int.natCast_mul, IntKind.wrap_u64, B_eq]
    generalize (lo + x) / 18446744073709551616 * 2 ^ (64 - s) = D at *
    omega
  · rw [u64_or_nat _ _ (by rw [← B_eq]; exact hE) (by rw [← B_eq]; exact hF), hcar]
  · rw [← Int.natCast_ediv, Nat.div_eq_of_lt (by generalize (lo + x) / B = C at *; omega)]
    rfl
set_option maxHeartbeats 4000000 in
set_option maxRecDepth 100000 in
theorem put_go (q s lo now a x : Nat) (v : Value) (ws : List Nat) (w : World) (J : Jb w q s lo 0 now a v) (ho : Own w (q + 6) v ws) (hx : x < B) (hlo : lo < B) (hs1 : 8 ≤ s) (hs2 : s ≤ 32) (ha : a + s < 64) (hnow : now < 2 ^ a) :
    Calls Try.prog 96 #[.int .u64 (x : Int), .pointer (some ⟨q + 1 + 1 + 1, 0, none⟩), .pointer (some ⟨q + 1 + 1, 0, none⟩), .pointer (some ⟨q + 1 + 1 + 1 + 1, 0, none⟩), .pointer (some ⟨q, 0, none⟩), .pointer (some ⟨q + 1 + 1 + 1 + 1 + 1, 0, none⟩), .pointer (some ⟨q + 1, 0, none⟩)] w fun e w' => (∃ r, e = .returned r) ∧
      Jb w' q s ((lo + x) / 2 ^ s) 0 (now + 2 ^ a * ((lo + x) % 2 ^ s)) (a + s) v ∧ Own w' (q + 6) v ws ∧ Below q w w' := by
  have had := add64_c lo x
  obtain ⟨S, C, P, d, Aa, D, n, E, Q, F, G, hS, hC, k1, k2, k3, k4, k5, k6, k7, k8, k9, k10, k11, k12, k13, hn, hnl, hG, hGB⟩ := put_num (s := s) (now := now) hx hlo hs1 hs2 (by omega : a + s ≤ 64) hnow
  rw [hS, hC] at had
  rw [← hn, ← hG]
  have c0 := J.many.cell
  have c1 := J.out.cell
  have c2 : w.cell? ⟨q + 1 + 1, 0, none⟩ = some (.int .u64 0) := J.high.cell
  have c3 := J.low.cell
  have c4 := J.nw.cell
  have c5 := J.pos.cell
  have f1 := J.out.frozen
  have f2 := J.high.frozen
  have f3 := J.low.frozen
  have f4 := J.nw.frozen
  have f5 := J.pos.frozen
  have HO := Lib.hid ho
  have HJ := Lib.hid J
  have HNL := Lib.hid hnl
  have z64 : 64 - (s : Int) = ((64 - s : Nat) : Int) := by omega
  have n64 : (((a : Int) + (s : Int)) == 64) = false := by rw [beq_eq_false_iff_ne]; omega
  have n65 : ((a : Int) + (s : Int) = 64) = False := eq_false (by omega)
  clear J ho hS hC hn hG hnl hlo hx hnow z64
  go_enter Try.func96, Try.ntmps96
  go_wp2_with (simp only [had])
  go_end0
  have J2 := (((((HJ.out.setLow S).setHigh C).setNow n).setLow G).setHigh 0).setPos (a + s)
  have O2 := (((((HO.out.setLow (p := ⟨q + 1 + 1 + 1, 0, none⟩) (by simp <;> omega) (.int .u64 (S : Int))).setLow (p := ⟨q + 1 + 1, 0, none⟩) (by simp <;> omega) (.int .u64 (C : Int))).setLow (p := ⟨q + 1 + 1 + 1 + 1, 0, none⟩) (by simp <;> omega) (.int .u64 (n : Int))).setLow (p := ⟨q + 1 + 1 + 1, 0, none⟩) (by simp <;> omega) (.int .u64 (G : Int))).setLow (p := ⟨q + 1 + 1, 0, none⟩) (by simp <;> omega) (.int .u64 ((0 : Nat) : Int))).setLow (p := ⟨q + 1 + 1 + 1 + 1 + 1, 0, none⟩) (by simp <;> omega) (.int .u64 ((a + s : Nat) : Int))
  have B2 : Below q w _ := ((((((Below.refl q w).setCell (p := ⟨q + 1 + 1 + 1, 0, none⟩) (by simp <;> omega) (.int .u64 (S : Int))).setCell (p := ⟨q + 1 + 1, 0, none⟩) (by simp <;> omega) (.int .u64 (C : Int))).setCell (p := ⟨q + 1 + 1 + 1 + 1, 0, none⟩) (by simp <;> omega) (.int .u64 (n : Int))).setCell (p := ⟨q + 1 + 1 + 1, 0, none⟩) (by simp <;> omega) (.int .u64 (G : Int))).setCell (p := ⟨q + 1 + 1, 0, none⟩) (by simp <;> omega) (.int .u64 ((0 : Nat) : Int))).setCell (p := ⟨q + 1 + 1 + 1 + 1 + 1, 0, none⟩) (by simp <;> omega) (.int .u64 ((a + s : Nat) : Int))
  exact ⟨⟨_, rfl⟩, J2, O2, B2⟩
set_option maxHeartbeats 4000000 in
set_option maxRecDepth 100000 in
theorem put_full (q s lo now a x : Nat) (v : Value) (ws : List Nat) (w : World) (J : Jb w q s lo 0 now a v) (ho : Own w (q + 6) v ws) (hx : x < B) (hlo : lo < B) (hs1 : 8 ≤ s) (hs2 : s ≤ 32) (ha : a + s = 64) (hw : ws.length ≤ 1000000) (hnow : now < 2 ^ a) :
    Calls Try.prog 96 #[.int .u64 (x : Int), .pointer (some ⟨q + 1 + 1 + 1, 0, none⟩), .pointer (some ⟨q + 1 + 1, 0, none⟩), .pointer (some ⟨q + 1 + 1 + 1 + 1, 0, none⟩), .pointer (some ⟨q, 0, none⟩), .pointer (some ⟨q + 1 + 1 + 1 + 1 + 1, 0, none⟩), .pointer (some ⟨q + 1, 0, none⟩)] w fun e w' => (∃ r, e = .returned r) ∧
      ∃ v', Jb w' q s ((lo + x) / 2 ^ s) 0 0 0 v' ∧ Own w' (q + 6) v' (ws ++ [now + 2 ^ a * ((lo + x) % 2 ^ s)]) ∧ Below q w w' := by
  have had := add64_c lo x
  obtain ⟨S, C, P, d, Aa, D, n, E, Q, F, G, hS, hC, k1, k2, k3, k4, k5, k6, k7, k8, k9, k10, k11, k12, k13, hn, hnl, hG, hGB⟩ := put_num (s := s) (now := now) hx hlo hs1 hs2 (by omega : a + s ≤ 64) hnow
  rw [hS, hC] at had
  rw [← hn, ← hG]
  have c0 := J.many.cell
  have c1 := J.out.cell
  have c2 : w.cell? ⟨q + 1 + 1, 0, none⟩ = some (.int .u64 0) := J.high.cell
  have c3 := J.low.cell
  have c4 := J.nw.cell
  have c5 := J.pos.cell
  have f1 := J.out.frozen
  have f2 := J.high.frozen
  have f3 := J.low.frozen
  have f4 := J.nw.frozen
  have f5 := J.pos.frozen
  have HO := Lib.hid ho
  have HJ := Lib.hid J
  have HNL := Lib.hid hnl
  have z64 : 64 - (s : Int) = ((64 - s : Nat) : Int) := by omega
  have n64 : (((a : Int) + (s : Int)) == 64) = true := by rw [beq_iff_eq]; omega
  have n65 : ((a : Int) + (s : Int) = 64) = True := eq_true (by omega)
  have hnB : n < B := by rw [B_two, ← ha]; exact hnl
  have HA := Lib.hid ha
  have ha2 : a ≤ 64 := by omega
  have hq5 := J.pos.lt
  have O6 := (((((ho.setLow (p := ⟨q + 1 + 1 + 1, 0, none⟩) (by simp <;> omega) (.int .u64 (S : Int))).setLow (p := ⟨q + 1 + 1, 0, none⟩) (by simp <;> omega) (.int .u64 (C : Int))).setLow (p := ⟨q + 1 + 1 + 1 + 1, 0, none⟩) (by simp <;> omega) (.int .u64 (n : Int))).setLow (p := ⟨q + 1 + 1 + 1, 0, none⟩) (by simp <;> omega) (.int .u64 (G : Int))).setLow (p := ⟨q + 1 + 1, 0, none⟩) (by simp <;> omega) (.int .u64 0)).setLow (p := ⟨q + 1 + 1 + 1 + 1 + 1, 0, none⟩) (by simp <;> omega) (.int .u64 ((a : Int) + (s : Int)))
  have R6 := Rd.nw1 ((((((w.setCell ⟨q + 1 + 1 + 1, 0, none⟩ (.int .u64 (S : Int))).setCell ⟨q + 1 + 1, 0, none⟩ (.int .u64 (C : Int))).setCell ⟨q + 1 + 1 + 1 + 1, 0, none⟩ (.int .u64 (n : Int))).setCell ⟨q + 1 + 1 + 1, 0, none⟩ (.int .u64 (G : Int))).setCell ⟨q + 1 + 1, 0, none⟩ (.int .u64 0)).setCell ⟨q + 1 + 1 + 1 + 1 + 1, 0, none⟩ (.int .u64 ((a : Int) + (s : Int)))) n hnB
  simp only [World.size_setCell] at R6
  have E6 := O6.ext ((Ext.refl _).al (.cells #[.int .u64 (n : Int)] 22))
  have J6 := ((((((J.setLow S).setHigh C).setNow n).setLow G).setHigh 0).setPos (a + s)).ext ((Ext.refl _).al (.cells #[.int .u64 (n : Int)] 22))
  have B6 : Below q w _ := (((((((Below.refl q w).setCell (p := ⟨q + 1 + 1 + 1, 0, none⟩) (by simp <;> omega) (.int .u64 (S : Int))).setCell (p := ⟨q + 1 + 1, 0, none⟩) (by simp <;> omega) (.int .u64 (C : Int))).setCell (p := ⟨q + 1 + 1 + 1 + 1, 0, none⟩) (by simp <;> omega) (.int .u64 (n : Int))).setCell (p := ⟨q + 1 + 1 + 1, 0, none⟩) (by simp <;> omega) (.int .u64 (G : Int))).setCell (p := ⟨q + 1 + 1, 0, none⟩) (by simp <;> omega) (.int .u64 0)).setCell (p := ⟨q + 1 + 1 + 1 + 1 + 1, 0, none⟩) (by simp <;> omega) (.int .u64 ((a : Int) + (s : Int)))).alloc (by simp <;> omega) (.cells #[.int .u64 (n : Int)] 22)
  have HJ6 := Lib.hid J6
  have HB6 := Lib.hid B6
  clear J6 B6
  have HO6 := Lib.hid E6
  have HR6 := Lib.hid R6
  clear O6 R6 E6
  clear J ho hS hC hn hG hnl hlo hx hnow z64 ha
  go_enter Try.func96, Try.ntmps96
  go_wp2_with (first
    | (simp only [had])
    | (at_builtin; refine wp_append rfl _ _ _ rfl Try.underlying38 (q + 6) _ ws rfl HO6.out (some ⟨w.heap.size, 0, none⟩) 1 1 [n] rfl rfl HR6.out ?hb ?hl ?_; (case hb => simp; omega); (case hl => simp; omega); intro v' w4 ho4 hb4 hat hg4; have B4 := HB6.out.trans (hb4.mono (show q ≤ q + 6 by omega)); have J4 := HJ6.out.below hb4; clear hat hg4 hb4; obtain ⟨A4, c4', rfl, hr4⟩ := ho4.rd; clear hr4; rw [show (ws ++ [n]).length = ws.length + 1 by simp] at ho4; have d1 := J4.out.cell; have d4 := J4.nw.cell; have d5 := J4.pos.cell; have g1 := J4.out.frozen; have g4 := J4.nw.frozen; have g5 := J4.pos.frozen; have HO4 := Lib.hid ho4; have HJ4 := Lib.hid J4; clear ho4 J4))
  go_end0
  have J7 := ((HJ4.out.setOut (.slice A4 (ws.length + 1) c4')).setNow 0).setPos 0
  have O7 := ((HO4.out.setLow (p := ⟨q + 1, 0, none⟩) (by simp <;> omega) (.slice A4 (ws.length + 1) c4')).setLow (p := ⟨q + 1 + 1 + 1 + 1, 0, none⟩) (by simp <;> omega) (.int .u64 0)).setLow (p := ⟨q + 1 + 1 + 1 + 1 + 1, 0, none⟩) (by simp <;> omega) (.int .u64 0)
  have B7 := ((B4.setCell (p := ⟨q + 1, 0, none⟩) (by simp <;> omega) (.slice A4 (ws.length + 1) c4')).setCell (p := ⟨q + 1 + 1 + 1 + 1, 0, none⟩) (by simp <;> omega) (.int .u64 0)).setCell (p := ⟨q + 1 + 1 + 1 + 1 + 1, 0, none⟩) (by simp <;> omega) (.int .u64 0)
  exact ⟨⟨_, rfl⟩, _, J7, O7, B7⟩
end Go.Proofs.Ythbnkhgcfcigjaa
namespace Go.Proofs.Ythbnkhgcfcigjaa
open Go.RowKit

set_option maxHeartbeats 1000000 in
set_option maxRecDepth 100000 in
theorem ntrim_c (A : Option Addr) (c : Nat) (xs : List Nat) (w : World) (h : Rd w A c xs) :
    Calls Try.prog 108 #[.slice A xs.length c] w fun e w' => e = .returned (.slice A (topN xs) c) ∧ ∃ n, w' = w.drewN n := by
  have hl := h.len
  have hc := h.cap
  have ht := topN_le xs
  go_enter Try.func108, Try.ntmps108
  go_wp2
  go_loopw [3] (fun v wr => ∃ k : Nat, k ≤ xs.length ∧ topN xs ≤ k ∧ v = .int .i64 k ∧ ∃ n, wr = w.drewN n) (fun v _ => (intOf v).toNat)
  case atStart => exact ⟨xs.length, Nat.le_refl _, ht, rfl, 0, rfl⟩
  case round =>
    obtain ⟨k, hk, htk, rfl, n, rfl⟩ := hrel
    by_cases h0 : 0 < k
    · obtain ⟨ad, rfl, hcell⟩ := h.cell (k - 1) (by omega)
      have hidx : ((k : Int) - 1) = ((k - 1 : Nat) : Int) := by omega
      by_cases hz : xs.getD (k - 1) 0 = 0
      · have hne : topN xs ≠ k := fun e => topN_last xs (by omega) (by rw [e]; exact hz)
        rw [hz] at hcell
        go_wp2
        go_roundw
        case rel => exact ⟨k - 1, by omega, by omega, rfl, _, rfl⟩
        case measure => simp [intOf]; omega
      · have hne : topN xs = k := by
          rcases Nat.lt_or_ge (k - 1) (topN xs) with h1 | h1
          · omega
          · exact absurd (topN_zero xs _ h1) hz
        have HN := Lib.hid hne
        clear htk hne
        generalize xs.getD (k - 1) 0 = v at hcell hz
        have hzb : (((v : Nat) : Int) == 0) = false := by rw [beq_eq_false_iff_ne]; omega
        go_wp2
        go_ret
        exact ⟨by rw [HN.out]; rfl, _, rfl⟩
    · obtain rfl : k = 0 := by omega
      have h1 : topN xs = 0 := by omega
      have HN := Lib.hid h1
      clear htk h1
      go_wp2
      go_ret
      exact ⟨by rw [HN.out]; rfl, _, rfl⟩
theorem ntrim_cn (A : Option Addr) (c : Nat) (xs : List Nat) (w : World) (h : Rd w A c xs) :
    Calls Try.prog 108 #[.slice A xs.length c] w fun e w' => e = .returned (.slice A (cn (val xs)).length c) ∧ ∃ n, w' = w.drewN n := by
  rw [← topN_eq_len xs h.w64]
  exact ntrim_c A c xs w h
/-- What trim leaves is read as the number's canonical words. -/
theorem Rd.cnv {w : World} {A : Option Addr} {c : Nat} {xs : List Nat} (h : Rd w A c xs) : Rd w A c (cn (val xs)) := by
  have h1 := h.take (topN xs) (topN_le xs) (Nat.le_trans (topN_le xs) h.cap)
  rwa [← cn_topN xs h.w64] at h1
set_option maxHeartbeats 1000000 in
set_option maxRecDepth 100000 in
theorem nclone_c (A : Option Addr) (c : Nat) (xs : List Nat) (w : World) (h : Rd w A c xs) (hs : xs.length ≤ 100000000) :
    Calls Try.prog 107 #[.slice A xs.length c] w (Res w xs) := by
  have q34 : ∀ (w : World) (a : Option Addr) (n c n' c' : Nat), (binOp .eql 38 (.slice a n c) (.slice none n' c')).run Try.prog w = .ok (.bool a.isNone) w := fun w a n c n' c' => Lib.run_eql_slice_nil w _ _ a n c n' c' Try.underlying38
  cases A with
  | none =>
    have e : xs = [] := by
      rcases Nat.eq_zero_or_pos xs.length with h0 | h0
      · exact List.eq_nil_of_length_eq_zero h0
      · obtain ⟨ad, h⟩ := h.addr h0; cases h
    subst e
    go_enter Try.func107, Try.ntmps107
    go_wp2
    go_ret
    exact ⟨_, rfl, Own.nil _ _, Ext.refl w⟩
  | some ad =>
    go_enter Try.func107, Try.ntmps107
    go_wp2_with (at_builtin; refine wp_append rfl _ _ _ rfl Try.underlying38 w.heap.size _ [] rfl ⟨World.ownsRow_lit _ #[] 0 (by simp) (by simp [maxLen]) rfl, W64.nil⟩ (some ad) xs.length c xs rfl rfl (h.ext ((Ext.refl _).al _)) (by simp) (by simp; omega) ?_; intro v' w' ho hb hat hg)
    go_ret
    exact ⟨_, rfl, ho, Below.trans ((Ext.refl w).al _) hb⟩
set_option maxHeartbeats 1000000 in
set_option maxRecDepth 100000 in
theorem nTrim_c (A : Option Addr) (c : Nat) (xs : List Nat) (w : World) (h : Rd w A c xs) (hs : xs.length ≤ 100000000) :
    Calls Try.prog 97 #[.slice A xs.length c] w (Res w (cn (val xs))) := by
  have ht := ntrim_cn A c xs w h
  have hv := h.cnv
  have hl : (cn (val xs)).length ≤ 100000000 := Nat.le_trans ((cn_len_le _ _).2 (val_lt h.w64)) hs
  have hcl := fun w h => nclone_c A c (cn (val xs)) w h hl
  generalize cn (val xs) = ys at *
  go_enter Try.func97, Try.ntmps97
  go_wp2_with fail
  refine ht.mono ?_
  rintro z w1 ⟨rfl, n, rfl⟩
  go_wp2_with fail
  refine (hcl _ (hv.drewN n)).mono ?_
  rintro z w2 ⟨v, rfl, ho, hb⟩
  go_wp2
  go_ret
  exact ⟨_, rfl, ho, ((Ext.refl w).drewN n).tr hb⟩
end Go.Proofs.Ythbnkhgcfcigjaa
namespace Go.Proofs.Ythbnkhgcfcigjaa
open Go.RowKit

/-- What is carried, what is now, and the words so far are worth V, at i digits. -/
structure Jv (s K lo now a : Nat) (ws : List Nat) (i V : Nat) : Prop where
  hlo : lo < B
  hnow : now < 2 ^ a
  row : ∃ r, r < K ∧ a = s * r
  at' : 64 * ws.length + a = s * i
  v : val ws + B ^ ws.length * (now + 2 ^ a * lo) = V
theorem Jv.room {s K lo now a : Nat} {ws : List Nat} {i V : Nat} (h : Jv s K lo now a ws i V) (hs : s * K = 64) : a + s ≤ 64 := by
  obtain ⟨r, hr, rfl⟩ := h.row
  have := Nat.mul_le_mul_left s (show r + 1 ≤ K from hr)
  rw [hs, Nat.mul_succ] at this
  exact this
theorem Jv.pow {s K lo now a : Nat} {ws : List Nat} {i V : Nat} (h : Jv s K lo now a ws i V) : B ^ ws.length * 2 ^ a = (2 ^ s) ^ i := by
  rw [B_two, ← Nat.pow_mul, ← Nat.pow_add, h.at', Nat.pow_mul]
theorem Jv.sum {s K lo now a : Nat} {ws : List Nat} {i V : Nat} (h : Jv s K lo now a ws i V) (x : Nat) :
    val ws + B ^ ws.length * (now + 2 ^ a * ((lo + x) % 2 ^ s) + 2 ^ (a + s) * ((lo + x) / 2 ^ s)) = V + (2 ^ s) ^ i * x := by
  have e : now + 2 ^ a * ((lo + x) % 2 ^ s) + 2 ^ (a + s) * ((lo + x) / 2 ^ s) = now + 2 ^ a * lo + 2 ^ a * x := by
    rw [Nat.pow_add, Nat.mul_assoc, Nat.add_assoc, ← Nat.mul_add, Nat.mod_add_div, Nat.mul_add, Nat.add_assoc]
  rw [e, Nat.mul_add, ← Nat.add_assoc, h.v, ← Nat.mul_assoc, h.pow]
theorem Jv.lo' {s K lo now a : Nat} {ws : List Nat} {i V x : Nat} (h : Jv s K lo now a ws i V) (hs1 : 8 ≤ s) (hx : x < B) : (lo + x) / 2 ^ s < B := by
  have hP8 : 2 ^ 8 ≤ 2 ^ s := Nat.pow_le_pow_right (by omega) hs1
  refine Nat.div_lt_of_lt_mul ?_
  have h1 := Nat.mul_le_mul_right B hP8
  have := h.hlo
  omega
theorem Jv.now' {s K lo now a : Nat} {ws : List Nat} {i V x : Nat} (h : Jv s K lo now a ws i V) : now + 2 ^ a * ((lo + x) % 2 ^ s) < 2 ^ (a + s) := by
  have hd : (lo + x) % 2 ^ s < 2 ^ s := Nat.mod_lt _ (Nat.two_pow_pos s)
  have h1 := Nat.mul_le_mul_left (2 ^ a) (show (lo + x) % 2 ^ s + 1 ≤ 2 ^ s from hd)
  rw [Nat.mul_succ] at h1
  have := h.hnow
  rw [Nat.pow_add]
  omega
theorem Jv.go {s K lo now a : Nat} {ws : List Nat} {i V x : Nat} (h : Jv s K lo now a ws i V) (hs1 : 8 ≤ s) (hsK : s * K = 64) (hx : x < B) (hlt : a + s < 64) :
    Jv s K ((lo + x) / 2 ^ s) (now + 2 ^ a * ((lo + x) % 2 ^ s)) (a + s) ws (i + 1) (V + (2 ^ s) ^ i * x) := by
  refine ⟨h.lo' hs1 hx, h.now', ?_, ?_, h.sum x⟩
  · obtain ⟨r, hr, rfl⟩ := h.row
    refine ⟨r + 1, ?_, by rw [Nat.mul_succ]⟩
    rcases Nat.lt_or_ge (r + 1) K with h1 | h1
    · exact h1
    · have := Nat.mul_le_mul_left s h1
      rw [Nat.mul_succ, hsK] at this
      omega
  · rw [Nat.mul_succ, ← h.at', Nat.add_assoc]
theorem Jv.full {s K lo now a : Nat} {ws : List Nat} {i V x : Nat} (h : Jv s K lo now a ws i V) (hs1 : 8 ≤ s) (hsK : s * K = 64) (hx : x < B) (hlt : a + s = 64) :
    Jv s K ((lo + x) / 2 ^ s) 0 0 (ws ++ [now + 2 ^ a * ((lo + x) % 2 ^ s)]) (i + 1) (V + (2 ^ s) ^ i * x) := by
  refine ⟨h.lo' hs1 hx, Nat.two_pow_pos 0, ⟨0, ?_, rfl⟩, ?_, ?_⟩
  · rcases Nat.eq_zero_or_pos K with e | e
    · rw [e] at hsK; omega
    · exact e
  · rw [List.length_append, List.length_singleton, Nat.mul_succ s, ← h.at']
    omega
  · have e1 : val (ws ++ [now + 2 ^ a * ((lo + x) % 2 ^ s)]) = val ws + B ^ ws.length * (now + 2 ^ a * ((lo + x) % 2 ^ s)) := valb_snoc B ws _
    rw [← h.sum x, e1, List.length_append, List.length_singleton, Nat.pow_succ, hlt, Nat.pow_zero, Nat.one_mul, Nat.zero_add, ← B_two, Nat.mul_assoc, Nat.add_assoc, ← Nat.mul_add]
theorem valb_mono {b c : Nat} (h : b ≤ c) : ∀ l : List Nat, valb b l ≤ valb c l
  | [] => Nat.le_refl _
  | x :: l => by
    show x + b * valb b l ≤ x + c * valb c l
    exact Nat.add_le_add_left (Nat.mul_le_mul h (valb_mono h l)) x
/-- As long as something is left, the words are fewer than the digits. -/
theorem Jv.few {s K lo now a : Nat} {ws : List Nat} {i V : Nat} (h : Jv s K lo now a ws i V) {n : Nat} (hV : V < B ^ n) (h0 : 0 < lo ∨ 0 < now) : ws.length ≤ n := by
  have h1 : 1 ≤ now + 2 ^ a * lo := by
    rcases h0 with h0 | h0
    · have := Nat.mul_le_mul (Nat.two_pow_pos a) h0
      omega
    · omega
  have h2 := Nat.mul_le_mul_left (B ^ ws.length) h1
  have h3 := h.v
  rcases Nat.lt_or_ge n ws.length with h4 | h4
  · have h5 := Nat.pow_le_pow_right B_pos (Nat.le_of_lt h4)
    omega
  · exact h4
theorem put_c (q s K lo now a x i V : Nat) (v : Value) (ws : List Nat) (w : World) (hsK : s * K = 64) (J : Jb w q s lo 0 now a v) (ho : Own w (q + 6) v ws) (hv : Jv s K lo now a ws i V) (hx : x < B) (hs1 : 8 ≤ s) (hs2 : s ≤ 32) (hw : ws.length ≤ 1000000) :
    Calls Try.prog 96 #[.int .u64 (x : Int), .pointer (some ⟨q + 1 + 1 + 1, 0, none⟩), .pointer (some ⟨q + 1 + 1, 0, none⟩), .pointer (some ⟨q + 1 + 1 + 1 + 1, 0, none⟩), .pointer (some ⟨q, 0, none⟩), .pointer (some ⟨q + 1 + 1 + 1 + 1 + 1, 0, none⟩), .pointer (some ⟨q + 1, 0, none⟩)] w fun e w' => (∃ r, e = .returned r) ∧
      ∃ (lo' now' a' : Nat) (ws' : List Nat) (v' : Value), Jb w' q s lo' 0 now' a' v' ∧ Own w' (q + 6) v' ws' ∧ Below q w w' ∧ Jv s K lo' now' a' ws' (i + 1) (V + (2 ^ s) ^ i * x) ∧ lo' = (lo + x) / 2 ^ s ∧ (now' = 0 ∨ now' = now + 2 ^ a * ((lo + x) % 2 ^ s) ∧ a' = a + s) := by
  rcases Nat.lt_or_ge (a + s) 64 with h | h
  · refine (put_go q s lo now a x v ws w J ho hx hv.hlo hs1 hs2 h hv.hnow).mono ?_
    rintro e w' ⟨hr, hJ, hO, hB⟩
    exact ⟨hr, _, _, _, _, _, hJ, hO, hB, hv.go hs1 hsK hx h, rfl, .inr ⟨rfl, rfl⟩⟩
  · have h64 : a + s = 64 := by have := hv.room hsK; omega
    refine (put_full q s lo now a x v ws w J ho hx hv.hlo hs1 hs2 h64 hw hv.hnow).mono ?_
    rintro e w' ⟨hr, v', hJ, hO, hB⟩
    exact ⟨hr, _, _, _, _, _, hJ, hO, hB, hv.full hs1 hsK hx h64, rfl, .inl rfl⟩
/-- A number in a cell. -/
def cellNat (w : World) (g : Nat) : Nat := match w.cell? ⟨g, 0, none⟩ with | some v => (intOf v).toNat | none => 0
theorem cellNat_of {w : World} {g x : Nat} {k : IntKind} (h : w.cell? ⟨g, 0, none⟩ = some (.int k (x : Int))) : cellNat w g = x := by
  unfold cellNat
  rw [h]
  simp [intOf]
/-- What is left to do. -/
def leftW (lo now a : Nat) : Nat := lo * 129 + (if now = 0 then 0 else 65 - a)
/-- The six boxes of join, as they are laid. -/
theorem six_boxes (w : World) (s : Nat) : ∀ W, W = ((((((w.alloc (.cells #[.int .u64 (s : Int)] 28)).alloc (.cells #[.slice none 0 0] 38)).alloc (.cells #[.int .u64 0] 22)).alloc (.cells #[.int .u64 0] 22)).alloc (.cells #[.int .u64 0] 22)).alloc (.cells #[.int .u64 0] 28)) →
    Jb W w.heap.size s 0 0 0 0 (.slice none 0 0) ∧ Ext w W := by
  rintro W rfl
  have b0 := Bo.new w (.int .u64 (s : Int)) 28
  have b1 := Bo.new (w.alloc (.cells #[.int .u64 (s : Int)] 28)) (.slice none 0 0) 38
  have b2 := Bo.new ((w.alloc (.cells #[.int .u64 (s : Int)] 28)).alloc (.cells #[.slice none 0 0] 38)) (.int .u64 0) 22
  have b3 := Bo.new (((w.alloc (.cells #[.int .u64 (s : Int)] 28)).alloc (.cells #[.slice none 0 0] 38)).alloc (.cells #[.int .u64 0] 22)) (.int .u64 0) 22
  have b4 := Bo.new ((((w.alloc (.cells #[.int .u64 (s : Int)] 28)).alloc (.cells #[.slice none 0 0] 38)).alloc (.cells #[.int .u64 0] 22)).alloc (.cells #[.int .u64 0] 22)) (.int .u64 0) 22
  have b5 := Bo.new (((((w.alloc (.cells #[.int .u64 (s : Int)] 28)).alloc (.cells #[.slice none 0 0] 38)).alloc (.cells #[.int .u64 0] 22)).alloc (.cells #[.int .u64 0] 22)).alloc (.cells #[.int .u64 0] 22)) (.int .u64 0) 28
  rw [World.size_alloc] at b1
  rw [World.size_alloc, World.size_alloc] at b2
  rw [World.size_alloc, World.size_alloc, World.size_alloc] at b3
  rw [World.size_alloc, World.size_alloc, World.size_alloc, World.size_alloc] at b4
  rw [World.size_alloc, World.size_alloc, World.size_alloc, World.size_alloc, World.size_alloc] at b5
  refine ⟨⟨?_, ?_, ?_, ?_, ?_, b5⟩, ((((((Ext.refl w).al _).al _).al _).al _).al _).al _⟩
  · exact b0.ext ((((((Ext.refl _).al _).al _).al _).al _).al _)
  · exact b1.ext (((((Ext.refl _).al _).al _).al _).al _)
  · exact b2.ext ((((Ext.refl _).al _).al _).al _)
  · exact b3.ext (((Ext.refl _).al _).al _)
  · exact b4.ext ((Ext.refl _).al _)
theorem Jv.start {s K : Nat} (hs : s * K = 64) : Jv s K 0 0 0 [] 0 0 := by
  refine ⟨B_pos, Nat.two_pow_pos 0, ⟨0, ?_, rfl⟩, rfl, rfl⟩
  rcases Nat.eq_zero_or_pos K with e | e
  · rw [e] at hs; omega
  · exact e
theorem Jb.left {w : World} {q s lo hi now a : Nat} {v : Value} (J : Jb w q s lo hi now a v) : leftW (cellNat w (q + 1 + 1 + 1)) (cellNat w (q + 1 + 1 + 1 + 1)) (cellNat w (q + 1 + 1 + 1 + 1 + 1)) = leftW lo now a := by
  rw [cellNat_of J.low.cell, cellNat_of J.nw.cell, cellNat_of J.pos.cell]
theorem left_less {s lo now a lo' now' a' : Nat} (hs1 : 8 ≤ s) (ha : a + s ≤ 64) (h0 : 0 < lo ∨ 0 < now) (h1 : lo' = (lo + 0) / 2 ^ s) (h2 : now' = 0 ∨ now' = now + 2 ^ a * ((lo + 0) % 2 ^ s) ∧ a' = a + s) : leftW lo' now' a' < leftW lo now a := by
  have hP8 : 2 ^ 8 ≤ 2 ^ s := Nat.pow_le_pow_right (by omega) hs1
  unfold leftW
  rw [Nat.add_zero] at h1 h2
  rcases Nat.eq_zero_or_pos lo with e | e
  · subst e
    rw [Nat.zero_div] at h1
    rw [Nat.zero_mod, Nat.mul_zero, Nat.add_zero] at h2
    subst h1
    rcases h2 with rfl | ⟨rfl, rfl⟩
    · rw [if_pos rfl, if_neg (by omega)]; omega
    · rw [if_neg (by omega), if_neg (by omega)]; omega
  · have h3 : lo' + 1 ≤ lo := by
      rw [h1]
      exact Nat.div_lt_self e (by omega)
    have h4 : (if now' = 0 then 0 else 65 - a') ≤ 65 := by split <;> omega
    omega
set_option maxHeartbeats 4000000 in
set_option maxRecDepth 100000 in
theorem join_c (s K : Nat) (hsK : s * K = 64) (hs1 : 8 ≤ s) (hs2 : s ≤ 32) (A : Option Addr) (c : Nat) (l : List Nat) (w : World) (h : Rd w A c l) (hl : l.length ≤ 262144) :
    Calls Try.prog 70 #[.slice A l.length c, .int .u64 (s : Int)] w (Res w (cn (valb (2 ^ s) l))) := by
  have hmf : ∀ (fn : Fn) (first cap : Array Value) (w : World), (Instr.makeFunc fn first cap).run Try.prog w = .ok (.func fn first cap) w := fun _ _ _ _ => rfl
  obtain ⟨V, hV⟩ : ∃ V, valb (2 ^ s) l = V := ⟨_, rfl⟩
  rw [hV]
  have HV := Lib.hid hV
  have HS := Lib.hid hsK
  clear hV hsK
  obtain ⟨hJ0, hE0⟩ := six_boxes w s _ rfl
  have HJ0 := Lib.hid hJ0
  have HE0 := Lib.hid hE0
  clear hJ0 hE0
  have htr := fun A c xs w h hs => nTrim_c A c xs w h hs
  go_enter Try.func70, Try.ntmps70
  go_wp2_with fail
  have hJ0 := HJ0.out
  have hE0 := HE0.out
  clear HJ0 HE0
  generalize ((((((w.alloc (.cells #[.int .u64 (s : Int)] 28)).alloc (.cells #[.slice none 0 0] 38)).alloc (.cells #[.int .u64 0] 22)).alloc (.cells #[.int .u64 0] 22)).alloc (.cells #[.int .u64 0] 22)).alloc (.cells #[.int .u64 0] 28)) = W at *
  obtain ⟨q, hq⟩ : ∃ q, w.heap.size = q := ⟨_, rfl⟩
  have HQ := Lib.hid hq
  have hE0' : Below q w W := by rw [← hq]; exact hE0
  rw [hq] at hJ0 ⊢
  clear hq hE0
  go_loopw [16] (fun v16 wr => ∃ (i lo now a : Nat) (ws : List Nat) (v : Value), i ≤ l.length ∧ v16 = .int .i64 (i : Int) ∧ Jb wr q s lo 0 now a v ∧ Own wr (q + 6) v ws ∧ Jv s K lo now a ws i (valb (2 ^ s) (l.take i)) ∧ Below q w wr) (fun v _ => l.length - (intOf v).toNat)
  case atStart => exact ⟨0, 0, 0, 0, [], _, Nat.zero_le _, rfl, hJ0, Own.nil _ _, Jv.start HS.out, hE0'⟩
  case round =>
    obtain ⟨i, lo, now, a, ws, v, hi, rfl, hJ, hO, hv, hBl⟩ := hrel
    by_cases hlt : i < l.length
    · obtain ⟨ad, rfl, hx⟩ := h.cell i hlt
      replace hx : wr.cell? (ad.add i) = _ := (show Ext w wr by unfold Ext; rw [HQ.out]; exact hBl).cell hx
      have hxB := h.w64.get i
      have hnx := valb_take (2 ^ s) l i hlt
      have hwl : ws.length ≤ 1000000 := by
        have h1 := hv.at'
        have h2 := Nat.mul_le_mul hs2 (show i ≤ 262144 by omega)
        omega
      generalize l.getD i 0 = x at *
      have hput := put_c q s K lo now a x i _ v ws wr HS.out hJ hO hv hxB hs1 hs2 hwl
      rw [← hnx] at hput
      clear hnx hv hwl hJ hO
      go_wp2_with fail
      refine hput.mono ?_
      rintro z w3 ⟨⟨r, rfl⟩, lo', now', a', ws', v', hJ', hO', hB', hv', -, -⟩
      go_wp2_with fail
      go_roundw
      case rel => exact ⟨i + 1, lo', now', a', ws', v', hlt, by go_num, hJ', hO', hv', hBl.trans hB'⟩
      case measure => simp [intOf]; omega
    · obtain rfl : i = l.length := by omega
      rw [List.take_length, HV.out] at hv
      have hVB : V < B ^ l.length := by
        rw [← HV.out]
        refine Nat.lt_of_le_of_lt (valb_mono ?_ l) (valb_lt B l h.w64)
        rw [B_two]
        exact Nat.pow_le_pow_right (by omega) (by omega)
      go_wp2_with fail
      go_loopw [24] (fun v24 w1 => ∃ (i lo now a : Nat) (ws : List Nat) (v : Value), Jb w1 q s lo 0 now a v ∧ Own w1 (q + 6) v ws ∧ Jv s K lo now a ws i V ∧ ws.length ≤ l.length + 1 ∧ Below q w w1) (fun _ w1 => leftW (cellNat w1 (q + 1 + 1 + 1)) (cellNat w1 (q + 1 + 1 + 1 + 1)) (cellNat w1 (q + 1 + 1 + 1 + 1 + 1)))
      case atStart => exact ⟨l.length, lo, now, a, ws, v, hJ, hO, hv, by have h1 := hv.at'; have h2 := Nat.mul_le_mul_right l.length hs2; omega, hBl⟩
      case round =>
        clear hJ hO hv hBl
        obtain ⟨i, lo, now, a, ws, v, hJ, hO, hv, hln, hBl⟩ := hrel
        have nB : now < B := by
          rw [B_two]
          exact Nat.lt_of_lt_of_le hv.hnow (Nat.pow_le_pow_right (by omega) (by have := hv.room HS.out; omega))
        have o1 : bits BinOp.or IntKind.u64 (lo : Int) 0 = (lo : Int) := by
          rw [show (0 : Int) = ((0 : Nat) : Int) from rfl, u64_or_nat _ _ (by rw [← B_eq]; exact hv.hlo) (by omega), Nat.or_zero]
        have o2 := u64_or_nat lo now (by rw [← B_eq]; exact hv.hlo) (by rw [← B_eq]; exact nB)
        have d2 : wr.cell? ⟨q + 1 + 1, 0, none⟩ = some (.int .u64 0) := hJ.high.cell
        have d3 := hJ.low.cell
        have d4 := hJ.nw.cell
        have HL := Lib.hid hJ.left
        by_cases h0 : 0 < lo ∨ 0 < now
        · have hor : 0 < (lo ||| now) := by
            rcases Nat.eq_zero_or_pos (lo ||| now) with e | e
            · rw [Nat.or_eq_zero_iff] at e
              omega
            · exact e
          have hwl := hv.few hVB h0
          have HWL := Lib.hid hwl
          have hput := put_c q s K lo now a 0 i _ v ws wr HS.out hJ hO hv B_pos hs1 hs2 (by omega)
          rw [Nat.mul_zero, Nat.add_zero] at hput
          have hro := hv.room HS.out
          have HAT := Lib.hid hv.at'
          have HM := Lib.hid (fun lo' now' a' => left_less (lo := lo) (now := now) (a := a) (lo' := lo') (now' := now') (a' := a') hs1 hro h0)
          generalize (lo ||| now) = Z at *
          have z1 : decide (0 < (Z : Int)) = true := decide_eq_true (by omega)
          clear hJ hO hv hwl h0 hVB
          go_wp2_with fail
          refine hput.mono ?_
          rintro z w3 ⟨⟨r, rfl⟩, lo', now', a', ws', v', hJ', hO', hB', hv', he1, he2⟩
          go_wp2_with fail
          go_roundw
          case rel => exact ⟨i + 1, lo', now', a', ws', v', hJ', hO', hv', by have h1 := HAT.out; have h2 := hv'.at'; rw [Nat.mul_succ] at h2; have h3 := HWL.out; omega, hBl.trans hB'⟩
          case measure => rw [hJ'.left, HL.out]; exact HM.out lo' now' a' he1 he2
        · obtain rfl : lo = 0 := by omega
          obtain rfl : now = 0 := by omega
          have hz : val ws = V := by
            have := hv.v
            rw [Nat.mul_zero, Nat.add_zero, Nat.mul_zero, Nat.add_zero] at this
            exact this
          have hwl : ws.length ≤ 100000000 := by omega
          obtain ⟨A1, c1, rfl, hr1⟩ := hO.rd
          have d1 := hJ.out.cell
          have HZ := Lib.hid hz
          rw [Nat.or_zero] at o2
          clear hJ hO hv h0 hVB hz nB
          go_wp2_with fail
          refine (htr _ _ _ _ hr1 hwl).mono ?_
          rintro z w5 ⟨v5, rfl, ho5, hE5⟩
          go_wp2_with fail
          go_ret
          have hEW : Ext w wr := by unfold Ext; rw [HQ.out]; exact hBl
          rw [HZ.out] at ho5
          exact ⟨_, rfl, ho5.low hEW.size, hEW.tr hE5⟩
end Go.Proofs.Ythbnkhgcfcigjaa
