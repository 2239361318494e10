/- math/bits: Reverse64, Len. math/bits: Len. package ntt: turned and its iterator turned$1. -/
import Derived.Test.YthbnkhgcfcigjaaKT
import Derived.Test.YthbnkhgcfcigjaaBits
import Derived.RangeFuncNested
import Derived.RangeFuncBound
import Derived.RangeFuncCalls
import Derived.RangeFuncLeaves
import Derived.Shelf.Abstract
import Derived.OwnWalkIn
import Derived.TacticsInMore
import Derived.LoopNIn
import Derived.LoopIn
set_option linter.unusedVariables false
set_option linter.unusedSimpArgs false
namespace Go.Proofs.Ythbnkhgcfcigjaa
open Go.RowKit

/-- One change of places, as the machine reckons it. -/
theorem swp_run {k M x K : Nat} (hK : 2 ^ k = K) (hx : x < B) (hM : M < B) :
    (x : Int) / (K : Int) = ((x / K : Nat) : Int) ∧ bits BinOp.and IntKind.u64 ((x / K : Nat) : Int) (M : Int) = ((x / K &&& M : Nat) : Int) ∧ bits BinOp.and IntKind.u64 (x : Int) (M : Int) = ((x &&& M : Nat) : Int) ∧
    IntKind.u64.wrap (((x &&& M : Nat) : Int) * (K : Int)) = (((x &&& M) * K % B : Nat) : Int) ∧ bits BinOp.or IntKind.u64 ((x / K &&& M : Nat) : Int) (((x &&& M) * K % B : Nat) : Int) = ((swp k M x : Nat) : Int) ∧ swp k M x < B := by
  have h1 : x / K < B := Nat.lt_of_le_of_lt (Nat.div_le_self _ _) hx
  have h2 : (x / K &&& M) < B := by rw [B_two] at *; exact Nat.and_lt_two_pow _ hM
  have h3 : (x &&& M) * K % B < B := Nat.mod_lt _ B_pos
  refine ⟨by rw [Int.natCast_ediv], u64_and_nat _ _ (by rw [← B_eq]; exact h1) (by rw [← B_eq]; exact hM), u64_and_nat _ _ (by rw [← B_eq]; exact hx) (by rw [← B_eq]; exact hM), ?_, ?_, swp_lt hM⟩
  · rw [IntKind.wrap_u64, ← Int.natCast_mul, B_eq]
    omega
  · rw [u64_or_nat _ _ (by rw [← B_eq]; exact h2) (by rw [← B_eq]; exact h3)]
    unfold swp
    rw [hK]
theorem swp_run' {k M x K : Nat} (KI MI : Int) (hKI : (K : Int) = KI) (hMI : (M : Int) = MI) (hK : 2 ^ k = K) (hx : x < B) (hM : M < B) :
    ∃ u1 u2 u3 u4 : Nat, (x : Int) / KI = (u3 : Int) ∧ bits BinOp.and IntKind.u64 (u3 : Int) MI = (u2 : Int) ∧ bits BinOp.and IntKind.u64 (x : Int) MI = (u4 : Int) ∧
    IntKind.u64.wrap ((u4 : Int) * KI) = (u1 : Int) ∧ bits BinOp.or IntKind.u64 (u2 : Int) (u1 : Int) = ((swp k M x : Nat) : Int) ∧ swp k M x < B := by
  subst hKI hMI
  exact ⟨_, _, _, _, swp_run hK hx hM⟩
theorem swp_last {x : Nat} (hx : x < B) : swp 32 M32 x = x / 4294967296 ||| (x * 4294967296 % B) := by
  unfold swp
  have e1 : x / 2 ^ 32 &&& M32 = x / 4294967296 := by
    rw [show M32 = 2 ^ 32 - 1 from rfl, Nat.and_two_pow_sub_one_eq_mod]
    rw [B_eq] at hx
    exact Nat.mod_eq_of_lt (by omega)
  have e2 : (x &&& M32) * 2 ^ 32 % B = x * 4294967296 % B := by
    rw [show M32 = 2 ^ 32 - 1 from rfl, Nat.and_two_pow_sub_one_eq_mod, B_eq]
    omega
  rw [e1, e2]
set_option maxHeartbeats 2000000 in
set_option maxRecDepth 100000 in
theorem reverseBytes_c (x : Nat) (w : World) (hx : x < B) : Calls Try.prog 112 #[.int .u64 (x : Int)] w fun e w' => e = .returned (.int .u64 ((swp 32 M32 (swp 16 M16 (swp 8 M8 x)) : Nat) : Int)) ∧ w = w' := by
  obtain ⟨u1, u2, u3, u4, a1, a2, a3, a4, a5, a6⟩ := swp_run' (k := 8) (M := M8) (K := 256) 256 71777214294589695 rfl rfl (by decide) hx (by rw [B_eq]; decide)
  generalize swp 8 M8 x = y at *
  obtain ⟨v1, v2, v3, v4, b1, b2, b3, b4, b5, b6⟩ := swp_run' (k := 16) (M := M16) (K := 65536) 65536 281470681808895 rfl rfl (by decide) a6 (by rw [B_eq]; decide)
  generalize swp 16 M16 y = z at *
  have hl := swp_last b6
  obtain ⟨t1, t2, c1, c2, c3⟩ : ∃ t1 t2 : Nat, (z : Int) / 4294967296 = (t2 : Int) ∧ IntKind.u64.wrap ((z : Int) * 4294967296) = (t1 : Int) ∧ bits BinOp.or IntKind.u64 (t2 : Int) (t1 : Int) = ((swp 32 M32 z : Nat) : Int) := by
    refine ⟨z * 4294967296 % B, z / 4294967296, by omega, by rw [IntKind.wrap_u64, B_eq]; omega, ?_⟩
    rw [hl]
    exact u64_or_nat _ _ (by rw [B_eq] at b6; omega) (by rw [B_eq]; omega)
  generalize swp 32 M32 z = r at *
  clear hl a6 b6 hx
  go_enter Try.func112, Try.ntmps112
  go_wp2_with fail
  go_ret
  exact ⟨rfl, rfl⟩
set_option maxHeartbeats 2000000 in
set_option maxRecDepth 100000 in
theorem reverse64_c (x : Nat) (w : World) (hx : x < B) : Calls Try.prog 105 #[.int .u64 (x : Int)] w fun e w' => e = .returned (.int .u64 ((R64 x : Nat) : Int)) ∧ w = w' := by
  obtain ⟨u1, u2, u3, u4, a1, a2, a3, a4, a5, a6⟩ := swp_run' (k := 1) (M := M1) (K := 2) 2 6148914691236517205 rfl rfl (by decide) hx (by rw [B_eq]; decide)
  unfold R64
  generalize swp 1 M1 x = y at *
  obtain ⟨v1, v2, v3, v4, b1, b2, b3, b4, b5, b6⟩ := swp_run' (k := 2) (M := M2) (K := 4) 4 3689348814741910323 rfl rfl (by decide) a6 (by rw [B_eq]; decide)
  generalize swp 2 M2 y = z at *
  obtain ⟨t1, t2, t3, t4, c1, c2, c3, c4, c5, c6⟩ := swp_run' (k := 4) (M := M4) (K := 16) 16 1085102592571150095 rfl rfl (by decide) b6 (by rw [B_eq]; decide)
  generalize swp 4 M4 z = r at *
  have hrb := fun w => reverseBytes_c r w c6
  generalize swp 32 M32 (swp 16 M16 (swp 8 M8 r)) = q at *
  clear a6 b6 c6 hx
  go_enter Try.func105, Try.ntmps105
  go_wp2_with fail
  refine (hrb _).mono ?_
  rintro e w1 ⟨rfl, rfl⟩
  go_wp2
  go_ret
  exact ⟨rfl, rfl⟩
end Go.Proofs.Ythbnkhgcfcigjaa
namespace Go.Proofs.Ythbnkhgcfcigjaa
open Go.RowKit

theorem lenw_c (x : Nat) (w : World) (hx : x < B) : Calls Try.prog 104 #[.int .u64 (x : Int)] w fun e w' => e = .returned (.int .i64 (bl x)) ∧ w = w' := by
  have hl := fun w => len64 x w hx
  have hw : IntKind.u64.wrap (x : Int) = (x : Int) := by rw [IntKind.wrap_u64]; rw [B_eq] at hx; omega
  generalize bl x = b at *
  clear hx
  go_enter Try.func104, Try.ntmps104
  go_wp2_with fail
  refine (hl _).mono ?_
  rintro z w1 ⟨rfl, rfl⟩
  go_wp2
  go_ret
  exact ⟨rfl, rfl⟩
end Go.Proofs.Ythbnkhgcfcigjaa
namespace Go.Proofs.Ythbnkhgcfcigjaa
open Go.RowKit Go.Shelf
attribute [local go_sem] Oper.semAt_some

theorem turned_c (n : Int) (w : World) : Calls Try.prog 90 #[.int .i64 n] w fun e w' => e = .returned (.func (.func 103) #[] #[.pointer (some ⟨w.heap.size, 0, none⟩)]) ∧ w' = w.alloc (.cells #[.int .i64 n] 3) := by
  have hmf : ∀ (fn : Fn) (first cap : Array Value) (w : World), (Instr.makeFunc fn first cap).run Try.prog w = .ok (.func fn first cap) w := fun _ _ _ _ => rfl
  go_enter Try.func90, Try.ntmps90
  go_wp2_with fail
  go_ret
  exact ⟨rfl, rfl⟩
/-- The box of the length is kept. -/
def KpB (q : Nat) (W W' : World) : Prop := ∀ v, W.cell? ⟨q, 0, none⟩ = some v → W'.cell? ⟨q, 0, none⟩ = some v
theorem kpB_t {q : Nat} {A B' C : World} (h : KpB q A B') (k : KpB q B' C) : KpB q A C := fun v hv => k v (h v hv)
theorem kpB_b {q : Nat} {w : World} (hq : q < w.heap.size) (W : World) (l : Nat) (o o' : Obj) (hl : w.heap.size ≤ l) (h : W.heap[l]? = some o) (_ : o.isCells = false) (_ : o.isWalk = false) : KpB q W (W.putObj l o') :=
  fun v hv => (grownBy_putObj' W l o').cell hv (fun e => by have := Option.some.inj e; simp at this; omega)
theorem fin_snoc {N i : Nat} (h : i < N) : (List.finRange N).take i ++ [⟨i, h⟩] = (List.finRange N).take (i + 1) := by
  rw [List.take_add_one, List.getElem?_eq_getElem (by rw [List.length_finRange]; exact h)]
  simp
set_option maxRecDepth 100000 in
set_option maxHeartbeats 2000000 in
/-- 'for i, k := range turned(n)': all places, each with the place whose bits are read backwards. -/
theorem turned1_in (m N l q : Nat) (hm : m ≤ 16) (hN : N = 2 ^ m) (J Jx : List (Fin N) → World → Prop)
    (hY : ∀ pre x W, J pre W → pre.length < N → YieldAt Fence.wide 1 Try.prog l #[.int .i64 ((x.1 : Nat) : Int), .int .i64 ((rv m x.1 : Nat) : Int)] W fun e W' =>
      (e = .returned (.bool true) ∧ J (pre ++ [x]) W' ∧ KpB q W W') ∨ (e = .returned (.bool false) ∧ Jx (pre ++ [x]) W'))
    (W : World) (hq : W.cell? ⟨q, 0, none⟩ = some (.int .i64 (N : Int))) (h0 : J [] W) :
    CallsIn Fence.wide 2 Try.prog 103 #[.func (.yield l) #[] #[], .pointer (some ⟨q, 0, none⟩)] W fun e W' => (∃ v, e = .returned v) ∧
      ((∃ ys, ys = List.finRange N ∧ J ys W') ∨ (∃ pre, True ∧ Jx pre W')) := by
  have hNb : N ≤ 65536 := by rw [hN]; exact Nat.pow_le_pow_right (n := 2) (by omega) hm
  have hN0 : 0 < N := by rw [hN]; exact Nat.two_pow_pos m
  have hlen := lenw_c N
  have hbl : bl N = m + 1 := by rw [hN]; exact bl_unique (Nat.le_refl _) (Nat.pow_lt_pow_right (by omega) (by omega))
  rw [hbl] at hlen
  have hlen' := fun w => hlen w (by rw [B_eq]; omega)
  have hrev := fun (i : Nat) (hi : i < N) w => reverse64_c i w (by rw [B_eq]; omega)
  have w1 : IntKind.u64.wrap (N : Int) = (N : Int) := by rw [IntKind.wrap_u64]; omega
  refine callsIn_of_wp Try.func103 rfl trivial ?_ rfl
  simp only [Try.ntmps103, List.size_toArray, List.length_cons, List.length_nil, Nat.reduceAdd, Nat.reduceSub, Array.replicate_succ, Array.replicate_zero, List.push_toArray, List.append_toArray, List.nil_append, List.cons_append]
  clear hlen hbl
  have HN := Lib.hid hN
  clear hN
  gi_wp2_with (first
    | (refine ⟨trivial, ?_⟩; gi_at_call 104; refine (callsIn_wide.2 (hlen' _)).mono ?_; rintro e w' ⟨rfl, rfl⟩)
    | (gi_at_call 104; refine (callsIn_wide.2 (hlen' _)).mono ?_; rintro e w' ⟨rfl, rfl⟩))
  gi_loopw [13] (fun v wr => ∃ k : Nat, k ≤ N ∧ v = .int .i64 (k : Int) ∧ J ((List.finRange N).take k) wr ∧ KpB q W wr) (fun v _ => N - (intOf v).toNat)
  case atStart => exact ⟨0, Nat.zero_le _, rfl, by rw [List.take_zero]; exact h0, fun v h => h⟩
  case round =>
    obtain ⟨i, hi, rfl, hJ, hK⟩ := hrel
    have hq' := hK _ hq
    by_cases hlt : i < N
    · have hr1 := fun w => hrev i hlt w
      have w2 : IntKind.u64.wrap (i : Int) = (i : Int) := by rw [IntKind.wrap_u64]; omega
      have hrv := R64_rv (m := m) (i := i) (by omega) (by rw [← HN.out]; exact hlt)
      have hJ2 := hY _ (⟨i, hlt⟩ : Fin N) wr hJ (by rw [List.length_take, List.length_finRange]; omega)
      have hsn := fin_snoc hlt
      rw [hsn] at hJ2
      clear hY
      dsimp only at hJ2
      obtain ⟨fn, tmps, assign, body, hy, hR⟩ := hJ2
      have hrl := rv_lt m i
      rw [← HN.out] at hrl
      have hd : ((R64 i : Nat) : Int) / 2 ^ (64 - m) = ((rv m i : Nat) : Int) := by rw [← hrv, Int.natCast_ediv, Int.natCast_pow]; rfl
      have hr0 : N = 1 → rv m i = 0 := fun h => by omega
      generalize rv m i = k at *
      generalize R64 i = R at *
      clear hrv hrev
      by_cases hN1 : N = 1
      · have n1 : ((N : Int) == 1) = true := by rw [beq_iff_eq]; omega
        have n2 : ((N : Int) = 1) = True := eq_true (by omega)
        have hk0 := hr0 hN1
        subst hk0
        rw [show ((0 : Nat) : Int) = 0 from rfl] at hy hd
        clear hr0 hN1
        gi_wp2_with (first
          | (refine ⟨trivial, ?_⟩; gi_at_call 105; refine (callsIn_wide.2 (hr1 _)).mono ?_; rintro e w' ⟨rfl, rfl⟩)
          | (gi_at_call 105; refine (callsIn_wide.2 (hr1 _)).mono ?_; rintro e w' ⟨rfl, rfl⟩))
        refine hR.mono ?_
        rintro e W3 (⟨rfl, hJ3, hk3⟩ | ⟨rfl, hJx3⟩)
        · gi_wp2
          go_roundw
          case rel => exact ⟨i + 1, by omega, by go_num, hJ3, kpB_t hK hk3⟩
          case measure => simp [intOf]; omega
        · gi_wp2
          refine bodyPost_ret (results_none rfl _ _ _) rfl ?_
          exact ⟨⟨_, rfl⟩, .inr ⟨_, trivial, hJx3⟩⟩
      · have n1 : ((N : Int) == 1) = false := by rw [beq_eq_false_iff_ne]; omega
        have n2 : ((N : Int) = 1) = False := eq_false (by omega)
        clear hr0 hN1
        gi_wp2_with (first
          | (refine ⟨trivial, ?_⟩; gi_at_call 105; refine (callsIn_wide.2 (hr1 _)).mono ?_; rintro e w' ⟨rfl, rfl⟩)
          | (gi_at_call 105; refine (callsIn_wide.2 (hr1 _)).mono ?_; rintro e w' ⟨rfl, rfl⟩))
        refine hR.mono ?_
        rintro e W3 (⟨rfl, hJ3, hk3⟩ | ⟨rfl, hJx3⟩)
        · gi_wp2
          go_roundw
          case rel => exact ⟨i + 1, by omega, by go_num, hJ3, kpB_t hK hk3⟩
          case measure => simp [intOf]; omega
        · gi_wp2
          refine bodyPost_ret (results_none rfl _ _ _) rfl ?_
          exact ⟨⟨_, rfl⟩, .inr ⟨_, trivial, hJx3⟩⟩
    · obtain rfl : i = N := by omega
      rw [List.take_of_length_le (by rw [List.length_finRange]; exact Nat.le_refl _)] at hJ
      gi_wp2
      go_end0
      exact ⟨⟨_, rfl⟩, .inl ⟨_, rfl, hJ⟩⟩
end Go.Proofs.Ythbnkhgcfcigjaa
