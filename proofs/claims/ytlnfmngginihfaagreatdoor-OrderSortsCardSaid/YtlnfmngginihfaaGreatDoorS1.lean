/- the laws' own small functions and the reference's floats: Their, None, Short, Equal, odd, Good, Canonical, Is. -/
import Derived.Test.YtlnfmngginihfaaGreatDoorF7
import Derived.Test.YtlnfmngginihfaaGreatDoorR5
import Derived.Test.YtlnfmngginihfaaGreatDoorR8
set_option linter.unusedVariables false
set_option linter.unusedSimpArgs false
namespace Go.Proofs.YtlnfmngginihfaaGreatDoor
open Go.RowKit

/-- A box of a reference's float. -/
structure Br (w : World) (g : Nat) (a b c d : Value) : Prop where
  h : w.heap[g]? = some (.cells #[a, b, c, d] 42 (0, 0))
theorem Br.ext {w w' : World} {g : Nat} {a b c d : Value} (x : Br w g a b c d) (h : Ext w w') : Br w' g a b c d := ⟨(h.block g (Array.getElem?_eq_some_iff.1 x.h).1).trans x.h⟩
theorem Br.facts {w : World} {g : Nat} {a b c d : Value} (x : Br w g a b c d) : w.cell? ⟨g, 0, none⟩ = some a ∧ w.cell? ⟨g, 1, none⟩ = some b ∧ w.cell? ⟨g, 2, none⟩ = some c ∧ w.cell? ⟨g, 3, none⟩ = some d ∧
    (∀ i, w.frozen? ⟨g, i, none⟩ = false) := by
  have h := x.h
  refine ⟨?_, ?_, ?_, ?_, fun i => by simp [World.frozen?, h]⟩ <;> rw [cell_of_row w g _ _ _ _ h] <;> rfl
theorem Br.new (w : World) (a b c d : Value) : Br (w.alloc (.cells #[a, b, c, d] 42)) w.heap.size a b c d := ⟨heap_alloc_new w _⟩
theorem Br.put {w : World} {g : Nat} {a b c d : Value} (x : Br w g a b c d) (a' b' c' d' : Value) : Br ((((w.setCell ⟨g, 0, none⟩ a').setCell ⟨g, 1, none⟩ b').setCell ⟨g, 2, none⟩ c').setCell ⟨g, 3, none⟩ d') g a' b' c' d' := by
  have h := x.h
  constructor
  simp [World.setCell, Array.getElem?_modify, h]
theorem Br.lt {w : World} {g : Nat} {a b c d : Value} (x : Br w g a b c d) : g < w.heap.size := (Array.getElem?_eq_some_iff.1 x.h).1

set_option maxHeartbeats 400000 in
set_option maxRecDepth 100000 in
theorem their_c (k e : Int) (neg : Bool) (A : Option Addr) (n c : Nat) (w : World) : Calls Tryz.prog 11 #[flV k neg e (.slice A n c)] w fun e' w' => e' = .returned (flV k neg e (.slice A n c)) ∧ Ext w w' := by
  go_enter Tryz.func11, Tryz.ntmps11
  go_wp2
  refine bodyPost_ret (v := flV k neg e (.slice A n c)) (by simp [results, Tryz.results11, go_sem]) rfl ?_
  exact ⟨rfl, (by repeat (with_reducible first | exact Ext.refl _ | refine Ext.set ?_ (by simp) _ _ | refine Ext.al ?_ _ | refine Ext.drewN ?_ _ | refine Ext.drew ?_))⟩
set_option maxHeartbeats 400000 in
set_option maxRecDepth 100000 in
theorem short_c (A : Option Addr) (c : Nat) (l : List FA) (w : World) (h : FRd w A c l) : Calls Tryz.prog 4 #[.slice A l.length c] w fun e' w' => e' = .returned (.bool (l.all fun a => decide (a.xs.length ≤ 40))) ∧ w = w' := by
  have hl := h.len
  go_enter Tryz.func4, Tryz.ntmps4
  go_wp2
  go_loopw [3] (fun v wr => ∃ i : Nat, i ≤ l.length ∧ v = .int .i64 i ∧ (∀ j (hj : j < l.length), j < i → l[j].xs.length ≤ 40) ∧ wr = w) (fun v _ => l.length - (intOf v).toNat)
  case atStart => exact ⟨0, Nat.zero_le _, rfl, fun j _ hj => absurd hj (by omega), rfl⟩
  case round =>
    obtain ⟨i, hi, rfl, hsm, rfl⟩ := hrel
    by_cases hlt : i < l.length
    · obtain ⟨ad, rfl, h0, h1, h2, h3, hr⟩ := h.cell i hlt
      have hidx : ((i : Int) * 4).toNat = i * 4 := by omega
      by_cases hbig : l[i].xs.length ≤ 40
      · have hd : decide ((40 : Int) < (l[i].xs.length : Int)) = false := by simp; omega
        have hsm2 : ∀ j (hj : j < l.length), j < i + 1 → l[j].xs.length ≤ 40 := fun j hj hji => by
          rcases Nat.lt_or_ge j i with h4 | h4
          · exact hsm j hj h4
          · have e : j = i := by omega
            subst e; exact hbig
        have HSM := Lib.hid hsm2
        clear hsm hsm2 hbig
        go_wp2
        go_roundw
        case rel => exact ⟨i + 1, hlt, by go_num, HSM.out, trivial⟩
        case measure => simp [intOf]; omega
      · have hd : decide ((40 : Int) < (l[i].xs.length : Int)) = true := by simp; omega
        have hf : (l.all fun a => decide (a.xs.length ≤ 40)) = false := by
          rw [List.all_eq_false]
          exact ⟨l[i], List.getElem_mem hlt, by simpa using hbig⟩
        have HF := Lib.hid hf
        clear hsm hf hbig
        go_wp2
        go_ret
        exact ⟨by rw [HF.out]; rfl, rfl⟩
    · obtain rfl : i = l.length := by omega
      have hf : (l.all fun a => decide (a.xs.length ≤ 40)) = true := by
        rw [List.all_eq_true]
        intro a ha
        obtain ⟨j, hj, rfl⟩ := List.mem_iff_getElem.1 ha
        simpa using hsm j hj hj
      have HF := Lib.hid hf
      clear hsm hf
      go_wp2
      go_ret
      exact ⟨by rw [HF.out]; rfl, rfl⟩
set_option maxHeartbeats 1000000 in
set_option maxRecDepth 100000 in
theorem requal_c (k k' e e' : Int) (neg neg' : Bool) (A A' : Option Addr) (c c' : Nat) (xs ys : List Nat) (w : World) (h : Rd w A c xs) (h' : Rd w A' c' ys) :
    Calls Tryz.prog 39 #[flV k neg e (.slice A xs.length c), flV k' neg' e' (.slice A' ys.length c')] w fun z w' => z = .returned (.bool (decide (k = k' ∧ neg = neg' ∧ e = e' ∧ xs = ys))) ∧ Ext w w' := by
  have hlx := h.len
  by_cases hk : k = k' ∧ neg = neg' ∧ e = e' ∧ xs.length = ys.length
  · obtain ⟨rfl, rfl, rfl, hlen⟩ := hk
    rw [show decide (k = k ∧ neg = neg ∧ e = e ∧ xs = ys) = decide (xs = ys) by simp]
    have hb : ((xs.length : Int) != (ys.length : Int)) = false := by rw [hlen]; simp
    have hb1 : (k != k) = false := by simp
    have hb2 : (neg != neg) = false := by simp
    have hb3 : (e != e) = false := by simp
    have HL := Lib.hid hlen
    clear hlen
    have hX := Br.new w (.int .i64 k) (.bool neg) (.int .i64 e) (.slice A xs.length c)
    have hY := Br.new (w.alloc (.cells #[.int .i64 k, .bool neg, .int .i64 e, .slice A xs.length c] 42)) (.int .i64 k) (.bool neg) (.int .i64 e) (.slice A' ys.length c')
    have hE := (((Ext.refl w).al (.cells #[.int .i64 k, .bool neg, .int .i64 e, .slice A xs.length c] 42)).al (.cells #[.int .i64 k, .bool neg, .int .i64 e, .slice A' ys.length c'] 42))
    have hX2 := hX.ext ((Ext.refl _).al (.cells #[.int .i64 k, .bool neg, .int .i64 e, .slice A' ys.length c'] 42))
    rw [World.size_alloc] at hY
    have HX := Lib.hid hX2
    have HY := Lib.hid hY
    have HE := Lib.hid hE
    clear hX hY hE hX2
    go_enter Tryz.func39, Tryz.ntmps39
    go_wp2
    have hX := HX.out
    have hY := HY.out
    have hE := HE.out
    generalize ((w.alloc (.cells #[.int .i64 k, .bool neg, .int .i64 e, .slice A xs.length c] 42)).alloc (.cells #[.int .i64 k, .bool neg, .int .i64 e, .slice A' ys.length c'] 42)) = W at *
    clear HX HY HE
    go_loopw [5] (fun v wr => ∃ i : Nat, i ≤ xs.length ∧ v = .int .i64 i ∧ xs.take i = ys.take i ∧ ∃ n, wr = W.drewN n) (fun v _ => xs.length - (intOf v).toNat)
    case atStart => exact ⟨0, Nat.zero_le _, rfl, rfl, 0, rfl⟩
    case round =>
      obtain ⟨i, hi, rfl, htk, n, rfl⟩ := hrel
      obtain ⟨x0, x1, x2, x3, -⟩ := hX.facts
      obtain ⟨y0, y1, y2, y3, -⟩ := hY.facts
      by_cases hlt : i < xs.length
      · obtain ⟨ad, rfl, hxc⟩ := (h.ext hE).cell i hlt
        obtain ⟨ad', rfl, hyc⟩ := (h'.ext hE).cell i (by have := HL.out; omega)
        have hlt2 : i < ys.length := by have := HL.out; omega
        have g0 : (0 : Int) ≤ (i : Int) := by omega
        have g1 : (i : Int) < (xs.length : Int) := by omega
        have g2 : (i : Int) < (ys.length : Int) := by omega
        by_cases hxy : xs.getD i 0 = ys.getD i 0
        · have hn : xs.take (i + 1) = ys.take (i + 1) := by
            rw [List.getD_eq_getElem?_getD, List.getD_eq_getElem?_getD, List.getElem?_eq_getElem hlt, List.getElem?_eq_getElem hlt2] at hxy
            rw [List.take_succ_eq_append_getElem hlt, List.take_succ_eq_append_getElem hlt2, htk, show xs[i] = ys[i] from hxy]
          rw [hxy] at hxc
          have HN := Lib.hid hn
          clear htk hn hxy
          generalize ys.getD i 0 = y at *
          have hne : ((y : Int) != (y : Int)) = false := by simp
          go_wp2
          go_quiet (fail)
          go_wp2
          go_roundw
          case rel => exact ⟨i + 1, hlt, by go_num, HN.out, _, rfl⟩
          case measure => simp [intOf]; omega
        · have hd : decide (xs = ys) = false := by rw [decide_eq_false_iff_not]; intro e; exact hxy (by rw [e])
          have hne : (((xs.getD i 0 : Nat) : Int) != ((ys.getD i 0 : Nat) : Int)) = true := by rw [bne_iff_ne]; omega
          have HD := Lib.hid hd
          clear htk hd hxy
          generalize xs.getD i 0 = x at *
          generalize ys.getD i 0 = y at *
          go_wp2
          go_quiet (fail)
          go_wp2
          go_ret
          exact ⟨by rw [HD.out]; rfl, (hE.drewN _).drewN _⟩
      · obtain rfl : i = xs.length := by omega
        have hd : decide (xs = ys) = true := by
          have e := HL.out
          rw [List.take_length, e, List.take_length] at htk
          simpa using htk
        have HD := Lib.hid hd
        clear htk hd
        go_wp2
        go_ret
        exact ⟨by rw [HD.out]; rfl, hE.drewN _⟩
  · have hd : decide (k = k' ∧ neg = neg' ∧ e = e' ∧ xs = ys) = false := by
      rw [decide_eq_false_iff_not]
      rintro ⟨h1, h2, h3, h4⟩
      exact hk ⟨h1, h2, h3, by rw [h4]⟩
    rw [hd]
    clear hd
    obtain ⟨b1, h1⟩ : ∃ b, (k != k') = b := ⟨_, rfl⟩
    obtain ⟨b2, h2⟩ : ∃ b, (neg != neg') = b := ⟨_, rfl⟩
    obtain ⟨b3, h3⟩ : ∃ b, (e != e') = b := ⟨_, rfl⟩
    obtain ⟨b4, h4⟩ : ∃ b, ((xs.length : Int) != (ys.length : Int)) = b := ⟨_, rfl⟩
    have hor : b1 = true ∨ (b1 = false ∧ b2 = true) ∨ (b1 = false ∧ b2 = false ∧ b3 = true) ∨ (b1 = false ∧ b2 = false ∧ b3 = false ∧ b4 = true) := by
      cases b1
      · cases b2
        · cases b3
          · cases b4
            · exfalso
              refine hk ⟨by simpa using h1, by simpa using h2, by simpa using h3, ?_⟩
              have : ¬ ((xs.length : Int) ≠ (ys.length : Int)) := by intro hh; rw [bne_iff_ne.2 hh] at h4; cases h4
              omega
            · simp
          · simp
        · simp
      · simp
    clear hk
    rcases hor with rfl | ⟨rfl, rfl⟩ | ⟨rfl, rfl, rfl⟩ | ⟨rfl, rfl, rfl, rfl⟩
    all_goals
      cases neg <;> cases neg'
    all_goals
      first
        | exact absurd h2 (by decide)
        | (clear h2
           go_enter Tryz.func39, Tryz.ntmps39
           go_wp2
           go_ret
           exact ⟨rfl, (by repeat (with_reducible first | exact Ext.refl _ | refine Ext.set ?_ (by simp) _ _ | refine Ext.al ?_ _ | refine Ext.drewN ?_ _ | refine Ext.drew ?_))⟩)
end Go.Proofs.YtlnfmngginihfaaGreatDoor
