/- Chapter 04's reference: Digits, Join. -/
import Derived.Test.YthbnkhgcfcigjaaJI
import Derived.Test.YthbnkhgcfcigjaaJL
import Derived.Test.YthbnkhgcfcigjaaR5
import Derived.Test.YthbnkhgcfcigjaaR7
import Derived.Deep.RegionLaw
set_option linter.unusedVariables false
set_option linter.unusedSimpArgs false
namespace Go.Proofs.Ythbnkhgcfcigjaa
open Go.RowKit

theorem add_nil (a : Addr) : a.add 0 = a := by unfold Addr.add; simp
theorem cn_mono {m n : Nat} (h : m ≤ n) : (cn m).length ≤ (cn n).length := (cn_len_le m _).2 (Nat.lt_of_le_of_lt h ((cn_len_le n _).1 (Nat.le_refl _)))
theorem digs_cap {P V t : Nat} (hP : 2 ^ 8 ≤ P) (h : V < B ^ t) : (digs P V).length ≤ 8 * t := by
  refine (digs_len_le (Nat.le_trans (by decide) hP)).2 (Nat.lt_of_lt_of_le h ?_)
  rw [Nat.pow_mul]
  refine Nat.pow_le_pow_left ?_ t
  have e : B = (2 ^ 8) ^ 8 := by rw [B_eq]
  rw [e]
  exact Nat.pow_le_pow_left hP 8
theorem Own.rd' {w : World} {base : Nat} {A : Option Addr} {n c : Nat} {xs : List Nat} (h : Own w base (.slice A n c) xs) : Rd w A c xs := by
  obtain ⟨A1, c1, e, hr⟩ := h.rd
  injection e with e1 e2 e3
  subst e1 e3
  exact hr
theorem Own.keptG {w w' : World} {base : Nat} {v : Value} {xs : List Nat} {row : Option Nat} (h : Own w base v xs) (hg : w.grownBy w' row) (hn : v.ownBlock ≠ row) : Own w' base v xs := ⟨h.own.kept hg (.inr hn), h.w64⟩
-- GEN
set_option maxHeartbeats 8000000 in
set_option maxRecDepth 100000 in
theorem rdigits04_8 (A : Option Addr) (c : Nat) (xs : List Nat) (w : World) (h : Rd w A c xs) (hl : xs.length ≤ 100000) :
    Calls Try.prog 44 #[.slice A xs.length c, .int .i64 8] w (Res w (digs 256 (val xs))) := by
  have htr := rtrim_c A c xs w h (by omega)
  have hlV : (cn (val xs)).length ≤ 100000 := Nat.le_trans ((cn_len_le _ _).2 (val_lt h.w64)) hl
  have hP8 : 2 ^ 8 ≤ 256 := by decide
  have hdvd : 256 ∣ B := ⟨B / 256, by rw [B_eq]⟩
  have hrg := fun A c n w h hl => rright_c A c (cn n) 8 w h (by omega) hl
  simp only [val_cn, show (2 : Nat) ^ 8 = 256 from rfl, show ((8 : Nat) : Int) = 8 from rfl] at hrg
  generalize val xs = V at *
  clear h hl
  go_enter Try.func44, Try.ntmps44
  go_wp2_with fail
  refine htr.mono ?_
  rintro z w1 ⟨v1, rfl, ho1, hE1⟩
  obtain ⟨A1, c1, rfl, hr1⟩ := ho1.rd
  go_wp2_with fail
  go_loopw [0, 5] (fun v0 v5 wr => ∃ (n : Nat) (out : List Nat) (A1 : Option Addr) (c1 : Nat) (A5 : Option Addr) (c5 bx : Nat), v0 = .slice A1 (cn n).length c1 ∧ Own wr bx (.slice A1 (cn n).length c1) (cn n) ∧ (∀ k, (Value.slice A5 out.length c5).ownBlock = some k → k < bx) ∧ n ≤ V ∧ out ++ digs 256 n = digs 256 V ∧ v5 = .slice A5 out.length c5 ∧ Own wr w.heap.size (.slice A5 out.length c5) out ∧ Ext w wr) (fun _ v _ => (digs 256 V).length - slen v)
  case atStart => exact ⟨V, [], A1, c1, none, 0, w.heap.size, rfl, ho1, (fun k hk => by simp [Value.ownBlock] at hk), Nat.le_refl _, rfl, rfl, Own.nil _ _, hE1⟩
  case round =>
    clear hr1 ho1 hE1 htr
    obtain ⟨n, out, A2, c2, A5, c5, bx, rfl, hox, hbx, hnV, heq, rfl, ho, hE⟩ := hrel
    have hr := hox.rd'
    have hlen : (cn n).length ≤ 100000 := Nat.le_trans (cn_mono hnV) hlV
    have hz := cn_len_zero n
    by_cases h0 : n = 0
    · subst h0
      rw [digs_zero, List.append_nil] at heq
      have hc0 : (cn 0).length = 0 := hz.2 rfl
      rw [hc0]
      have HO := Lib.hid ho
      have HEQ := Lib.hid heq
      clear hz hc0 hr heq ho hrg hox hbx
      go_wp2_with fail
      go_ret
      exact ⟨_, rfl, by rw [← HEQ.out]; exact HO.out, hE⟩
    · have hc0 : 0 < (cn n).length := by omega
      obtain ⟨ad, rfl, hx⟩ := hr.cell 0 hc0
      rw [add_nil] at hx
      have hx0 : (cn n).getD 0 0 = n % B := by rw [show cn n = n % B :: digs B (n / B) from digs_pos two_le_B (by omega)]; rfl
      rw [hx0] at hx
      have hd : n % B % 256 = n % 256 := Nat.mod_mod_of_dvd _ hdvd
      have hnx : (out ++ [n % 256]) ++ digs 256 (n / 256) = digs 256 V := by rw [← heq, List.append_assoc, digs_pos (n := n) (by omega) (by omega)]; rfl
      have hln := congrArg List.length hnx
      rw [List.length_append, List.length_append, List.length_singleton] at hln
      have hrr := fun A c w h => hrg A c n w h (by omega)
      have hdP : n % 256 < 256 := Nat.mod_lt _ (by omega)
      have hnn : n / 256 ≤ V := Nat.le_trans (Nat.div_le_self _ _) hnV
      have hwP : IntKind.u64.wrap 256 = 256 := by decide
      have hrem2 : ((n % B : Nat) : Int) % 256 = ((n % 256 : Nat) : Int) := by rw [← hd]; rfl
      have hrem : ((n % B : Nat) : Int).tmod (256 : Int) = ((n % 256 : Nat) : Int) := by rw [Int.tmod_eq_emod_of_nonneg (by omega)]; exact hrem2
      have hyB : n % B < B := Nat.mod_lt _ B_pos
      generalize n % B = y at *
      generalize n % 256 = d at *
      generalize n / 256 = n2 at *
      have hdB : d < B := by rw [B_eq]; omega
      have HNX := Lib.hid hnx
      have HLN := Lib.hid hln
      have HHL := Lib.hid hlen
      have hsz := hE.size
      have hol : out.length ≤ (digs 256 V).length := by omega
      have hcl : ((cn n).length : Int) ≤ 100000 := by omega
      have hDL : (digs 256 V).length ≤ 1000000 := Nat.le_trans (digs_cap hP8 ((cn_len_le V 100000).1 hlV)) (by omega)
      have HDL := Lib.hid hDL
      clear hz heq hnx hln hx0 hd hlen hrg hDL
      generalize cn n = N at *
      have hwd : IntKind.u64.wrap (d : Int) = (d : Int) := by rw [IntKind.wrap_u64]; omega
      have HO := Lib.hid ho
      have HOX := Lib.hid hox
      have NE := Lib.hid (show some ad.block ≠ (Value.slice A5 out.length c5).ownBlock from fun e => by
        have h1 := hbx _ e.symm
        have h2 := (hox.own.lt ad.block rfl).1
        omega)
      clear ho hox hbx hr
      go_wp2_with fail
      go_region_law
        ((refine st_append rfl _ _ _ rfl Try.underlying30 w.heap.size _ out rfl ((HO.out.ext ((Ext.refl _).al _)).drew) (some ⟨wr.heap.size, 0, none⟩) 1 1 [d] rfl rfl (Rd.nw1 wr d hdB).drew ?hb ?hl ?_; (case hb => simp; omega); (case hl => have := HDL.out; simp; omega); intro v' w1 ho hb1 hat hg; have hE1 : Ext w w1 := Below.trans ((hE.al _).drew) hb1; have hx1 := ((HOX.out.ext ((Ext.refl _).al _)).drew).keptG hg NE.out))
      obtain ⟨A7, c7, rfl, hr7⟩ := ho.rd
      have hlt := fun k hk => (ho.own.lt k hk).2
      have HLT := Lib.hid hlt
      clear hat hg hlt hr7
      go_wp2_with fail
      refine (hrr _ _ _ hx1.rd').mono ?_
      rintro z w2 ⟨v2, rfl, ho2, hE2⟩
      obtain ⟨A6, c6, rfl, hr6⟩ := ho2.rd
      go_wp2_with fail
      go_roundw
      case rel => exact ⟨n2, out ++ [d], A6, c6, A7, c7, w1.heap.size, rfl, ho2, HLT.out, hnn, HNX.out, by rw [List.length_append, List.length_singleton], ho.ext hE2, hE1.tr hE2⟩
      case measure => have := HLN.out; simp [slen]; omega
set_option maxHeartbeats 8000000 in
set_option maxRecDepth 100000 in
theorem rdigits04_16 (A : Option Addr) (c : Nat) (xs : List Nat) (w : World) (h : Rd w A c xs) (hl : xs.length ≤ 100000) :
    Calls Try.prog 44 #[.slice A xs.length c, .int .i64 16] w (Res w (digs 65536 (val xs))) := by
  have htr := rtrim_c A c xs w h (by omega)
  have hlV : (cn (val xs)).length ≤ 100000 := Nat.le_trans ((cn_len_le _ _).2 (val_lt h.w64)) hl
  have hP8 : 2 ^ 8 ≤ 65536 := by decide
  have hdvd : 65536 ∣ B := ⟨B / 65536, by rw [B_eq]⟩
  have hrg := fun A c n w h hl => rright_c A c (cn n) 16 w h (by omega) hl
  simp only [val_cn, show (2 : Nat) ^ 16 = 65536 from rfl, show ((16 : Nat) : Int) = 16 from rfl] at hrg
  generalize val xs = V at *
  clear h hl
  go_enter Try.func44, Try.ntmps44
  go_wp2_with fail
  refine htr.mono ?_
  rintro z w1 ⟨v1, rfl, ho1, hE1⟩
  obtain ⟨A1, c1, rfl, hr1⟩ := ho1.rd
  go_wp2_with fail
  go_loopw [0, 5] (fun v0 v5 wr => ∃ (n : Nat) (out : List Nat) (A1 : Option Addr) (c1 : Nat) (A5 : Option Addr) (c5 bx : Nat), v0 = .slice A1 (cn n).length c1 ∧ Own wr bx (.slice A1 (cn n).length c1) (cn n) ∧ (∀ k, (Value.slice A5 out.length c5).ownBlock = some k → k < bx) ∧ n ≤ V ∧ out ++ digs 65536 n = digs 65536 V ∧ v5 = .slice A5 out.length c5 ∧ Own wr w.heap.size (.slice A5 out.length c5) out ∧ Ext w wr) (fun _ v _ => (digs 65536 V).length - slen v)
  case atStart => exact ⟨V, [], A1, c1, none, 0, w.heap.size, rfl, ho1, (fun k hk => by simp [Value.ownBlock] at hk), Nat.le_refl _, rfl, rfl, Own.nil _ _, hE1⟩
  case round =>
    clear hr1 ho1 hE1 htr
    obtain ⟨n, out, A2, c2, A5, c5, bx, rfl, hox, hbx, hnV, heq, rfl, ho, hE⟩ := hrel
    have hr := hox.rd'
    have hlen : (cn n).length ≤ 100000 := Nat.le_trans (cn_mono hnV) hlV
    have hz := cn_len_zero n
    by_cases h0 : n = 0
    · subst h0
      rw [digs_zero, List.append_nil] at heq
      have hc0 : (cn 0).length = 0 := hz.2 rfl
      rw [hc0]
      have HO := Lib.hid ho
      have HEQ := Lib.hid heq
      clear hz hc0 hr heq ho hrg hox hbx
      go_wp2_with fail
      go_ret
      exact ⟨_, rfl, by rw [← HEQ.out]; exact HO.out, hE⟩
    · have hc0 : 0 < (cn n).length := by omega
      obtain ⟨ad, rfl, hx⟩ := hr.cell 0 hc0
      rw [add_nil] at hx
      have hx0 : (cn n).getD 0 0 = n % B := by rw [show cn n = n % B :: digs B (n / B) from digs_pos two_le_B (by omega)]; rfl
      rw [hx0] at hx
      have hd : n % B % 65536 = n % 65536 := Nat.mod_mod_of_dvd _ hdvd
      have hnx : (out ++ [n % 65536]) ++ digs 65536 (n / 65536) = digs 65536 V := by rw [← heq, List.append_assoc, digs_pos (n := n) (by omega) (by omega)]; rfl
      have hln := congrArg List.length hnx
      rw [List.length_append, List.length_append, List.length_singleton] at hln
      have hrr := fun A c w h => hrg A c n w h (by omega)
      have hdP : n % 65536 < 65536 := Nat.mod_lt _ (by omega)
      have hnn : n / 65536 ≤ V := Nat.le_trans (Nat.div_le_self _ _) hnV
      have hwP : IntKind.u64.wrap 65536 = 65536 := by decide
      have hrem2 : ((n % B : Nat) : Int) % 65536 = ((n % 65536 : Nat) : Int) := by rw [← hd]; rfl
      have hrem : ((n % B : Nat) : Int).tmod (65536 : Int) = ((n % 65536 : Nat) : Int) := by rw [Int.tmod_eq_emod_of_nonneg (by omega)]; exact hrem2
      have hyB : n % B < B := Nat.mod_lt _ B_pos
      generalize n % B = y at *
      generalize n % 65536 = d at *
      generalize n / 65536 = n2 at *
      have hdB : d < B := by rw [B_eq]; omega
      have HNX := Lib.hid hnx
      have HLN := Lib.hid hln
      have HHL := Lib.hid hlen
      have hsz := hE.size
      have hol : out.length ≤ (digs 65536 V).length := by omega
      have hcl : ((cn n).length : Int) ≤ 100000 := by omega
      have hDL : (digs 65536 V).length ≤ 1000000 := Nat.le_trans (digs_cap hP8 ((cn_len_le V 100000).1 hlV)) (by omega)
      have HDL := Lib.hid hDL
      clear hz heq hnx hln hx0 hd hlen hrg hDL
      generalize cn n = N at *
      have hwd : IntKind.u64.wrap (d : Int) = (d : Int) := by rw [IntKind.wrap_u64]; omega
      have HO := Lib.hid ho
      have HOX := Lib.hid hox
      have NE := Lib.hid (show some ad.block ≠ (Value.slice A5 out.length c5).ownBlock from fun e => by
        have h1 := hbx _ e.symm
        have h2 := (hox.own.lt ad.block rfl).1
        omega)
      clear ho hox hbx hr
      go_wp2_with fail
      go_region_law
        ((refine st_append rfl _ _ _ rfl Try.underlying30 w.heap.size _ out rfl ((HO.out.ext ((Ext.refl _).al _)).drew) (some ⟨wr.heap.size, 0, none⟩) 1 1 [d] rfl rfl (Rd.nw1 wr d hdB).drew ?hb ?hl ?_; (case hb => simp; omega); (case hl => have := HDL.out; simp; omega); intro v' w1 ho hb1 hat hg; have hE1 : Ext w w1 := Below.trans ((hE.al _).drew) hb1; have hx1 := ((HOX.out.ext ((Ext.refl _).al _)).drew).keptG hg NE.out))
      obtain ⟨A7, c7, rfl, hr7⟩ := ho.rd
      have hlt := fun k hk => (ho.own.lt k hk).2
      have HLT := Lib.hid hlt
      clear hat hg hlt hr7
      go_wp2_with fail
      refine (hrr _ _ _ hx1.rd').mono ?_
      rintro z w2 ⟨v2, rfl, ho2, hE2⟩
      obtain ⟨A6, c6, rfl, hr6⟩ := ho2.rd
      go_wp2_with fail
      go_roundw
      case rel => exact ⟨n2, out ++ [d], A6, c6, A7, c7, w1.heap.size, rfl, ho2, HLT.out, hnn, HNX.out, by rw [List.length_append, List.length_singleton], ho.ext hE2, hE1.tr hE2⟩
      case measure => have := HLN.out; simp [slen]; omega
set_option maxHeartbeats 8000000 in
set_option maxRecDepth 100000 in
theorem rdigits04_32 (A : Option Addr) (c : Nat) (xs : List Nat) (w : World) (h : Rd w A c xs) (hl : xs.length ≤ 100000) :
    Calls Try.prog 44 #[.slice A xs.length c, .int .i64 32] w (Res w (digs 4294967296 (val xs))) := by
  have htr := rtrim_c A c xs w h (by omega)
  have hlV : (cn (val xs)).length ≤ 100000 := Nat.le_trans ((cn_len_le _ _).2 (val_lt h.w64)) hl
  have hP8 : 2 ^ 8 ≤ 4294967296 := by decide
  have hdvd : 4294967296 ∣ B := ⟨B / 4294967296, by rw [B_eq]⟩
  have hrg := fun A c n w h hl => rright_c A c (cn n) 32 w h (by omega) hl
  simp only [val_cn, show (2 : Nat) ^ 32 = 4294967296 from rfl, show ((32 : Nat) : Int) = 32 from rfl] at hrg
  generalize val xs = V at *
  clear h hl
  go_enter Try.func44, Try.ntmps44
  go_wp2_with fail
  refine htr.mono ?_
  rintro z w1 ⟨v1, rfl, ho1, hE1⟩
  obtain ⟨A1, c1, rfl, hr1⟩ := ho1.rd
  go_wp2_with fail
  go_loopw [0, 5] (fun v0 v5 wr => ∃ (n : Nat) (out : List Nat) (A1 : Option Addr) (c1 : Nat) (A5 : Option Addr) (c5 bx : Nat), v0 = .slice A1 (cn n).length c1 ∧ Own wr bx (.slice A1 (cn n).length c1) (cn n) ∧ (∀ k, (Value.slice A5 out.length c5).ownBlock = some k → k < bx) ∧ n ≤ V ∧ out ++ digs 4294967296 n = digs 4294967296 V ∧ v5 = .slice A5 out.length c5 ∧ Own wr w.heap.size (.slice A5 out.length c5) out ∧ Ext w wr) (fun _ v _ => (digs 4294967296 V).length - slen v)
  case atStart => exact ⟨V, [], A1, c1, none, 0, w.heap.size, rfl, ho1, (fun k hk => by simp [Value.ownBlock] at hk), Nat.le_refl _, rfl, rfl, Own.nil _ _, hE1⟩
  case round =>
    clear hr1 ho1 hE1 htr
    obtain ⟨n, out, A2, c2, A5, c5, bx, rfl, hox, hbx, hnV, heq, rfl, ho, hE⟩ := hrel
    have hr := hox.rd'
    have hlen : (cn n).length ≤ 100000 := Nat.le_trans (cn_mono hnV) hlV
    have hz := cn_len_zero n
    by_cases h0 : n = 0
    · subst h0
      rw [digs_zero, List.append_nil] at heq
      have hc0 : (cn 0).length = 0 := hz.2 rfl
      rw [hc0]
      have HO := Lib.hid ho
      have HEQ := Lib.hid heq
      clear hz hc0 hr heq ho hrg hox hbx
      go_wp2_with fail
      go_ret
      exact ⟨_, rfl, by rw [← HEQ.out]; exact HO.out, hE⟩
    · have hc0 : 0 < (cn n).length := by omega
      obtain ⟨ad, rfl, hx⟩ := hr.cell 0 hc0
      rw [add_nil] at hx
      have hx0 : (cn n).getD 0 0 = n % B := by rw [show cn n = n % B :: digs B (n / B) from digs_pos two_le_B (by omega)]; rfl
      rw [hx0] at hx
      have hd : n % B % 4294967296 = n % 4294967296 := Nat.mod_mod_of_dvd _ hdvd
      have hnx : (out ++ [n % 4294967296]) ++ digs 4294967296 (n / 4294967296) = digs 4294967296 V := by rw [← heq, List.append_assoc, digs_pos (n := n) (by omega) (by omega)]; rfl
      have hln := congrArg List.length hnx
      rw [List.length_append, List.length_append, List.length_singleton] at hln
      have hrr := fun A c w h => hrg A c n w h (by omega)
      have hdP : n % 4294967296 < 4294967296 := Nat.mod_lt _ (by omega)
      have hnn : n / 4294967296 ≤ V := Nat.le_trans (Nat.div_le_self _ _) hnV
      have hwP : IntKind.u64.wrap 4294967296 = 4294967296 := by decide
      have hrem2 : ((n % B : Nat) : Int) % 4294967296 = ((n % 4294967296 : Nat) : Int) := by rw [← hd]; rfl
      have hrem : ((n % B : Nat) : Int).tmod (4294967296 : Int) = ((n % 4294967296 : Nat) : Int) := by rw [Int.tmod_eq_emod_of_nonneg (by omega)]; exact hrem2
      have hyB : n % B < B := Nat.mod_lt _ B_pos
      generalize n % B = y at *
      generalize n % 4294967296 = d at *
      generalize n / 4294967296 = n2 at *
      have hdB : d < B := by rw [B_eq]; omega
      have HNX := Lib.hid hnx
      have HLN := Lib.hid hln
      have HHL := Lib.hid hlen
      have hsz := hE.size
      have hol : out.length ≤ (digs 4294967296 V).length := by omega
      have hcl : ((cn n).length : Int) ≤ 100000 := by omega
      have hDL : (digs 4294967296 V).length ≤ 1000000 := Nat.le_trans (digs_cap hP8 ((cn_len_le V 100000).1 hlV)) (by omega)
      have HDL := Lib.hid hDL
      clear hz heq hnx hln hx0 hd hlen hrg hDL
      generalize cn n = N at *
      have hwd : IntKind.u64.wrap (d : Int) = (d : Int) := by rw [IntKind.wrap_u64]; omega
      have HO := Lib.hid ho
      have HOX := Lib.hid hox
      have NE := Lib.hid (show some ad.block ≠ (Value.slice A5 out.length c5).ownBlock from fun e => by
        have h1 := hbx _ e.symm
        have h2 := (hox.own.lt ad.block rfl).1
        omega)
      clear ho hox hbx hr
      go_wp2_with fail
      go_region_law
        ((refine st_append rfl _ _ _ rfl Try.underlying30 w.heap.size _ out rfl ((HO.out.ext ((Ext.refl _).al _)).drew) (some ⟨wr.heap.size, 0, none⟩) 1 1 [d] rfl rfl (Rd.nw1 wr d hdB).drew ?hb ?hl ?_; (case hb => simp; omega); (case hl => have := HDL.out; simp; omega); intro v' w1 ho hb1 hat hg; have hE1 : Ext w w1 := Below.trans ((hE.al _).drew) hb1; have hx1 := ((HOX.out.ext ((Ext.refl _).al _)).drew).keptG hg NE.out))
      obtain ⟨A7, c7, rfl, hr7⟩ := ho.rd
      have hlt := fun k hk => (ho.own.lt k hk).2
      have HLT := Lib.hid hlt
      clear hat hg hlt hr7
      go_wp2_with fail
      refine (hrr _ _ _ hx1.rd').mono ?_
      rintro z w2 ⟨v2, rfl, ho2, hE2⟩
      obtain ⟨A6, c6, rfl, hr6⟩ := ho2.rd
      go_wp2_with fail
      go_roundw
      case rel => exact ⟨n2, out ++ [d], A6, c6, A7, c7, w1.heap.size, rfl, ho2, HLT.out, hnn, HNX.out, by rw [List.length_append, List.length_singleton], ho.ext hE2, hE1.tr hE2⟩
      case measure => have := HLN.out; simp [slen]; omega
-- NEG
end Go.Proofs.Ythbnkhgcfcigjaa
