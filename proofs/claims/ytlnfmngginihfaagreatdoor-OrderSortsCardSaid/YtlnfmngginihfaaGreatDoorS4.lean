/- the reference's formats: Right, Greatest, Least, Tiny, Large, In, Check. -/
import Derived.Test.YtlnfmngginihfaaGreatDoorS2
import Derived.Test.YtlnfmngginihfaaGreatDoorB0
set_option linter.unusedVariables false
set_option linter.unusedSimpArgs false
namespace Go.Proofs.YtlnfmngginihfaaGreatDoor
open Go.RowKit
attribute [local go_sem ↓] Go.wp_at_zero Go.wp_at_succ

/-- A box of a reference's format. -/
structure Bg (w : World) (g : Nat) (a b : Value) : Prop where
  h : w.heap[g]? = some (.cells #[a, b] 60 (0, 0))
theorem Bg.ext {w w' : World} {g : Nat} {a b : Value} (x : Bg w g a b) (h : Ext w w') : Bg w' g a b := ⟨(h.block g (Array.getElem?_eq_some_iff.1 x.h).1).trans x.h⟩
theorem Bg.lt {w : World} {g : Nat} {a b : Value} (x : Bg w g a b) : g < w.heap.size := (Array.getElem?_eq_some_iff.1 x.h).1
theorem Bg.facts {w : World} {g : Nat} {a b : Value} (x : Bg w g a b) : w.cell? ⟨g, 0, none⟩ = some a ∧ w.cell? ⟨g, 1, none⟩ = some b := by
  have h := x.h
  refine ⟨?_, ?_⟩ <;> rw [cell_of_row w g _ _ _ _ h] <;> rfl
theorem Bg.new (w : World) (a b : Value) : Bg (w.alloc (.cells #[a, b] 60)) w.heap.size a b := ⟨heap_alloc_new w _⟩

set_option maxHeartbeats 1000000 in
set_option maxRecDepth 100000 in
theorem rright15_c (k p : Int) (w : World) : Calls Tryz.prog 34 #[.agg #[.int .i64 k, .int .i64 p]] w fun z w' => z = .returned (.bool (decide (Rgt k p))) ∧ Ext w w' := by
  obtain ⟨b1, h1⟩ : ∃ b, decide (2 ≤ k) = b := ⟨_, rfl⟩
  obtain ⟨b2, h2⟩ : ∃ b, decide (k ≤ 15) = b := ⟨_, rfl⟩
  obtain ⟨b3, h3⟩ : ∃ b, decide (2 ≤ p) = b := ⟨_, rfl⟩
  obtain ⟨b4, h4⟩ : ∃ b, decide (p ≤ 256) = b := ⟨_, rfl⟩
  have hd : decide (Rgt k p) = (b1 && b2 && b3 && b4) := by
    subst h1 h2 h3 h4
    rw [Bool.eq_iff_iff, decide_eq_true_iff]
    simp [Rgt, and_assoc]
  rw [hd]
  clear hd
  cases b1 <;> cases b2 <;> cases b3 <;> cases b4
  all_goals
    go_enter Tryz.func34, Tryz.ntmps34
    go_wp2
    go_ret
    exact ⟨rfl, (Ext.refl w).al _⟩
set_option maxHeartbeats 1000000 in
set_option maxRecDepth 100000 in
theorem rgreat_c (k p : Int) (w : World) (h1 : 2 ≤ k) (h2 : k ≤ 15) : Calls Tryz.prog 59 #[.agg #[.int .i64 k, .int .i64 p]] w fun z w' => z = .returned (.int .i64 (gr k)) ∧ Ext w w' := by
  have hg := gr_bd h1 h2
  obtain ⟨n, rfl⟩ := Int.eq_ofNat_of_zero_le (show 0 ≤ k by omega)
  obtain ⟨g, hgd⟩ : ∃ g, gr (n : Int) = g := ⟨_, rfl⟩
  have hsh : (2 : Int) ^ (n - 1) = g + 1 := by rw [← hgd]; unfold gr; rw [Int.toNat_natCast]; omega
  rw [hgd] at hg ⊢
  obtain ⟨hg1, hg2⟩ := hg
  clear hgd
  go_enter Tryz.func59, Tryz.ntmps59
  go_wp2
  go_ret
  exact ⟨rfl, (Ext.refl w).al _⟩
set_option maxHeartbeats 1000000 in
set_option maxRecDepth 100000 in
theorem rleast_c (k p : Int) (w : World) (h1 : 2 ≤ k) (h2 : k ≤ 15) : Calls Tryz.prog 85 #[.agg #[.int .i64 k, .int .i64 p]] w fun z w' => z = .returned (.int .i64 (le k)) ∧ Ext w w' := by
  have hgc := fun w => rgreat_c k p w h1 h2
  have hg := gr_bd h1 h2
  rw [show le k = 1 - gr k from rfl]
  generalize gr k = g at *
  clear h1 h2
  go_enter Tryz.func85, Tryz.ntmps85
  go_wp2_with (go_at_call 59; refine (hgc _).mono ?_; rintro z w1 ⟨rfl, hb⟩)
  go_ret
  exact ⟨rfl, ((Ext.refl w).al _).tr hb⟩
set_option maxHeartbeats 1000000 in
set_option maxRecDepth 100000 in
theorem rtiny_c (k p : Int) (w : World) (hR : Rgt k p) : Calls Tryz.prog 58 #[.agg #[.int .i64 k, .int .i64 p]] w fun z w' => z = .returned (.int .i64 (ti k p)) ∧ Ext w w' := by
  obtain ⟨h1, h2, h3, h4⟩ := hR
  have hgc := fun w => rleast_c k p w h1 h2
  have hg := gr_bd h1 h2
  have hle : le k = 1 - gr k := rfl
  rw [show ti k p = le k - (p - 1) from rfl]
  have hb1 : -16382 ≤ le k ∧ le k ≤ 0 := by omega
  generalize le k = l at *
  clear hle hg h1 h2
  have hF := Bg.new w (.int .i64 k) (.int .i64 p)
  have hA := (Ext.refl w).al (.cells #[.int .i64 k, .int .i64 p] 60)
  have e1 : IntKind.i64.wrap (p - 1) = p - 1 := by rw [IntKind.wrap_i64]; omega
  have e2 : IntKind.i64.wrap (l - (p - 1)) = l - (p - 1) := by rw [IntKind.wrap_i64]; omega
  have HF := Lib.hid hF
  have HA := Lib.hid hA
  clear hF hA h3 h4 hb1
  go_enter Tryz.func58, Tryz.ntmps58
  go_wp2_with fail
  have hF := HF.out
  have hA := HA.out
  clear HF HA
  generalize w.alloc (.cells #[.int .i64 k, .int .i64 p] 60) = W at *
  obtain ⟨f0, f1⟩ := hF.facts
  go_region_held3 (fun w' => w'.cell? ⟨w.heap.size, 0, none⟩ = some (.int .i64 k) ∧ w'.cell? ⟨w.heap.size, 1, none⟩ = some (.int .i64 p))
    (first | go_keep | (go_split_ands; refine ⟨?_, ?_⟩ <;> (refine Ext.cell (w := W) (by assumption) ?_; assumption)))
    ((go_at_call 85; (with_reducible refine (hgc _).mono ?_); rintro z w2 ⟨rfl, hb⟩; have hE2 : Ext W w2 := (Ext.refl W).drew.tr hb))
  go_wp2
  go_ret
  exact ⟨rfl, hA.tr hE2⟩
theorem rlargef_c (k e : Int) (neg : Bool) (A : Option Addr) (n c : Nat) (w : World) : Calls Tryz.prog 33 #[flV k neg e (.slice A n c)] w fun z w' => z = .returned (.bool (decide (4096 < n))) ∧ Ext w w' := by
  have h1 := fun w => rlarge_c A c n w
  generalize decide (4096 < n) = b at *
  go_enter Tryz.func33, Tryz.ntmps33
  go_wp2_with (go_at_call 55; refine (h1 _).mono ?_; rintro z w1 ⟨rfl, rfl⟩)
  go_ret
  exact ⟨rfl, (Ext.refl w).al _⟩
set_option maxHeartbeats 1000000 in
set_option maxRecDepth 100000 in
theorem rin_c (k p : Int) (hR : Rgt k p) (kd e : Int) (neg : Bool) (A : Option Addr) (c : Nat) (xs : List Nat) (w : World) (h : Rd w A c xs) (hl : xs.length ≤ 4096) (f : Fl) (hf : canon kd neg e (val xs) = some f) :
    Calls Tryz.prog 36 #[.agg #[.int .i64 k, .int .i64 p], flV kd neg e (.slice A xs.length c)] w fun z w' => z = .returned (.bool (decide (InF k p f))) ∧ Ext w w' := by
  have hF := Bg.new w (.int .i64 k) (.int .i64 p)
  have hA := (Ext.refl w).al (.cells #[.int .i64 k, .int .i64 p] 60)
  have hF2 := hF.ext ((Ext.refl _).al (.cells #[.int .i64 kd, .bool neg, .int .i64 e, .slice A xs.length c] 42))
  have hA2 := hA.al (.cells #[.int .i64 kd, .bool neg, .int .i64 e, .slice A xs.length c] 42)
  have HF := Lib.hid hF2
  have HA := Lib.hid hA2
  clear hF hA hF2 hA2
  by_cases hk : kd = 1
  · subst hk
    obtain ⟨rfl, h0, he1, he2⟩ := canon_fin hf
    have ho := fun w h => rodd_c 1 e neg A c xs w h hl he1 (by omega)
    have hml : (cn (val xs / 2 ^ tz (val xs))).length ≤ 4096 := by
      have := cn_len_of_le h.w64 (Nat.div_le_self (val xs) (2 ^ tz (val xs)))
      omega
    have hbl : bl (val xs / 2 ^ tz (val xs)) ≤ 262144 := by
      have h1 := bl_mono (Nat.div_le_self (val xs) (2 ^ tz (val xs)))
      have h2 := bl_val_le h.w64
      omega
    have htn := fun w => rtiny_c k p w hR
    have hgt := fun w => rgreat_c k p w hR.1 hR.2.1
    have hg := gr_bd hR.1 hR.2.1
    have hlen := fun A2 c2 w h => rlen_c A2 c2 (cn (val xs / 2 ^ tz (val xs))) w h (by omega)
    rw [val_cn] at hlen
    have hd : decide (InF k p ⟨1, neg, e + tz (val xs), val xs / 2 ^ tz (val xs)⟩) = (decide ((bl (val xs / 2 ^ tz (val xs)) : Int) ≤ p) && decide (ti k p ≤ e + tz (val xs)) && decide ((bl (val xs / 2 ^ tz (val xs)) : Int) + (e + tz (val xs)) ≤ gr k + 1)) := by
      rw [Bool.eq_iff_iff]
      simp only [InF, forall_const, Bool.and_eq_true, decide_eq_true_iff]
      omega
    rw [hd]
    have hel : -1048576 ≤ e + (tz (val xs) : Int) := by omega
    clear hd hf h0 he1 hR
    generalize val xs / 2 ^ tz (val xs) = q at *
    generalize e + (tz (val xs) : Int) = ex at *
    generalize bl q = l at *
    generalize gr k = G at *
    generalize ti k p = T at *
    have w1 : IntKind.i64.wrap ((l : Int) + ex) = l + ex := by rw [IntKind.wrap_i64]; omega
    have w2 : IntKind.i64.wrap (G + 1) = G + 1 := by rw [IntKind.wrap_i64]; omega
    obtain ⟨b1, hb1⟩ : ∃ b, decide ((l : Int) ≤ p) = b := ⟨_, rfl⟩
    obtain ⟨b2, hb2⟩ : ∃ b, decide (T ≤ ex) = b := ⟨_, rfl⟩
    obtain ⟨b3, hb3⟩ : ∃ b, decide ((l : Int) + ex ≤ G + 1) = b := ⟨_, rfl⟩
    rw [hb1, hb2, hb3]
    clear hg hbl he2 hel
    go_enter Tryz.func36, Tryz.ntmps36
    go_wp2_with fail
    refine (ho _ (h.ext HA.out)).mono ?_
    rintro z w1 ⟨v, rfl, hov, hb⟩
    obtain ⟨A2, c2, rfl, hr2⟩ := hov.rd
    have hF := HF.out.ext hb
    have hE := HA.out.tr hb
    obtain ⟨f0, f1⟩ := hF.facts
    go_wp2_with fail
    clear HF HA ho hb hov
    have f0' := Later.cell f0
    have f1' := Later.cell f1
    cases b1 <;> cases b2 <;> cases b3
    all_goals
      refine wp_region_later (by kernel_rfl) (by kernel_rfl) ?_
      repeat (go_big_quiet_step (first
        | (go_at_call 57; refine Calls.later_same (hlen A2 c2 _ (hr2.ext (Later.h _))))
        | (go_at_call 58; refine Calls.later (htn _))
        | (go_at_call 59; refine Calls.later (hgt _))))
      refine wpQuiet_nil ?_
      intro _ hw'
      obtain ⟨⟨wq, hq⟩, rfl⟩ := hw'
      go_wp2
      go_ret
      exact ⟨rfl, hE.tr hq⟩
  · have hk2 := canon_kind hf
    have hd : decide (InF k p f) = true := by rw [decide_eq_true_iff]; intro h1; omega
    rw [hd]
    have hb : (kd != 1) = true := by rw [bne_iff_ne]; exact hk
    have hE := HA.out
    clear hd hk hf hk2 HF HA
    go_enter Tryz.func36, Tryz.ntmps36
    go_wp2
    go_ret
    exact ⟨rfl, hE⟩
/-- The error of a format, and of floats of it (with few words). -/
def chkS (k p : Int) (l : List FA) : Int := if Rgt k p then (if l.all (fun a => (holdS k p a.can).isSome) then 0 else 151) else 150
theorem holdS_isSome {k p : Int} {o : Option Fl} : (holdS k p o).isSome = match o with | none => false | some f => decide (InF k p f) := by
  cases o with
  | none => rfl
  | some f =>
    unfold holdS
    simp only [Option.bind_some]
    by_cases h : InF k p f <;> simp [h]
set_option maxHeartbeats 4000000 in
set_option maxRecDepth 100000 in
theorem rcheck15_c (k p : Int) (A : Option Addr) (c : Nat) (l : List FA) (w : World) (h : FRd w A c l) (hsm : ∀ i (hi : i < l.length), l[i].xs.length ≤ 4096) :
    Calls Tryz.prog 19 #[.agg #[.int .i64 k, .int .i64 p], .slice A l.length c] w fun z w' => z = .returned (.int .i64 (chkS k p l)) ∧ Ext w w' := by
  have hl := h.len
  have hF0 := Bg.new w (.int .i64 k) (.int .i64 p)
  have hA0 := (Ext.refl w).al (.cells #[.int .i64 k, .int .i64 p] 60)
  have HF0 := Lib.hid hF0
  have HA0 := Lib.hid hA0
  have HSM := Lib.hid hsm
  clear hF0 hA0 hsm
  go_enter Tryz.func19, Tryz.ntmps19
  go_wp2
  go_loopw [5] (fun v wr => ∃ i : Nat, i ≤ l.length ∧ v = .int .i64 i ∧ Ext w wr ∧ Bg wr w.heap.size (.int .i64 k) (.int .i64 p)) (fun v _ => l.length - (intOf v).toNat)
  case atStart => exact ⟨0, Nat.zero_le _, rfl, HA0.out, HF0.out⟩
  case round =>
    clear HA0 HF0
    obtain ⟨i, hi, rfl, hE, hF⟩ := hrel
    by_cases hlt : i < l.length
    · obtain ⟨ad, rfl, h0, h1, h2, h3, hr⟩ := h.cell i hlt
      replace h0 := hE.cell h0
      replace h1 := hE.cell h1
      replace h2 := hE.cell h2
      replace h3 := hE.cell h3
      have hidx : ((i : Int) * 4).toNat = i * 4 := by omega
      have hlg := fun w => rlargef_c l[i].k l[i].e l[i].neg l[i].A l[i].xs.length l[i].c w
      rw [show decide (4096 < l[i].xs.length) = false by have := HSM.out i hlt; simp; omega] at hlg
      go_wp2_with (go_at_call 33; refine (hlg _).mono ?_; rintro e w2 ⟨rfl, hb2⟩)
      go_roundw
      case rel => exact ⟨i + 1, hlt, by go_num, hE.tr hb2, hF.ext hb2⟩
      case measure => simp [intOf]; omega
    · obtain rfl : i = l.length := by omega
      obtain ⟨f0, f1⟩ := hF.facts
      have hrt := fun w => rright15_c k p w
      by_cases hR : Rgt k p
      · rw [show decide (Rgt k p) = true by simpa using hR] at hrt
        have hch : chkS k p l = if l.all (fun a => (holdS k p a.can).isSome) then 0 else 151 := if_pos hR
        have HR := Lib.hid hR
        have HCH := Lib.hid hch
        clear hR hch
        go_wp2_with (go_at_call 34; refine (hrt _).mono ?_; rintro e w2 ⟨rfl, hb2⟩)
        have HE := Lib.hid (hE.tr hb2)
        have HF := Lib.hid (hF.ext hb2)
        clear hE hF f0 f1 hb2
        go_loopw [6] (fun v wr => ∃ i : Nat, i ≤ l.length ∧ v = .int .i64 i ∧ (∀ j (hj : j < l.length), j < i → (holdS k p l[j].can).isSome = true) ∧ Ext w wr ∧ Bg wr w.heap.size (.int .i64 k) (.int .i64 p)) (fun v _ => l.length - (intOf v).toNat)
        case atStart => exact ⟨0, Nat.zero_le _, rfl, fun j _ hj => absurd hj (by omega), HE.out, HF.out⟩
        case round =>
          clear HE HF
          obtain ⟨i, hi, rfl, hok, hE, hF⟩ := hrel
          by_cases hlt : i < l.length
          · obtain ⟨ad, rfl, h0, h1, h2, h3, hr⟩ := h.cell i hlt
            replace h0 := hE.cell h0
            replace h1 := hE.cell h1
            replace h2 := hE.cell h2
            replace h3 := hE.cell h3
            have hidx : ((i : Int) * 4).toNat = i * 4 := by omega
            obtain ⟨f0, f1⟩ := hF.facts
            have hgd := fun (w : World) (hr : Rd w l[i].A l[i].c l[i].xs) => rgood_c l[i].k l[i].e l[i].neg l[i].A l[i].c l[i].xs w hr (HSM.out i hlt)
            have hin := fun (f : Fl) (hf : canon l[i].k l[i].neg l[i].e (val l[i].xs) = some f) (w : World) (hr : Rd w l[i].A l[i].c l[i].xs) => rin_c k p HR.out l[i].k l[i].e l[i].neg l[i].A l[i].c l[i].xs w hr (HSM.out i hlt) f hf
            have hhs := holdS_isSome (k := k) (p := p) (o := l[i].can)
            have hcan : l[i].can = canon l[i].k l[i].neg l[i].e (val l[i].xs) := rfl
            rw [hcan] at hhs
            have hno : (holdS k p l[i].can).isSome = false → chkS k p l = 151 := fun hh => by
              rw [HCH.out, if_neg]
              intro hall
              rw [List.all_eq_true] at hall
              have := hall l[i] (List.getElem_mem hlt)
              rw [hh] at this; cases this
            have hyes : (holdS k p l[i].can).isSome = true → ∀ j (hj : j < l.length), j < i + 1 → (holdS k p l[j].can).isSome = true := fun hh j hj hji => by
              rcases Nat.lt_or_ge j i with h4 | h4
              · exact hok j hj h4
              · have e : j = i := by omega
                subst e; exact hh
            rw [hcan] at hno hyes
            have HNO := Lib.hid hno
            have HYES := Lib.hid hyes
            clear hno hyes hcan hok
            have g0 : (0 : Int) ≤ (i : Int) := by omega
            have g1 : (i : Int) < (l.length : Int) := by omega
            obtain ⟨o, ho⟩ : ∃ o, canon l[i].k l[i].neg l[i].e (val l[i].xs) = o := ⟨_, rfl⟩
            rw [ho] at hgd hhs
            cases o with
            | none =>
              simp only [Option.isSome] at hgd
              have HC := Lib.hid (HNO.out (by rw [ho]; rfl))
              clear ho hhs hin HNO HYES
              have q0 := Later.cell h0
              have q1 := Later.cell h1
              have q2 := Later.cell h2
              have q3 := Later.cell h3
              have f0' := Later.cell f0
              have f1' := Later.cell f1
              go_wp2_with fail
              refine wp_region_later (by kernel_rfl) (by kernel_rfl) ?_
              repeat (go_big_quiet_step (first
                | (go_at_call 35; refine Calls.later (hgd _ (hr.ext (hE.tr (Later.h _)))))))
              refine wpQuiet_nil ?_
              intro _ hw'
              obtain ⟨⟨wq, hq⟩, rfl⟩ := hw'
              go_wp2
              go_ret
              exact ⟨by rw [HC.out]; rfl, hE.tr hq⟩
            | some f =>
              have hin1 := hin f ho
              clear hin
              simp only [Option.isSome] at hgd
              have q0 := Later.cell h0
              have q1 := Later.cell h1
              have q2 := Later.cell h2
              have q3 := Later.cell h3
              have f0' := Later.cell f0
              have f1' := Later.cell f1
              by_cases hI : InF k p f
              · rw [show decide (InF k p f) = true by simpa using hI] at hin1
                have HY := Lib.hid (HYES.out (by rw [ho, holdS_isSome]; simpa using hI))
                clear ho hhs hI HNO HYES
                go_wp2_with fail
                refine wp_region_later (by kernel_rfl) (by kernel_rfl) ?_
                repeat (go_big_quiet_step (first
                  | (go_at_call 35; refine Calls.later (hgd _ (hr.ext (hE.tr (Later.h _)))))
                  | (go_at_call 36; refine Calls.later (hin1 _ (hr.ext (hE.tr (Later.h _)))))))
                refine wpQuiet_nil ?_
                intro _ hw'
                obtain ⟨⟨wq, hq⟩, rfl⟩ := hw'
                go_wp2
                go_roundw
                case rel => exact ⟨i + 1, hlt, by go_num, HY.out, hE.tr hq, hF.ext hq⟩
                case measure => simp [intOf]; omega
              · rw [show decide (InF k p f) = false by simpa using hI] at hin1
                have HC := Lib.hid (HNO.out (by rw [ho, holdS_isSome]; simpa using hI))
                clear ho hhs hI HNO HYES
                go_wp2_with fail
                refine wp_region_later (by kernel_rfl) (by kernel_rfl) ?_
                repeat (go_big_quiet_step (first
                  | (go_at_call 35; refine Calls.later (hgd _ (hr.ext (hE.tr (Later.h _)))))
                  | (go_at_call 36; refine Calls.later (hin1 _ (hr.ext (hE.tr (Later.h _)))))))
                refine wpQuiet_nil ?_
                intro _ hw'
                obtain ⟨⟨wq, hq⟩, rfl⟩ := hw'
                go_wp2
                go_ret
                exact ⟨by rw [HC.out]; rfl, hE.tr hq⟩
          · obtain rfl : i = l.length := by omega
            have hch : chkS k p l = 0 := by
              rw [HCH.out, if_pos]
              rw [List.all_eq_true]
              intro a ha
              obtain ⟨j, hj, rfl⟩ := List.mem_iff_getElem.1 ha
              exact hok j hj hj
            have HC := Lib.hid hch
            clear hok hch
            go_wp2
            go_ret
            exact ⟨by rw [HC.out]; rfl, hE⟩
      · rw [show decide (Rgt k p) = false by simpa using hR] at hrt
        have hch : chkS k p l = 150 := if_neg hR
        have HC := Lib.hid hch
        clear hR hch
        go_wp2_with (go_at_call 34; refine (hrt _).mono ?_; rintro e w2 ⟨rfl, hb2⟩)
        go_ret
        exact ⟨by rw [HC.out]; rfl, hE.tr hb2⟩
end Go.Proofs.YtlnfmngginihfaaGreatDoor
