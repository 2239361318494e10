/- order.Sort where its arguments are right. The reference's Sorted (package 21): each float put into its place. The reference's Sorted (package 21), walked: the floats, in order by their number. A row of floats that is made and filled; what the check of floats says of their canonical forms. order.Sort, whatever the floats are (with few words): the error, or the floats in order; Sorted of the same floats is the same list. -/
import Derived.Test.YtlnfmngginihfaaGreatDoorSI
import Derived.Test.YtlnfmngginihfaaGreatDoorSB
import Derived.Test.YtlnfmngginihfaaGreatDoorRC
import Derived.Deep.CutRange
set_option linter.unusedVariables false
set_option linter.unusedSimpArgs false
namespace Go.Proofs.YtlnfmngginihfaaGreatDoor
open Go.RowKit Go.Sort

/-- What order.Sort hands back: the floats, in order by their number. -/
def SortR (k p : Int) (w : World) (fs : List Fl) (e : Ending) (w' : World) : Prop :=
  ∃ (A : Option Addr) (c : Nat) (d : Array El), e = .returned (.tuple #[.slice A fs.length c, .int .i64 0]) ∧ (d.toList.map (·.f)).Perm fs ∧ Srt (keyE k p) 0 fs.length d ∧ d.size = fs.length ∧ FRd w' A c (d.toList.map El.fa) ∧ Ext w w'
set_option maxHeartbeats 4000000 in
set_option maxRecDepth 100000 in
theorem sort_ok (k p : Int) (hR : Rgt k p) (A : Option Addr) (c : Nat) (l : List FA) (fs : List Fl) (hb : l.any (fun a => decide (4096 < a.xs.length)) = false) (hl : l.length ≤ 1000) (hS : FlsS k p l = (0, fs)) (hfl : fs.length ≤ 1000) (hF : ∀ f ∈ fs, FOf k p f) (w : World) (hT : Tab w) (h : FRd w A c l) :
    Calls Tryz.prog 6 #[.agg #[.int .i64 k, .int .i64 p], .slice A l.length c] w (SortR k p w fs) := by
  have hE := (Ext.refl w).al (.cells #[.int .i64 k, .int .i64 p] 23)
  have hB := Bf.new w (.int .i64 k) (.int .i64 p)
  have har := fun w hT h => args_ok k p 0 A c l hb ⟨by omega, by omega⟩ w hT h
  rw [hS] at har
  unfold FlsR at har
  have hl2 : ((l.length : Int) > 1000) = False := eq_false (by omega)
  have hl3 : decide ((l.length : Int) > 1000) = false := decide_eq_false (by omega)
  have hl4 : ¬ (1000 : Int) < (l.length : Int) := by omega
  have HE := Lib.hid hE
  have HB := Lib.hid hB
  clear hS hb hE hB
  obtain ⟨q, hq⟩ : ∃ q, w.heap.size = q := ⟨_, rfl⟩
  go_enter Tryz.func6, Tryz.ntmps6
  go_wp2_with fail
  have hE := HE.out
  have hB := HB.out
  rw [hq] at hB
  have hqs := hE.size
  generalize w.alloc (.cells #[.int .i64 k, .int .i64 p] 23) = W at *
  refine (har _ (hT.ext hE) (h.ext hE)).mono ?_
  rintro z w2 ⟨v, rfl, ho, hE2⟩
  rcases Nat.eq_zero_or_pos fs.length with h0 | h0
  · obtain ⟨A2, c2, rfl, hc2, -⟩ := ho.rd
    have hfs : fs = [] := List.eq_nil_of_length_eq_zero h0
    subst hfs
    have hno := fun w => sortStable_none c2 A2 (.func (.func 16) #[] #[.pointer (some ⟨q, 0, none⟩)]) w
    clear har ho h0
    go_wp2_with fail
    refine (hno _).mono ?_
    rintro z w3 ⟨rfl, rfl⟩
    go_wp2_with fail
    go_ret2
    exact ⟨A2, c2, #[], rfl, List.Perm.refl _, Srt.one (Nat.zero_le _), rfl, ⟨Nat.zero_le _, Nat.zero_le _, fun i hi => absurd hi (Nat.not_lt_zero _)⟩, hE.tr hE2⟩
  · obtain ⟨g, cap, d, rfl, hg, hd, hsk, hrd⟩ := own_sk ho h0
    have hds : d.size = fs.length := by rw [← hd, List.length_map, Array.length_toList]
    have hC : Cmp k p W w2 g q := ⟨hR, hT.ext hE, hB, hE2, hg⟩
    have hmem : ∀ i, i < fs.length → d[i]! ∈ d.toList := fun i hi => by
      rw [getElem!_pos d i (by omega)]
      simp
    have hG : ∀ i, i < fs.length → Good k p w2 g d[i]! := fun i hi => ⟨hF _ (by rw [← hd]; exact List.mem_map_of_mem (hmem i hi)), (hrd _ (hmem i hi)).1, (hrd _ (hmem i hi)).2⟩
    have hst := sortStable_c k p W w2 g q cap fs.length hC d hds (by omega) hG
    have hcap : fs.length ≤ cap := by
      obtain ⟨A3, c3, e3, hc3, -⟩ := ho.rd
      injection e3 with _ _ e3
      rw [e3]
      exact hc3
    have hN := Lib.hid hds
    have HD := Lib.hid hd
    clear har ho h0 hd hds hmem hG
    go_wp2_with fail
    refine (hst _ hsk).mono ?_
    rintro z w3 ⟨rfl, d', hp, hs, hk⟩
    have HP := Lib.hid hp
    have HS := Lib.hid hs
    clear hp hs hst
    go_wp2_with fail
    go_ret2
    have hz : d'.size = fs.length := HP.out.1.trans hN.out
    have hpl : d'.toList.Perm d.toList := by
      have := HP.out.2.2
      rw [show fs.length = d'.size from hz.symm, Array.extract_size] at this
      rw [show d'.size = d.size from HP.out.1, Array.extract_size] at this
      exact this
    refine ⟨_, cap, d', rfl, ?_, HS.out, hz, sk_frd hk (by omega) (by omega) (fun u hu => hrd u (hpl.mem_iff.1 hu)), hk.gw.ext (hE.tr hE2) (by omega)⟩
    rw [← HD.out]
    exact hpl.map _
set_option maxHeartbeats 4000000 in
set_option maxRecDepth 100000 in
theorem sort_bad (k p : Int) (A : Option Addr) (c : Nat) (l : List FA) (ec : Int) (hec : ec ≠ 0) (hb : l.any (fun a => decide (4096 < a.xs.length)) = false) (hl : l.length ≤ 1000) (hS : FlsS k p l = (ec, [])) (w : World) (hT : Tab w) (h : FRd w A c l) :
    Calls Tryz.prog 6 #[.agg #[.int .i64 k, .int .i64 p], .slice A l.length c] w fun e w' => e = .returned (.tuple #[.slice none 0 0, .int .i64 ec]) ∧ Ext w w' := by
  have hE := (Ext.refl w).al (.cells #[.int .i64 k, .int .i64 p] 23)
  have har := fun w hT h => args_ok k p 0 A c l hb ⟨by omega, by omega⟩ w hT h
  rw [hS] at har
  unfold FlsR at har
  have hl2 : ((l.length : Int) > 1000) = False := eq_false (by omega)
  have hl3 : decide ((l.length : Int) > 1000) = false := decide_eq_false (by omega)
  have hl4 : ¬ (1000 : Int) < (l.length : Int) := by omega
  have he1 : (ec != 0) = true := by rw [bne_iff_ne]; exact hec
  have he2 : (ec = 0) = False := eq_false hec
  have HE := Lib.hid hE
  clear hS hb hE hec
  go_enter Tryz.func6, Tryz.ntmps6
  go_wp2_with fail
  have hE := HE.out
  generalize w.alloc (.cells #[.int .i64 k, .int .i64 p] 23) = W at *
  refine (har _ (hT.ext hE) (h.ext hE)).mono ?_
  rintro z w2 ⟨v, rfl, ho, hE2⟩
  clear ho
  go_wp2_with fail
  go_ret2
  exact ⟨rfl, hE.tr hE2⟩
set_option maxHeartbeats 4000000 in
set_option maxRecDepth 100000 in
theorem sort_arg (k p : Int) (A : Option Addr) (c : Nat) (l : List FA) (hb : l.any (fun a => decide (4096 < a.xs.length)) = false) (hl : 1000 < l.length) (w : World) (h : FRd w A c l) :
    Calls Tryz.prog 6 #[.agg #[.int .i64 k, .int .i64 p], .slice A l.length c] w fun e w' => e = .returned (.tuple #[.slice none 0 0, .int .i64 1]) ∧ Ext w w' := by
  have hE := (Ext.refl w).al (.cells #[.int .i64 k, .int .i64 p] 23)
  have har := fun w h => args_arg k p 0 true A c l hb (.inr rfl) w h
  have hl3 : decide ((1000 : Int) < (l.length : Int)) = true := decide_eq_true (by omega)
  have hl4 : (1000 : Int) < (l.length : Int) := by omega
  have HE := Lib.hid hE
  clear hb hE
  go_enter Tryz.func6, Tryz.ntmps6
  go_wp2_with fail
  have hE := HE.out
  generalize w.alloc (.cells #[.int .i64 k, .int .i64 p] 23) = W at *
  refine (har _ (h.ext hE)).mono ?_
  rintro z w2 ⟨rfl, hE2⟩
  go_wp2_with fail
  go_ret2
  exact ⟨rfl, hE.tr hE2⟩
end Go.Proofs.YtlnfmngginihfaaGreatDoor
namespace Go.Proofs.YtlnfmngginihfaaGreatDoor
open Go.RowKit Go.Sort

theorem flatG_append (l m : List FA) : flatG (l ++ m) = flatG l ++ flatG m := by unfold flatG; rw [List.flatMap_append]
theorem flatG_len (l : List FA) : (flatG l).length = l.length * 4 := by
  unfold flatG
  induction l with
  | nil => rfl
  | cons a l ih => rw [List.flatMap_cons, List.length_append, ih, List.length_cons]; simp; omega
theorem flatG_one (l : List FA) : ∀ u ∈ flatG l, u.oneCell' = true := by
  intro u hu
  obtain ⟨a, -, hu⟩ := List.mem_flatMap.1 hu
  simp only [List.mem_cons, List.not_mem_nil, or_false] at hu
  rcases hu with rfl | rfl | rfl | rfl <;> rfl
theorem OwnG.low {w : World} {base b : Nat} {v : Value} {l : List FA} (h : OwnG w base v l) (hb : b ≤ base) : OwnG w b v l := ⟨ownsRow_low h.own hb⟩
theorem OwnG.lt {w : World} {base : Nat} {v : Value} {l : List FA} (h : OwnG w base v l) : ∀ k, v.ownBlock = some k → base ≤ k := fun k hk => (h.own.lt k hk).1
/-- The row is nil, or a block. -/
theorem OwnG.form {w : World} {base : Nat} {v : Value} {l : List FA} (h : OwnG w base v l) : (v = .slice none 0 0 ∧ l = []) ∨ ∃ (ad : Addr) (cap : Nat), v = .slice (some ad) l.length cap ∧ l.length ≤ cap ∧ ∀ j u, (flatG l)[j]? = some u → w.cell? (ad.add j) = some u := by
  rcases h.own.2 with ⟨e2, hn⟩ | ⟨g, cap, cur, e2, hb, hh, hnc, hcm, hcs, htk⟩
  · exact .inl ⟨e2, List.eq_nil_of_length_eq_zero (by have := h.own.1; rw [flatG_len] at this; omega)⟩
  · refine .inr ⟨⟨g, 0, none⟩, cap, e2, hnc, fun j u hu => ?_⟩
    rw [add_flat, cell_of_row w g _ _ _ _ hh, ← Array.getElem?_toList]
    rw [← htk, List.getElem?_take] at hu
    split at hu
    · exact hu
    · cases hu
/-- Words are kept where a row of the reference's floats is written. -/
theorem Own.keptR {w w' : World} {base b : Nat} {v u : Value} {xs : List Nat} {l : List FA} (h : Own w base u xs) (ho : OwnG w b v l) (hg : w.grownBy w' v.ownBlock) : Own w' base u xs := by
  refine ⟨h.own.kept hg ?_, h.w64⟩
  rcases h.own.2 with ⟨e, _⟩ | ⟨g, cap, cur, e, _, hh, _⟩
  · left; rw [e]; rfl
  · right
    intro he
    rw [e] at he
    simp only [Value.ownBlock] at he
    rcases ho.own.2 with ⟨e2, _⟩ | ⟨g2, cap2, cur2, e2, _, hh2, _⟩
    · rw [e2] at he; simp [Value.ownBlock] at he
    · rw [e2] at he
      simp only [Value.ownBlock, Option.some.injEq] at he
      subst he
      rw [hh] at hh2
      injection hh2 with hh2
      injection hh2 with _ ht
      exact absurd ht (by decide)
theorem Own.rdOf {w : World} {base n c : Nat} {A : Option Addr} {xs : List Nat} (h : Own w base (.slice A n c) xs) : Rd w A c xs := by
  obtain ⟨A1, c1, e, hr⟩ := h.rd
  injection e with e1 _ e3
  rw [e1, e3]
  exact hr
section
variable {ops : Array Oper} {rest : List Oper} {o : Oper} {a : Act} {Q : Exit → Act → World → Prop} {w : World}
/-- 'append(s, x...)' of floats of the reference. -/
theorem wp_appendGs (hg : o.guard = none) (s x : Operand) (t : TypeId) (hop : o.op = .call { callee := .builtin .append, args := #[s, x], argTypes := #[t, t] }) (ht : Tryz.prog.underlying t = some (.slice 42))
    (base : Nat) (v : Value) (l : List FA) (hs : a.eval s = v) (hown : OwnG w base v l) (ad : Addr) (n c : Nat) (ns : List FA) (hn : ns.length = n) (hx : a.eval x = .slice (some ad) n c) (hc : ∀ j u, (flatG ns)[j]? = some u → w.cell? (ad.add j) = some u)
    (hb : base ≤ w.heap.size) (hl : l.length + n ≤ 2000000)
    (hK : ∀ v' w', OwnG w' base v' (l ++ ns) → Below base w w' → w.grownBy w' v.ownBlock → wpList Tryz.prog ops Q rest (a.put o.dst v') w') :
    wpList Tryz.prog ops Q (o :: rest) a w := by
  obtain ⟨i, h2, h3, h4, h5⟩ := info_parts infoG
  obtain ⟨v', w', r1, r2, r3, _, _⟩ := run_append_own_at (P := Tryz.prog) w base t o.type 42 i _ 4 48 ht h2 h3 h4 h5 rfl (by omega) v l.length _ hown.own ad n c (flatG ns) (by rw [flatG_len, hn]) hc (flatG_one _) (by simp only [maxLen]; omega) (by omega) hb
  refine wpList_plain hg fun K hK' => ?_
  unfold Oper.wp execOp
  simp only [hop, resolve, invoke, builtin, Sem.run_bind, Sem.run_pure, Result.andThen_ok, List.map_toArray, List.map_cons, List.map_nil, hs, hx, r1]
  refine hK' _ _ (hK v' w' ⟨?_⟩ ((Below.refl base w).grown r3 hb fun k hk => (hown.own.lt k hk).1) r3)
  rw [flatG_append, List.length_append, hn]
  exact r2
/-- 'append(s, x...)' where x is nil. -/
theorem wp_appendG0 (hg : o.guard = none) (s x : Operand) (t : TypeId) (hop : o.op = .call { callee := .builtin .append, args := #[s, x], argTypes := #[t, t] }) (ht : Tryz.prog.underlying t = some (.slice 42))
    (base : Nat) (v : Value) (l : List FA) (hs : a.eval s = v) (hown : OwnG w base v l) (hx : a.eval x = .slice none 0 0) (hK : wpList Tryz.prog ops Q rest (a.put o.dst v) w) :
    wpList Tryz.prog ops Q (o :: rest) a w := by
  obtain ⟨i, h2, h3, h4, h5⟩ := info_parts infoG
  have r1 := run_append_owned_none (P := Tryz.prog) w base t o.type 42 i 4 ht h2 v l.length _ hown.own
  refine wpList_plain hg fun K hK' => ?_
  unfold Oper.wp execOp
  simp only [hop, resolve, invoke, builtin, Sem.run_bind, Sem.run_pure, Result.andThen_ok, List.map_toArray, List.map_cons, List.map_nil, hs, hx, r1]
  exact hK' _ _ hK
end
theorem El.fa_can {u : El} (h : u.f.Ok) : u.fa.can = some u.f := by
  show canon u.f.kind u.f.neg u.f.exp (val (cn u.f.mag)) = some u.f
  rw [val_cn]
  exact canon_self h
theorem flat_cells {w : World} {ad : Addr} {d : List El} (hc : ∀ j u, (flatG (d.map El.fa))[j]? = some u → w.cell? (ad.add j) = some u) (j : Nat) (hj : j < d.length) :
    w.cell? (ad.add (j * 4)) = some (.int .i64 d[j].f.kind) ∧ w.cell? ⟨(ad.add (j * 4)).block, (ad.add (j * 4)).off + 1, none⟩ = some (.bool d[j].f.neg) ∧
    w.cell? ⟨(ad.add (j * 4)).block, (ad.add (j * 4)).off + 2, none⟩ = some (.int .i64 d[j].f.exp) ∧ w.cell? ⟨(ad.add (j * 4)).block, (ad.add (j * 4)).off + 3, none⟩ = some (.slice d[j].A (cn d[j].f.mag).length d[j].c) := by
  have hj' : j < (d.map El.fa).length := by rw [List.length_map]; exact hj
  have q := fun t ht => flatG_get (d.map El.fa) j hj' t ht
  have e : (d.map El.fa)[j] = d[j].fa := by rw [List.getElem_map]
  rw [e] at q
  have f := fun t (ht : t < 4) u hu => hc (j * 4 + t) u ((q t ht).trans hu)
  have a := fun t => (add_add' ad (j * 4) t)
  have s := fun t (ht : 0 < t) => (show (ad.add (j * 4)).add t = ⟨(ad.add (j * 4)).block, (ad.add (j * 4)).off + t, none⟩ by unfold Addr.add; rw [if_neg (by omega)])
  refine ⟨f 0 (by omega) _ rfl, ?_, ?_, ?_⟩
  · rw [← s 1 (by omega), a]; exact f 1 (by omega) _ rfl
  · rw [← s 2 (by omega), a]; exact f 2 (by omega) _ rfl
  · rw [← s 3 (by omega), a]; exact f 3 (by omega) _ rfl
theorem one_cells (w : World) (a : FA) : ∀ (j : Nat) (u : Value), (flatG [a])[j]? = some u → (w.alloc (.cells #[.int .i64 a.k, .bool a.neg, .int .i64 a.e, .slice a.A a.xs.length a.c] 42)).cell? ((⟨w.heap.size, 0, none⟩ : Addr).add j) = some u := by
  intro j u hu
  rw [add_flat]
  obtain ⟨c0, c1, c2, c3, -⟩ := (Br.new w (.int .i64 a.k) (.bool a.neg) (.int .i64 a.e) (.slice a.A a.xs.length a.c)).facts
  match j, hu with
  | 0, hy => obtain rfl := Option.some.inj hy; exact c0
  | 1, hy => obtain rfl := Option.some.inj hy; exact c1
  | 2, hy => obtain rfl := Option.some.inj hy; exact c2
  | 3, hy => obtain rfl := Option.some.inj hy; exact c3
  | j + 4, hy => simp [flatG] at hy
theorem take_cells {d : List FA} {n : Nat} : ∀ (j : Nat) (u : Value), (flatG (d.take n))[j]? = some u → (flatG d)[j]? = some u := by
  intro j u hu
  obtain ⟨hj, -⟩ := List.getElem?_eq_some_iff.1 hu
  have e : flatG d = flatG (d.take n) ++ flatG (d.drop n) := by rw [← flatG_append, List.take_append_drop]
  rw [e, List.getElem?_append_left hj]
  exact hu
theorem drop_cells {d : List FA} {n : Nat} (hn : n ≤ d.length) : ∀ (j : Nat) (u : Value), (flatG (d.drop n))[j]? = some u → (flatG d)[n * 4 + j]? = some u := by
  intro j u hu
  have e : flatG d = flatG (d.take n) ++ flatG (d.drop n) := by rw [← flatG_append, List.take_append_drop]
  have hl : (flatG (d.take n)).length = n * 4 := by rw [flatG_len, List.length_take, Nat.min_eq_left hn]
  rw [e, List.getElem?_append_right (by omega), hl, Nat.add_sub_cancel_left]
  exact hu
end Go.Proofs.YtlnfmngginihfaaGreatDoor
namespace Go.Proofs.YtlnfmngginihfaaGreatDoor
open Go.RowKit Go.Sort

/-- What Sorted hands back. -/
def SortdR (k p : Int) (w : World) (fs : List Fl) (e : Ending) (w' : World) : Prop :=
  ∃ (A : Option Addr) (c : Nat) (d : List El), e = .returned (.slice A fs.length c) ∧ d.length = fs.length ∧ FRd w' A c (d.map El.fa) ∧ (d.map (·.f)).Perm fs ∧ (d.map (·.f)).Pairwise (fun x y => key k p x ≤ key k p y) ∧ Ext w w'
/-- The outer loop. -/
def So1 (k p : Int) (w : World) (fs : List Fl) (n : Nat) (v3 v4 : Value) (wr : World) : Prop :=
  ∃ (i : Nat) (d : List El), i ≤ n ∧ v4 = .int .i64 (i : Int) ∧ OwnG wr w.heap.size v3 (d.map El.fa) ∧ d.length = i ∧ (∀ u ∈ d, Rd wr u.A u.c (cn u.f.mag) ∧ FOf k p u.f) ∧ (d.map (·.f)).Perm (fs.take i) ∧
    (d.map (·.f)).Pairwise (fun x y => key k p x ≤ key k p y) ∧ Ext w wr
/-- Behind the inner loop: the place. -/
def At1 (k p : Int) (f : Fl) (d : List El) (wr : World) (v : Value) (wx : World) : Prop :=
  ∃ n : Nat, v = .int .i64 (n : Int) ∧ n ≤ d.length ∧ (∀ u ∈ d.take n, key k p u.f ≤ key k p f) ∧ (∀ u ∈ d.drop n, key k p f ≤ key k p u.f) ∧ Ext wr wx
theorem sgn_le {z : Int} : sgn z ≤ 0 ↔ z ≤ 0 := by
  unfold sgn
  split
  · simp; omega
  · split <;> simp <;> omega
theorem mem_take_succ {d : List El} {j : Nat} (hj : j < d.length) {P : El → Prop} (h : ∀ u ∈ d.take j, P u) (h2 : P d[j]) : ∀ u ∈ d.take (j + 1), P u := by
  intro u hu
  rw [List.take_succ_eq_append_getElem hj] at hu
  rcases List.mem_append.1 hu with hu | hu
  · exact h u hu
  · rw [List.mem_singleton.1 hu]; exact h2
theorem rising_drop {k p : Int} {d : List El} {j : Nat} (hj : j < d.length) (hp : (d.map (·.f)).Pairwise fun x y => key k p x ≤ key k p y) {z : Int} (h : z ≤ key k p d[j].f) : ∀ u ∈ d.drop j, z ≤ key k p u.f := by
  intro u hu
  obtain ⟨t, ht, rfl⟩ := List.mem_iff_getElem.1 hu
  rw [List.getElem_drop]
  rw [List.length_drop] at ht
  rcases Nat.eq_zero_or_pos t with rfl | h0
  · exact h
  · have q := List.pairwise_iff_getElem.1 hp j (j + t) (by rw [List.length_map]; exact hj) (by rw [List.length_map]; omega) (by omega)
    rw [List.getElem_map, List.getElem_map] at q
    omega
set_option maxHeartbeats 4000000 in
set_option maxRecDepth 100000 in
theorem rsorted_c (k p : Int) (hR : Rgt k p) (A : Option Addr) (c : Nat) (l : List FA) (fs : List Fl) (hlen : fs.length = l.length) (hx : ∀ i (hi : i < l.length), ∃ f, fs[i]? = some f ∧ l[i].can = some f ∧ FOf k p f ∧ l[i].xs.length ≤ 4096) (w : World) (h : FRd w A c l) :
    Calls Tryz.prog 8 #[.slice A l.length c] w (SortdR k p w fs) := by
  have hll := h.len
  have HLEN := Lib.hid hlen
  have HX := Lib.hid hx
  clear hlen hx
  go_enter Tryz.func8, Tryz.ntmps8
  go_wp2_with fail
  go_loopw [3, 4] (fun v3 v4 wr => So1 k p w fs l.length v3 v4 wr) (fun _ v _ => l.length - (intOf v).toNat)
  case atStart => exact ⟨0, [], Nat.zero_le _, rfl, OwnG.nil _ _, rfl, fun u hu => absurd hu (by simp), by simp, List.Pairwise.nil, Ext.refl w⟩
  case round =>
    obtain ⟨i, d, hi, rfl, hown, hdl, hrd, hpm, hpw, hE⟩ := hrel
    have HDL := Lib.hid hdl
    have hd1 : d.length ≤ 1000000 := by omega
    clear hdl
    by_cases hlt : i < l.length
    · obtain ⟨ad, rfl, h0, h1, h2, h3, hr⟩ := h.cell i hlt
      replace h0 := hE.cell h0
      replace h1 := hE.cell h1
      replace h2 := hE.cell h2
      replace h3 := hE.cell h3
      replace hr := hr.ext hE
      obtain ⟨f, hf, hcan, hfo, hsm⟩ := HX.out i hlt
      obtain ⟨x, hxe⟩ : ∃ x, l[i] = x := ⟨_, rfl⟩
      rw [hxe] at h0 h1 h2 h3 hr hcan hsm
      have hidx : ((i : Int) * 4).toNat = i * 4 := by omega
      have g0 : (0 : Int) ≤ (i : Int) := by omega
      have g1 : (i : Int) < (l.length : Int) := by omega
      have HF := Lib.hid hf
      have HCAN := Lib.hid hcan
      clear hxe hf hcan
      obtain ⟨xk, xn, xe, xA, xc, xxs⟩ := x
      simp only at h0 h1 h2 h3 hr hsm
      go_upto_block 2 with fail
      go_cut [5] from 7 to 49 (fun s5 wx => At1 k p f d wr s5 wx)
      case first =>
        rcases hown.form with ⟨e1, e2⟩ | ⟨ad3, cap, e1, hcap, hcs⟩
        · obtain rfl : d = [] := by
            cases d with
            | nil => rfl
            | cons a d => cases e2
          subst e1
          clear e2 hpw hpm hrd hown HDL hi hlt hsm h0 h1 h2 h3 hidx
          go_wp2_with fail
          go_loopw [5] (fun v5 w2 => v5 = .int .i64 0 ∧ Ext wr w2) (fun _ _ => 0)
          case atStart => exact ⟨rfl, Ext.refl _⟩
          case round =>
            obtain ⟨rfl, hE2⟩ := hrel
            go_wp2_with fail
            refine wp_region_later (by kernel_rfl) (by kernel_rfl) ?_
            repeat (go_big_quiet_step (fail))
            refine wpQuiet_nil ?_
            intro wq hw'
            obtain ⟨⟨w3, hE3⟩, hw3⟩ := hw'
            replace hw3 : wq = w3 := hw3
            rw [hw3]
            clear hw3 wq
            go_wp2_with fail
            go_meet
            exact ⟨0, rfl, Nat.le_refl _, fun u hu => absurd hu (by simp), fun u hu => absurd hu (by simp), hE2.tr hE3⟩
        · rw [List.length_map] at e1 hcap
          subst e1
          have hcells := fun j hj => flat_cells hcs j hj
          have HPW := Lib.hid hpw
          have HRD := Lib.hid hrd
          clear hcs hpw hpm hrd hown HDL hi
          go_wp2_with fail
          go_loopw [5] (fun v5 w2 => ∃ j : Nat, j ≤ d.length ∧ v5 = .int .i64 (j : Int) ∧ (∀ u ∈ d.take j, key k p u.f ≤ key k p f) ∧ Ext wr w2) (fun v _ => d.length - (intOf v).toNat)
          case atStart => exact ⟨0, Nat.zero_le _, rfl, fun u hu => absurd hu (by simp), Ext.refl _⟩
          case round =>
            obtain ⟨j, hj, rfl, hle, hE2⟩ := hrel
            by_cases hjt : j < d.length
            · obtain ⟨c0, c1, c2, c3⟩ := hcells j hjt
              have q0 := Later.cell (hE2.cell c0)
              have q1 := Later.cell (hE2.cell c1)
              have q2 := Later.cell (hE2.cell c2)
              have q3 := Later.cell (hE2.cell c3)
              have q4 := Later.cell (hE2.cell h0)
              have q5 := Later.cell (hE2.cell h1)
              have q6 := Later.cell (hE2.cell h2)
              have q7 := Later.cell (hE2.cell h3)
              have hm : d[j] ∈ d := List.getElem_mem hjt
              have htt := fun (V : Later wr) => rototal_c k p hR d[j].fa ⟨xk, xn, xe, xA, xc, xxs⟩ d[j].f f (El.fa_can (HRD.out _ hm).2.ok) HCAN.out (HRD.out _ hm).2 hfo (HRD.out _ hm).2.len hsm V.v ((HRD.out _ hm).1.ext (hE2.tr V.h)) (hr.ext (hE2.tr V.h))
              rw [tot_key hR (HRD.out _ hm).2 hfo] at htt
              have hiff := sgn_le (z := key k p d[j].f - key k p f)
              have hdr := fun h => rising_drop hjt HPW.out (z := key k p f) h
              have htk := fun h => mem_take_succ hjt hle (P := fun u => key k p u.f ≤ key k p f) h
              generalize sgn (key k p d[j].f - key k p f) = S at htt hiff
              have HDR := Lib.hid hdr
              have HTK := Lib.hid htk
              have HIFF := Lib.hid hiff
              have HLE := Lib.hid hle
              clear hdr htk hiff hm hle c0 c1 c2 c3
              generalize d[j] = y at *
              obtain ⟨⟨yk, yn, ye, ym⟩, yA, yc⟩ := y
              simp only [El.fa] at q0 q1 q2 q3 htt HDR HTK HIFF
              generalize cn ym = ys at *
              have hidj : ((j : Int) * 4).toNat = j * 4 := by omega
              have i0 : (0 : Int) ≤ (j : Int) := by omega
              have i1 : (j : Int) < (d.length : Int) := by omega
              by_cases hs : S ≤ 0
              · have hs2 : decide (S ≤ 0) = true := decide_eq_true hs
                go_wp2_with fail
                refine wp_region_later (by kernel_rfl) (by kernel_rfl) ?_
                repeat (go_big_quiet_step (first
                  | (go_at_call 21; (with_reducible refine Calls.later (htt _)))))
                refine wpQuiet_nil ?_
                intro wq hw'
                obtain ⟨⟨w3, hE3⟩, hw3⟩ := hw'
                replace hw3 : wq = w3 := hw3
                rw [hw3]
                clear hw3 wq q0 q1 q2 q3 q4 q5 q6 q7 htt
                go_wp2_with fail
                go_roundw
                case rel => exact ⟨j + 1, hjt, by go_num, HTK.out (by have := HIFF.out.1 hs; omega), hE2.tr hE3⟩
                case measure => simp [intOf]; omega
              · have hs2 : decide (S ≤ 0) = false := decide_eq_false hs
                go_wp2_with fail
                refine wp_region_later (by kernel_rfl) (by kernel_rfl) ?_
                repeat (go_big_quiet_step (first
                  | (go_at_call 21; (with_reducible refine Calls.later (htt _)))))
                refine wpQuiet_nil ?_
                intro wq hw'
                obtain ⟨⟨w3, hE3⟩, hw3⟩ := hw'
                replace hw3 : wq = w3 := hw3
                rw [hw3]
                clear hw3 wq q0 q1 q2 q3 q4 q5 q6 q7 htt
                go_wp2_with fail
                go_meet
                exact ⟨j, rfl, hj, HLE.out, HDR.out (by have h5 := HIFF.out; show key k p f ≤ key k p ⟨yk, yn, ye, ym⟩; omega), hE2.tr hE3⟩
            · obtain rfl : j = d.length := by omega
              have HLE := Lib.hid hle
              clear hle hcells h0 h1 h2 h3
              go_wp2_with fail
              refine wp_region_later (by kernel_rfl) (by kernel_rfl) ?_
              repeat (go_big_quiet_step (fail))
              refine wpQuiet_nil ?_
              intro wq hw'
              obtain ⟨⟨w3, hE3⟩, hw3⟩ := hw'
              replace hw3 : wq = w3 := hw3
              rw [hw3]
              clear hw3 wq
              go_wp2_with fail
              go_meet
              exact ⟨d.length, rfl, Nat.le_refl _, HLE.out, fun u hu => absurd hu (by simp), hE2.tr hE3⟩
      case rest =>
        obtain ⟨n, rfl, hn, hlo, hhi, hE2⟩ := hcut
        have HLO := Lib.hid hlo
        have HHI := Lib.hid hhi
        have HRD := Lib.hid hrd
        have HPM := Lib.hid hpm
        have HPW := Lib.hid hpw
        clear hlo hhi hrd hpm hpw
        have hca := fun w h => rcanonical_c xk xe xn xA xc xxs w h hsm f HCAN.out
        unfold FlR at hca
        replace h0 := hE2.cell h0
        replace h1 := hE2.cell h1
        replace h2 := hE2.cell h2
        replace h3 := hE2.cell h3
        replace hr := hr.ext hE2
        rcases hown.form with ⟨e1, e2⟩ | ⟨ad3, cap, e1, hcap, hcs⟩
        · obtain rfl : d = [] := by
            cases d with
            | nil => rfl
            | cons a d => cases e2
          obtain rfl : n = 0 := by simpa using hn
          subst e1
          clear hown
          go_wp2_with fail
          refine (hca _ hr).mono ?_
          rintro z w4 ⟨u, rfl, ⟨v, rfl, ho4⟩, hb4⟩
          obtain ⟨A4, c4, rfl, hr4⟩ := ho4.rd
          have z4 := hb4.size
          have hoc := one_cells w4 ⟨f.kind, f.neg, f.exp, A4, c4, cn f.mag⟩
          go_wp2_with (first
            | (at_builtin; refine wp_appendGs rfl _ _ _ rfl Tryz.underlying32 wc.heap.size _ [] rfl (OwnG.nil _ _) ⟨w4.heap.size, 0, none⟩ 1 1 [⟨f.kind, f.neg, f.exp, A4, c4, cn f.mag⟩] rfl rfl hoc (by rw [World.size_alloc]; omega) (by simp) ?_; intro v5 w5 ho5 hb5 hg5)
            | (at_builtin; refine wp_appendG0 rfl _ _ _ rfl Tryz.underlying32 wc.heap.size _ _ rfl ho5 rfl ?_))
          have ho6 := ((ho4.ext ((Ext.refl w4).al (.cells #[.int .i64 f.kind, .bool f.neg, .int .i64 f.exp, .slice A4 (cn f.mag).length c4] 42))).keptR (OwnG.nil _ wc.heap.size) hg5).rdOf
          go_roundw
          case rel =>
            refine ⟨i + 1, [⟨f, A4, c4⟩], hlt, by go_num, ho5.low (hE.tr hE2).size, by have := HDL.out; simp at this ⊢; omega, ?_, ?_, List.pairwise_singleton _ _, (hE.tr hE2).tr (Below.trans (hb4.al _) hb5)⟩
            · intro u hu
              obtain rfl := List.mem_singleton.1 hu
              exact ⟨ho6, hfo⟩
            · obtain rfl : i = 0 := by have := HDL.out; simpa using this.symm
              rw [List.take_add_one, HF.out]
              exact List.Perm.refl _
          case measure => simp [intOf]; omega
        · rw [List.length_map] at e1 hcap
          subst e1
          clear hown
          have hl1 : ((d.map El.fa).take n).length = n := by rw [List.length_take, List.length_map, Nat.min_eq_left hn]
          have hl2 : ((d.map El.fa).drop n).length = d.length - n := by rw [List.length_drop, List.length_map]
          have hc1 := fun j u hu => hE2.cell (hcs j u (take_cells (n := n) j u hu))
          have hc2 := fun j u hu => hE2.cell (hcs (n * 4 + j) u (drop_cells (n := n) (by rw [List.length_map]; exact hn) j u hu))
          go_wp2_with (first
            | (at_builtin; refine wp_appendGs rfl _ _ _ rfl Tryz.underlying32 wc.heap.size _ [] rfl (OwnG.nil _ _) ad3 n cap ((d.map El.fa).take n) hl1 rfl hc1 (Nat.le_refl _) (by simp; omega) ?_; intro v5 w5 ho5 hb5 hg5; replace h0 := Ext.cell hb5 h0; replace h1 := Ext.cell hb5 h1; replace h2 := Ext.cell hb5 h2; replace h3 := Ext.cell hb5 h3; replace hr := Rd.ext hr hb5))
          rw [List.nil_append] at ho5
          refine (hca _ hr).mono ?_
          rintro z w6 ⟨u, rfl, ⟨v, rfl, ho6⟩, hb6⟩
          obtain ⟨A4, c4, rfl, hr4⟩ := ho6.rd
          have z6 := hb6.size
          have z5 := hb5.size
          have hoc := one_cells w6 ⟨f.kind, f.neg, f.exp, A4, c4, cn f.mag⟩
          have ho5' := (ho5.ext hb6).ext ((Ext.refl w6).al (.cells #[.int .i64 f.kind, .bool f.neg, .int .i64 f.exp, .slice A4 (cn f.mag).length c4] 42))
          clear h0 h1 h2 h3 hc1
          have hl3 : ((d.map El.fa).take n).length + 1 ≤ 2000000 := by rw [hl1]; omega
          have hl4 : ((d.map El.fa).take n ++ [(⟨f.kind, f.neg, f.exp, A4, c4, cn f.mag⟩ : FA)]).length + (d.length - n) ≤ 2000000 := by rw [List.length_append, hl1]; simp; omega
          rcases Nat.lt_or_ge n cap with hnc | hnc
          · have hnc2 : (cap = n) = False := eq_false (by omega)
            go_wp2_with (first
              | (at_builtin; refine wp_appendGs rfl _ _ _ rfl Tryz.underlying32 wc.heap.size _ _ rfl ho5' ⟨w6.heap.size, 0, none⟩ 1 1 [⟨f.kind, f.neg, f.exp, A4, c4, cn f.mag⟩] rfl rfl hoc (by rw [World.size_alloc]; omega) hl3 ?_; intro v7 w7 ho7 hb7 hg7; have z7 := hb7.size; rw [World.size_alloc] at z7)
              | (at_builtin; refine wp_appendGs rfl _ _ _ rfl Tryz.underlying32 wc.heap.size _ _ rfl ho7 (ad3.add (n * 4)) (d.length - n) (cap - n) ((d.map El.fa).drop n) hl2 rfl (fun j u hu => by rw [add_add']; exact Ext.cell (Below.trans ((Ext.tr hb5 hb6).al _) hb7) (hc2 j u hu)) (by omega) hl4 ?_; intro v8 w8 ho8 hb8 hg8))
            have hr8 := (((ho6.ext ((Ext.refl w6).al (.cells #[.int .i64 f.kind, .bool f.neg, .int .i64 f.exp, .slice A4 (cn f.mag).length c4] 42))).keptR ho5' hg7).keptR ho7 hg8).rdOf
            have hE8 : Ext wc w8 := Below.trans (Below.trans ((Ext.tr hb5 hb6).al _) hb7) hb8
            go_roundw
            case rel =>
              refine ⟨i + 1, d.take n ++ [⟨f, A4, c4⟩] ++ d.drop n, hlt, by go_num, ?_, ?_, ?_, ?_, ?_, (hE.tr hE2).tr hE8⟩
              · have q := ho8.low (hE.tr hE2).size
                rw [← List.map_take, ← List.map_drop] at q
                rw [List.map_append, List.map_append]
                exact q
              · have := HDL.out
                simp only [List.length_append, List.length_take, List.length_drop, List.length_singleton]
                omega
              · intro u hu
                rcases List.mem_append.1 hu with hu | hu
                · rcases List.mem_append.1 hu with hu | hu
                  · have q := HRD.out u (List.mem_of_mem_take hu)
                    exact ⟨q.1.ext (hE2.tr hE8), q.2⟩
                  · obtain rfl := List.mem_singleton.1 hu
                    exact ⟨hr8, hfo⟩
                · have q := HRD.out u (List.mem_of_mem_drop hu)
                  exact ⟨q.1.ext (hE2.tr hE8), q.2⟩
              · rw [List.take_add_one, HF.out, List.map_append, List.map_append, List.map_take, List.map_drop]
                exact (perm_put (d.map (·.f)) f n).trans (HPM.out.append_right _)
              · rw [List.map_append, List.map_append, List.map_take, List.map_drop]
                refine rise_put HPW.out ?_ ?_
                · intro a ha
                  rw [← List.map_take] at ha
                  obtain ⟨u, hu, rfl⟩ := List.mem_map.1 ha
                  exact HLO.out u hu
                · intro a ha
                  rw [← List.map_drop] at ha
                  obtain ⟨u, hu, rfl⟩ := List.mem_map.1 ha
                  exact HHI.out u hu
            case measure => simp [intOf]; omega
          · obtain rfl : cap = n := by omega
            have hl5 : ((d.map El.fa).drop cap).length = 0 := by rw [hl2]; omega
            go_wp2_with (first
              | (at_builtin; refine wp_appendGs rfl _ _ _ rfl Tryz.underlying32 wc.heap.size _ _ rfl ho5' ⟨w6.heap.size, 0, none⟩ 1 1 [⟨f.kind, f.neg, f.exp, A4, c4, cn f.mag⟩] rfl rfl hoc (by rw [World.size_alloc]; omega) hl3 ?_; intro v7 w7 ho7 hb7 hg7; have z7 := hb7.size; rw [World.size_alloc] at z7)
              | (at_builtin; refine wp_appendGs rfl _ _ _ rfl Tryz.underlying32 wc.heap.size _ _ rfl ho7 ad3 0 0 ((d.map El.fa).drop cap) hl5 rfl (fun j u hu => absurd hu (by rw [List.drop_eq_nil_of_le (by rw [List.length_map]; omega)]; simp [flatG])) (by omega) (by rw [List.length_append, hl1]; simp; omega) ?_; intro v8 w8 ho8 hb8 hg8))
            have hr8 := (((ho6.ext ((Ext.refl w6).al (.cells #[.int .i64 f.kind, .bool f.neg, .int .i64 f.exp, .slice A4 (cn f.mag).length c4] 42))).keptR ho5' hg7).keptR ho7 hg8).rdOf
            have hE8 : Ext wc w8 := Below.trans (Below.trans ((Ext.tr hb5 hb6).al _) hb7) hb8
            go_roundw
            case rel =>
              refine ⟨i + 1, d.take cap ++ [⟨f, A4, c4⟩] ++ d.drop cap, hlt, by go_num, ?_, ?_, ?_, ?_, ?_, (hE.tr hE2).tr hE8⟩
              · have q := ho8.low (hE.tr hE2).size
                rw [← List.map_take, ← List.map_drop] at q
                rw [List.map_append, List.map_append]
                exact q
              · have := HDL.out
                simp only [List.length_append, List.length_take, List.length_drop, List.length_singleton]
                omega
              · intro u hu
                rcases List.mem_append.1 hu with hu | hu
                · rcases List.mem_append.1 hu with hu | hu
                  · have q := HRD.out u (List.mem_of_mem_take hu)
                    exact ⟨q.1.ext (hE2.tr hE8), q.2⟩
                  · obtain rfl := List.mem_singleton.1 hu
                    exact ⟨hr8, hfo⟩
                · have q := HRD.out u (List.mem_of_mem_drop hu)
                  exact ⟨q.1.ext (hE2.tr hE8), q.2⟩
              · rw [List.take_add_one, HF.out, List.map_append, List.map_append, List.map_take, List.map_drop]
                exact (perm_put (d.map (·.f)) f cap).trans (HPM.out.append_right _)
              · rw [List.map_append, List.map_append, List.map_take, List.map_drop]
                refine rise_put HPW.out ?_ ?_
                · intro a ha
                  rw [← List.map_take] at ha
                  obtain ⟨u, hu, rfl⟩ := List.mem_map.1 ha
                  exact HLO.out u hu
                · intro a ha
                  rw [← List.map_drop] at ha
                  obtain ⟨u, hu, rfl⟩ := List.mem_map.1 ha
                  exact HHI.out u hu
            case measure => simp [intOf]; omega
    · obtain rfl : i = l.length := by omega
      obtain ⟨A3, c3, e3, hfr⟩ := hown.frd (by rw [List.length_map]; exact hd1) (fun i hi => by
        rw [List.getElem_map]
        exact (hrd _ (List.getElem_mem (by simpa using hi))).1)
      have hfl : (d.map El.fa).length = fs.length := by rw [List.length_map, HDL.out, HLEN.out]
      rw [hfl] at e3
      subst e3
      rw [List.take_of_length_le (by rw [HLEN.out]; exact Nat.le_refl _)] at hpm
      have HFR := Lib.hid hfr
      have HPM := Lib.hid hpm
      clear hfl hfr hpm hown
      go_wp2_with fail
      go_ret
      exact ⟨A3, c3, d, rfl, HDL.out.trans HLEN.out.symm, HFR.out, HPM.out, hpw, hE⟩
end Go.Proofs.YtlnfmngginihfaaGreatDoor
namespace Go.Proofs.YtlnfmngginihfaaGreatDoor
open Go.RowKit Go.Sort

theorem mapM_good {k p : Int} : ∀ {l : List FA}, (∀ a ∈ l, ∃ f, a.can = some f ∧ InF k p f) → ∃ fs : List Fl, fs.length = l.length ∧ (l.mapM fun a => holdS k p a.can) = some fs ∧ ∀ i (hi : i < l.length), ∃ f, fs[i]? = some f ∧ l[i].can = some f ∧ InF k p f
  | [], _ => ⟨[], rfl, rfl, fun i hi => absurd hi (by simp)⟩
  | a :: l, h => by
    obtain ⟨f, hf, hin⟩ := h a (List.mem_cons_self ..)
    obtain ⟨fs, h1, h2, h3⟩ := mapM_good (l := l) fun b hb => h b (List.mem_cons_of_mem _ hb)
    refine ⟨f :: fs, by simp [h1], ?_, fun i hi => ?_⟩
    · rw [List.mapM_cons, h2, hf]
      simp [holdS, hin]
    · cases i with
      | zero => exact ⟨f, rfl, hf, hin⟩
      | succ i => exact h3 i (by simpa using hi)
theorem FlsS_good {k p : Int} {l : List FA} (hs : ∀ a ∈ l, a.xs.length ≤ 4096) (hc : chkS k p l = 0) :
    Rgt k p ∧ ∃ fs : List Fl, fs.length = l.length ∧ FlsS k p l = (0, fs) ∧ ∀ i (hi : i < l.length), ∃ f, fs[i]? = some f ∧ l[i].can = some f ∧ InF k p f := by
  obtain ⟨hR, hg⟩ := chk_good hc
  obtain ⟨fs, h1, h2, h3⟩ := mapM_good hg
  refine ⟨hR, fs, h1, ?_, h3⟩
  unfold FlsS
  rw [any_of_small (fun j hj => by have := hs _ (List.getElem_mem hj); omega), if_neg Bool.false_ne_true, if_pos hR, h2]
/-- A row of floats as it was made. -/
structure BkF (w : World) (g : Nat) (l : List FA) : Prop where
  h : w.heap[g]? = some (.cells (flatG l).toArray 40 (0, 0))
section
variable {w w' : World} {g : Nat} {l : List FA}
theorem BkF.lt (b : BkF w g l) : g < w.heap.size := (Array.getElem?_eq_some_iff.1 b.h).1
theorem BkF.ext (b : BkF w g l) (h : Ext w w') : BkF w' g l := ⟨(h.block g b.lt).trans b.h⟩
theorem BkF.cell (b : BkF w g l) (i : Nat) (hi : i < l.length) : w.cell? ⟨g, i * 4, none⟩ = some (.int .i64 l[i].k) ∧ w.cell? ⟨g, i * 4 + 1, none⟩ = some (.bool l[i].neg) ∧ w.cell? ⟨g, i * 4 + 2, none⟩ = some (.int .i64 l[i].e) ∧
    w.cell? ⟨g, i * 4 + 3, none⟩ = some (.slice l[i].A l[i].xs.length l[i].c) := by
  have q := fun t ht => flatG_get l i hi t ht
  refine ⟨?_, ?_, ?_, ?_⟩ <;> rw [cell_of_row w g _ _ _ _ b.h, List.getElem?_toArray]
  · exact q 0 (by omega)
  · exact q 1 (by omega)
  · exact q 2 (by omega)
  · exact q 3 (by omega)
theorem BkF.frozen (b : BkF w g l) (i : Nat) : w.frozen? ⟨g, i, none⟩ = false := by simp [World.frozen?, b.h]
theorem flatG_set : ∀ (l : List FA) (i : Nat) (a : FA), i < l.length → ((((flatG l).set (i * 4) (.int .i64 a.k)).set (i * 4 + 1) (.bool a.neg)).set (i * 4 + 2) (.int .i64 a.e)).set (i * 4 + 3) (.slice a.A a.xs.length a.c) = flatG (l.set i a)
  | [], i, a, h => absurd h (by simp)
  | b :: l, 0, a, h => by simp [flatG]
  | b :: l, i + 1, a, h => by
    have ih := flatG_set l i a (by simpa using h)
    have e : flatG (b :: l) = .int .i64 b.k :: .bool b.neg :: .int .i64 b.e :: .slice b.A b.xs.length b.c :: flatG l := rfl
    have e2 : flatG ((b :: l).set (i + 1) a) = .int .i64 b.k :: .bool b.neg :: .int .i64 b.e :: .slice b.A b.xs.length b.c :: flatG (l.set i a) := rfl
    rw [e, e2, ← ih, show (i + 1) * 4 = i * 4 + 1 + 1 + 1 + 1 by omega]
    rfl
theorem BkF.put (b : BkF w g l) (i : Nat) (hi : i < l.length) (a : FA) : BkF ((((w.setCell ⟨g, i * 4, none⟩ (.int .i64 a.k)).setCell ⟨g, i * 4 + 1, none⟩ (.bool a.neg)).setCell ⟨g, i * 4 + 2, none⟩ (.int .i64 a.e)).setCell ⟨g, i * 4 + 3, none⟩ (.slice a.A a.xs.length a.c)) g (l.set i a) := by
  have h := b.h
  constructor
  rw [← flatG_set l i a hi]
  simp [World.setCell, Array.getElem?_modify, h]
theorem BkF.frd (b : BkF w g l) {c : Nat} (hc : l.length ≤ c) (hl : l.length ≤ 1000000) (hr : ∀ a ∈ l, Rd w a.A a.c a.xs) : FRd w (some ⟨g, 0, none⟩) c l :=
  ⟨hc, hl, fun i hi => by
    obtain ⟨c0, c1, c2, c3⟩ := b.cell i hi
    refine ⟨_, rfl, ?_, ?_, ?_, ?_, hr _ (List.getElem_mem hi)⟩ <;> rw [add_flat] <;> assumption⟩
end
def FA.zero : FA := ⟨0, false, 0, none, 0, []⟩
section
variable {ops : Array Oper} {rest : List Oper} {o : Oper} {a : Act} {Q : Exit → Act → World → Prop} {w : World}
/-- 'make([]Float, n)': a new row of zero floats. -/
theorem wp_makeF (hg : o.guard = none) (l c : Operand) (t : TypeId) (hop : o.op = Op.makeSlice t l c) (ht : Tryz.prog.underlying t = some (.slice 40)) (n : Nat) (N : Int) (hl : a.eval l = .int .i64 N) (hc : a.eval c = .int .i64 N) (hN : N = (n : Int))
    (hn : n ≤ 1000000) (hK : ∀ g w', w.heap.size ≤ g → BkF w' g (List.replicate n FA.zero) → Ext w w' → wpList Tryz.prog ops Q rest (a.put o.dst (.slice (some ⟨g, 0, none⟩) n n)) w') :
    wpList Tryz.prog ops Q (o :: rest) a w := by
  obtain ⟨i, h2, h3, h4, h5⟩ := info_parts infoF
  have key : ∃ w', (Instr.makeSlice t (.int .i64 (n : Int)) (.int .i64 (n : Int))).run Tryz.prog w = .ok (.slice (some ⟨w.heap.size, 0, none⟩) n n) w' ∧ BkF w' w.heap.size (List.replicate n FA.zero) ∧ Ext w w' := by
    have hr := run_make (P := Tryz.prog) w t 40 i _ ht h2 h3 .i64 .i64 n n (by omega) (Int.le_refl _) (by rw [h5]; omega) (by omega)
    simp only [Int.toNat_natCast] at hr
    refine ⟨_, hr, ⟨?_⟩, (Ext.refl w).al _⟩
    rw [heap_alloc_new, h4]
    refine congrArg (fun cs => some (Obj.cells cs 40 (0, 0))) ?_
    apply Array.toList_inj.1
    refine List.ext_getElem? fun j => ?_
    rcases Nat.lt_or_ge j (n * 4) with hj | hj
    · have hi : j / 4 < (List.replicate n FA.zero).length := by rw [List.length_replicate]; omega
      have q := flatG_get (List.replicate n FA.zero) (j / 4) hi (j % 4) (Nat.mod_lt _ (by decide))
      rw [show j / 4 * 4 + j % 4 = j by omega, List.getElem_replicate] at q
      show _ = (flatG (List.replicate n FA.zero))[j]?
      rw [q]
      unfold madeCells
      rw [Array.getElem?_toList, Array.getElem?_map, Array.getElem?_range, if_pos hj]
      show some ((#[Value.int IntKind.i64 0, Value.bool false, Value.int IntKind.i64 0, Value.slice none 0 0] : Array Value)[j % 4]!) = _
      have hm : j % 4 = 0 ∨ j % 4 = 1 ∨ j % 4 = 2 ∨ j % 4 = 3 := by omega
      rcases hm with e | e | e | e <;> rw [e] <;> rfl
    · rw [List.getElem?_eq_none (by rw [Array.length_toList, size_madeCells]; exact hj), List.getElem?_eq_none (by show (flatG _).length ≤ j; rw [flatG_len, List.length_replicate]; exact hj)]
  obtain ⟨w', hrun, r1, r2⟩ := key
  subst hN
  refine wpList_plain hg fun K hK' => ?_
  unfold Oper.wp
  simp [execOp, hop, hl, hc, hrun, Result.andThen]
  exact hK' _ _ (hK _ _ (Nat.le_refl _) r1 r2)
end
end Go.Proofs.YtlnfmngginihfaaGreatDoor
namespace Go.Proofs.YtlnfmngginihfaaGreatDoor
open Go.RowKit Go.Sort

/-- The floats of a list are right: their canonical forms. -/
def Fits (k p : Int) (l : List FA) (fs : List Fl) : Prop := fs.length = l.length ∧ ∀ i (hi : i < l.length), ∃ f, fs[i]? = some f ∧ l[i].can = some f ∧ FOf k p f ∧ l[i].xs.length ≤ 4096
theorem Fits.all {k p : Int} {l : List FA} {fs : List Fl} (h : Fits k p l fs) : ∀ f ∈ fs, FOf k p f := by
  intro f hf
  obtain ⟨i, hi, rfl⟩ := List.mem_iff_getElem.1 hf
  obtain ⟨f, h1, -, h2, -⟩ := h.2 i (by rw [← h.1]; exact hi)
  rw [List.getElem?_eq_getElem hi] at h1
  injection h1 with h1
  rw [h1]
  exact h2
/-- What order.Sort hands back: the error E, or the floats in order. -/
def SortB (k p : Int) (w : World) (l : List FA) (E : Int) (e : Ending) (w' : World) : Prop :=
  ∃ (A : Option Addr) (n c : Nat), e = .returned (.tuple #[.slice A n c, .int .i64 E]) ∧ Ext w w' ∧ ((E ≠ 0 ∧ n = 0) ∨ (E = 0 ∧ Rgt k p ∧ ∃ (fs : List Fl) (d : List El), n = l.length ∧ Fits k p l fs ∧ FRd w' A c (d.map El.fa) ∧ d.length = l.length ∧ (d.map (·.f)).Perm fs ∧ (d.map (·.f)).Pairwise fun x y => key k p x ≤ key k p y))
theorem sort_few (k p : Int) (A : Option Addr) (c : Nat) (l : List FA) (hs : ∀ a ∈ l, a.xs.length ≤ 40) (hl : l.length ≤ 1000) (w : World) (hT : Tab w) (h : FRd w A c l) :
    Calls Tryz.prog 6 #[.agg #[.int .i64 k, .int .i64 p], .slice A l.length c] w (SortB k p w l (chkS k p l)) := by
  have hb : l.any (fun a => decide (4096 < a.xs.length)) = false := any_of_small fun j hj => by have := hs _ (List.getElem_mem hj); omega
  by_cases hc : chkS k p l = 0
  · obtain ⟨hR, fs, h1, h2, h3⟩ := FlsS_good (fun a ha => by have := hs a ha; omega) hc
    have hf : Fits k p l fs := ⟨h1, fun i hi => by
      obtain ⟨f, q1, q2, q3⟩ := h3 i hi
      have q4 := hs _ (List.getElem_mem hi)
      obtain ⟨ad, -, -, -, -, -, hr⟩ := h.cell i hi
      exact ⟨f, q1, q2, of_good q2 q3 hr.w64 (by omega), by omega⟩⟩
    refine (sort_ok k p hR A c l fs hb hl h2 (by omega) hf.all w hT h).mono ?_
    rintro z w2 ⟨A2, c2, d, rfl, hp, hso, hz, hfr, hE⟩
    rw [hc]
    refine ⟨A2, fs.length, c2, rfl, hE, .inr ⟨rfl, hR, fs, d.toList, h1, hf, hfr, by rw [Array.length_toList, hz, h1], hp, ?_⟩⟩
    rw [List.pairwise_iff_getElem]
    intro i j hi hj hij
    rw [List.length_map, Array.length_toList] at hi hj
    have q := hso i j (Nat.zero_le _) (by omega) (by omega)
    rw [getElem!_pos d i hi, getElem!_pos d j hj] at q
    simpa using q
  · refine (sort_bad k p A c l _ hc hb hl (FlsS_chk (fun a ha => by have := hs a ha; omega) hc) w hT h).mono ?_
    rintro z w2 ⟨rfl, hE⟩
    exact ⟨none, 0, 0, rfl, hE, .inl ⟨hc, rfl⟩⟩
/-- The error of Sort. -/
def srtE (k p : Int) (l : List FA) : Int := if 1000 < l.length then 1 else chkS k p l
theorem sort_any (k p : Int) (A : Option Addr) (c : Nat) (l : List FA) (hs : ∀ a ∈ l, a.xs.length ≤ 40) (w : World) (hT : Tab w) (h : FRd w A c l) :
    Calls Tryz.prog 6 #[.agg #[.int .i64 k, .int .i64 p], .slice A l.length c] w (SortB k p w l (srtE k p l)) := by
  unfold srtE
  by_cases hl : 1000 < l.length
  · rw [if_pos hl]
    refine (sort_arg k p A c l (any_of_small fun j hj => by have := hs _ (List.getElem_mem hj); omega) hl w h).mono ?_
    rintro z w2 ⟨rfl, hE⟩
    exact ⟨none, 0, 0, rfl, hE, .inl ⟨by decide, rfl⟩⟩
  · rw [if_neg hl]
    exact sort_few k p A c l hs (by omega) w hT h
/-- Two lists in order, of the same floats, are one. -/
theorem sorted_same {k p : Int} (hR : Rgt k p) {l : List FA} {fs : List Fl} (hf : Fits k p l fs) {d d' : List El} (h1 : (d.map (·.f)).Perm fs) (h2 : (d.map (·.f)).Pairwise fun x y => key k p x ≤ key k p y)
    (h3 : (d'.map (·.f)).Perm fs) (h4 : (d'.map (·.f)).Pairwise fun x y => key k p x ≤ key k p y) : d.map (·.f) = d'.map (·.f) := by
  have ha := hf.all
  refine rise_one h2 h4 (h1.trans h3.symm) fun a b h5 h6 hk => ?_
  exact key_inj hR (ha a (h1.mem_iff.1 h5)) (ha b (h1.mem_iff.1 h6)) hk
/-- A row of one float in order is that row. -/
theorem same_sorted {k p : Int} {n : Nat} {z : FA} {fs : List Fl} {d : List El} (hf : Fits k p (List.replicate n z) fs) (h1 : (d.map (·.f)).Perm fs) : ∀ i (hi : i < d.length), z.can = some d[i].f ∧ FOf k p d[i].f := by
  intro i hi
  have hm : d[i].f ∈ fs := h1.mem_iff.1 (List.mem_map.2 ⟨d[i], List.getElem_mem hi, rfl⟩)
  obtain ⟨j, hj, e⟩ := List.mem_iff_getElem.1 hm
  obtain ⟨f, q1, q2, q3, -⟩ := hf.2 j (by rw [← hf.1]; exact hj)
  rw [List.getElem?_eq_getElem hj, e] at q1
  injection q1 with q1
  rw [List.getElem_replicate] at q2
  rw [q1]
  exact ⟨q2, q3⟩
theorem chk_small (k p : Int) (l : List FA) : chkS k p l ≠ 2 := by
  unfold chkS
  (repeat' split) <;> decide
theorem FRd.el {w : World} {A : Option Addr} {c : Nat} {d : List El} (h : FRd w A c (d.map El.fa)) (i : Nat) (hi : i < d.length) : ∃ ad, A = some ad ∧ w.cell? (ad.add (i * 4)) = some (.int .i64 d[i].f.kind) ∧ w.cell? ⟨(ad.add (i * 4)).block, (ad.add (i * 4)).off + 1, none⟩ = some (.bool d[i].f.neg) ∧
    w.cell? ⟨(ad.add (i * 4)).block, (ad.add (i * 4)).off + 2, none⟩ = some (.int .i64 d[i].f.exp) ∧ w.cell? ⟨(ad.add (i * 4)).block, (ad.add (i * 4)).off + 3, none⟩ = some (.slice d[i].A (cn d[i].f.mag).length d[i].c) ∧ Rd w d[i].A d[i].c (cn d[i].f.mag) := by
  have q := h.cell i (by rw [List.length_map]; exact hi)
  rw [List.getElem_map] at q
  exact q
theorem rep_set {α : Type} (i n : Nat) (x y : α) (hi : i < n) : (List.replicate i x ++ List.replicate (n - i) y).set i x = List.replicate (i + 1) x ++ List.replicate (n - (i + 1)) y := by
  obtain ⟨t, ht⟩ : ∃ t, n - i = t + 1 := ⟨n - i - 1, by omega⟩
  rw [ht, show n - (i + 1) = t by omega, List.set_append_right _ _ (by simp), List.length_replicate, Nat.sub_self, List.replicate_succ, List.set_cons_zero, List.replicate_succ', List.append_assoc]
  rfl
theorem rep_all {α : Type} (i n : Nat) (x : α) (hi : i ≤ n) : List.replicate i x ++ List.replicate (n - i) x = List.replicate n x := by
  rw [List.replicate_append_replicate, Nat.add_sub_cancel' hi]
end Go.Proofs.YtlnfmngginihfaaGreatDoor
