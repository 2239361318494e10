/- Sorting, plain: what insertion, rotation and the symmetric merge do to an array whose elements are ordered by a number. Sorting, plain: halves joined, the searches, the blocks. Sorting, plain: an element shifted to its place; the symmetric merge put together. Sorting, plain: an element put behind all that are not greater; two rising permutations are one. -/
import Derived.Sort.LotA
set_option linter.unusedVariables false
set_option linter.unusedSimpArgs false
namespace Go.Proofs.YtlnfmngginihfaaGreatDoor
open Go.Sort
variable {α : Type} [Inhabited α] {K : α → Int}

def ltK (K : α → Int) (x y : α) : Bool := decide (K x < K y)
omit [Inhabited α] in
theorem swo_ltK (K : α → Int) : SWO (ltK K) where
  irrefl x := decide_eq_false (Int.lt_irrefl _)
  trans x y z h1 h2 := decide_eq_true (Int.lt_trans (of_decide_eq_true h1) (of_decide_eq_true h2))
  ntrans x y z h1 h2 := by
    have h1 := of_decide_eq_false h1
    have h2 := of_decide_eq_false h2
    exact decide_eq_false (by omega)
/-- Rising from a to b. -/
def Srt (K : α → Int) (a b : Nat) (d : Array α) : Prop := ∀ i j, a ≤ i → i ≤ j → j < b → K d[i]! ≤ K d[j]!
theorem Srt.of {a b : Nat} {d : Array α} (h : SortedIn (ltK K) a b d) : Srt K a b d := by
  intro i j hi hij hj
  rcases Nat.eq_or_lt_of_le hij with rfl | hlt
  · exact Int.le_refl _
  · have := of_decide_eq_false (h i j hi hlt hj)
    omega
theorem Srt.sub {a b a' b' : Nat} {d : Array α} (h : Srt K a b d) (ha : a ≤ a') (hb : b' ≤ b) : Srt K a' b' d := fun i j hi hij hj => h i j (by omega) hij (by omega)
theorem Srt.one {a b : Nat} {d : Array α} (h : b ≤ a + 1) : Srt K a b d := by
  intro i j hi hij hj
  obtain rfl : i = j := by omega
  exact Int.le_refl _
theorem Srt.congr {a b : Nat} {d d' : Array α} (h : Srt K a b d) (he : ∀ t, a ≤ t → t < b → d'[t]! = d[t]!) : Srt K a b d' := by
  intro i j hi hij hj
  rw [he i hi (by omega), he j (by omega) hj]
  exact h i j hi hij hj
theorem Srt.join {a m b : Nat} {d : Array α} (h1 : Srt K a m d) (h2 : Srt K m b d) (hx : ∀ i j, a ≤ i → i < m → m ≤ j → j < b → K d[i]! ≤ K d[j]!) : Srt K a b d := by
  intro i j hi hij hj
  by_cases h : j < m
  · exact h1 i j hi hij h
  · by_cases h' : i < m
    · exact hx i j hi h' (by omega) hj
    · exact h2 i j (by omega) hij hj
/-- The first of the left run put into the right one. -/
theorem ins_left {a b i : Nat} {d d' : Array α} (hai : a < i) (hib : i ≤ b) (hs : Srt K (a + 1) b d) (h1 : ∀ t, a + 1 ≤ t → t < i → K d[t]! < K d[a]!) (h2 : ∀ t, i ≤ t → t < b → K d[a]! ≤ K d[t]!)
    (e1 : ∀ t, a ≤ t → t < i - 1 → d'[t]! = d[t + 1]!) (e2 : d'[i - 1]! = d[a]!) (e3 : ∀ t, i ≤ t → t < b → d'[t]! = d[t]!) : Srt K a b d' := by
  refine Srt.join (m := i - 1) ?_ (Srt.join (m := i) (Srt.one (by omega)) ((hs.sub (by omega) (Nat.le_refl _)).congr e3) ?_) ?_
  · intro p q hp hpq hq
    rw [e1 p hp (by omega), e1 q (by omega) hq]
    exact hs _ _ (by omega) (by omega) (by omega)
  · intro p q hp hpi hq hqb
    obtain rfl : p = i - 1 := by omega
    rw [e2, e3 q hq hqb]
    exact h2 q hq hqb
  · intro p q hp hpi hq hqb
    rw [e1 p hp hpi]
    have h3 := h1 (p + 1) (by omega) (by omega)
    by_cases hqi : q = i - 1
    · rw [hqi, e2]
      omega
    · rw [e3 q (by omega) hqb]
      have := h2 q (by omega) hqb
      omega
/-- The last of the right run, alone, put into the left one. -/
theorem ins_right {a m i : Nat} {d d' : Array α} (hai : a ≤ i) (him : i ≤ m) (hs : Srt K a m d) (h1 : ∀ t, a ≤ t → t < i → K d[t]! ≤ K d[m]!) (h2 : ∀ t, i ≤ t → t < m → K d[m]! < K d[t]!)
    (e1 : ∀ t, i < t → t ≤ m → d'[t]! = d[t - 1]!) (e2 : d'[i]! = d[m]!) (e3 : ∀ t, a ≤ t → t < i → d'[t]! = d[t]!) : Srt K a (m + 1) d' := by
  refine Srt.join (m := i) ((hs.sub (Nat.le_refl _) him).congr e3) (Srt.join (m := i + 1) (Srt.one (by omega)) ?_ ?_) ?_
  · intro p q hp hpq hq
    rw [e1 p (by omega) (by omega), e1 q (by omega) (by omega)]
    exact hs _ _ (by omega) (by omega) (by omega)
  · intro p q hp hpi hq hqb
    obtain rfl : p = i := by omega
    rw [e2, e1 q (by omega) (by omega)]
    have := h2 (q - 1) (by omega) (by omega)
    omega
  · intro p q hp hpi hq hqb
    rw [e3 p hp hpi]
    have h3 := h1 p hp hpi
    by_cases hqi : q = i
    · rw [hqi, e2]; exact h3
    · rw [e1 q (by omega) (by omega)]
      have := h2 (q - 1) (by omega) (by omega)
      omega
/-- d' is d with the blocks a..m and m..b exchanged. -/
structure Rot (a m b : Nat) (d d' : Array α) : Prop where
  low : ∀ t, t < b - m → d'[a + t]! = d[m + t]!
  high : ∀ t, t < m - a → d'[a + (b - m) + t]! = d[a + t]!
  out : ∀ t, t < a ∨ b ≤ t → d'[t]! = d[t]!
theorem Rot.none {a b : Nat} (d : Array α) (h : a ≤ b) : Rot a a b d d := ⟨fun t ht => rfl, fun t ht => by omega, fun t ht => rfl⟩
theorem Rot.nil {a b : Nat} (d : Array α) (h : a ≤ b) : Rot a b b d d := ⟨fun t ht => by omega, fun t ht => by rw [Nat.sub_self, Nat.add_zero], fun t ht => rfl⟩
/-- The exchange of two ranges of n places, place by place. -/
structure Swr (x y n : Nat) (d d' : Array α) : Prop where
  one : ∀ t, t < n → d'[x + t]! = d[y + t]!
  two : ∀ t, t < n → d'[y + t]! = d[x + t]!
  out : ∀ t, (t < x ∨ x + n ≤ t) → (t < y ∨ y + n ≤ t) → d'[t]! = d[t]!
theorem Swr.zero (x y : Nat) (d : Array α) : Swr x y 0 d d := ⟨fun t ht => by omega, fun t ht => by omega, fun t _ _ => rfl⟩
theorem Swr.step {x y n : Nat} {d d' : Array α} (h : Swr x y n d d') (hd : x + n < y ∨ y + n < x) (hx : x + n < d'.size) (hy : y + n < d'.size) : Swr x y (n + 1) d (swp d' (x + n) (y + n)) := by
  refine ⟨fun t ht => ?_, fun t ht => ?_, fun t h1 h2 => ?_⟩
  · rw [swp_get d' hx hy]
    by_cases e : t = n
    · subst e
      rw [if_neg (by omega), if_pos rfl]
      exact h.out _ (by omega) (by omega)
    · rw [if_neg (by omega), if_neg (by omega)]
      exact h.one t (by omega)
  · rw [swp_get d' hx hy]
    by_cases e : t = n
    · subst e
      rw [if_pos rfl]
      exact h.out _ (by omega) (by omega)
    · rw [if_neg (by omega), if_neg (by omega)]
      exact h.two t (by omega)
  · rw [swp_get d' hx hy, if_neg (by omega), if_neg (by omega)]
    exact h.out t (by omega) (by omega)
/-- One round of the rotation, the left block longer; its right block longer; both alike. -/
theorem Rot.left {m i j : Nat} {d d1 d2 : Array α} (hj : 0 < j) (hij : j < i) (him : i ≤ m) (hs : Swr (m - i) m j d d1) (hr : Rot (m - (i - j)) m (m + j) d1 d2) : Rot (m - i) m (m + j) d d2 := by
  refine ⟨fun t ht => ?_, fun t ht => ?_, fun t ht => ?_⟩
  · rw [hr.out _ (by omega)]
    exact hs.one t (by omega)
  · by_cases h : t < j
    · have h1 := hr.low t (by omega)
      rw [show m - i + (m + j - m) + t = m - (i - j) + t by omega, h1]
      exact hs.two t h
    · have h1 := hr.high (t - j) (by omega)
      rw [show m - i + (m + j - m) + t = m - (i - j) + (m + j - m) + (t - j) by omega, h1, hs.out _ (by omega) (by omega)]
      congr 1
      omega
  · rw [hr.out _ (by omega)]
    exact hs.out _ (by omega) (by omega)
theorem Rot.right {m i j : Nat} {d d1 d2 : Array α} (hi : 0 < i) (hij : i < j) (him : i ≤ m) (hs : Swr (m - i) (m + j - i) i d d1) (hr : Rot (m - i) m (m + (j - i)) d1 d2) : Rot (m - i) m (m + j) d d2 := by
  refine ⟨fun t ht => ?_, fun t ht => ?_, fun t ht => ?_⟩
  · by_cases h : t < j - i
    · have h1 := hr.low t (by omega)
      rw [h1]
      exact hs.out _ (by omega) (by omega)
    · have h1 := hr.high (t - (j - i)) (by omega)
      rw [show m - i + t = m - i + (m + (j - i) - m) + (t - (j - i)) by omega, h1, hs.one _ (by omega)]
      congr 1
      omega
  · rw [hr.out _ (by omega)]
    have h1 := hs.two t (by omega)
    rw [show m - i + (m + j - m) + t = m + j - i + t by omega, h1]
  · rw [hr.out _ (by omega)]
    exact hs.out _ (by omega) (by omega)
theorem Rot.same {m i : Nat} {d d1 : Array α} (him : i ≤ m) (hs : Swr (m - i) m i d d1) : Rot (m - i) m (m + i) d d1 := by
  refine ⟨fun t ht => hs.one t (by omega), fun t ht => ?_, fun t ht => hs.out t (by omega) (by omega)⟩
  rw [show m - i + (m + i - m) + t = m + t by omega]
  exact hs.two t (by omega)
/-- Where the symmetric merge parts: the search's answer. -/
structure Cut (K : α → Int) (a m b mid s : Nat) (d : Array α) : Prop where
  as : a ≤ s
  sm : s ≤ m
  smid : s ≤ mid
  eb : mid + m - s ≤ b
  below : a < s → mid + m - s < b → K d[s - 1]! ≤ K d[mid + m - s]!
  above : s < m → s < mid → K d[mid + m - s - 1]! < K d[s]!
/-- Behind the rotation: two halves, each of two runs, the left one below the right one. -/
theorem Cut.halves {a m b mid s : Nat} {d d1 : Array α} (hc : Cut K a m b mid s d) (hmb : m ≤ b) (h1 : Srt K a m d) (h2 : Srt K m b d) (hr : Rot s m (mid + m - s) d d1) :
    Srt K a s d1 ∧ Srt K s mid d1 ∧ Srt K mid (mid + m - s) d1 ∧ Srt K (mid + m - s) b d1 ∧ ∀ i j, a ≤ i → i < mid → mid ≤ j → j < b → K d1[i]! ≤ K d1[j]! := by
  have hs1 := hc.sm
  have hs2 := hc.smid
  have hs3 := hc.eb
  have hs0 := hc.as
  -- what stands where
  have q1 : ∀ t, t < s → d1[t]! = d[t]! := fun t ht => hr.out t (.inl ht)
  have q2 : ∀ t, s ≤ t → t < mid → d1[t]! = d[m + (t - s)]! := fun t h3 h4 => by
    have := hr.low (t - s) (by omega)
    rwa [show s + (t - s) = t by omega] at this
  have q3 : ∀ t, mid ≤ t → t < mid + m - s → d1[t]! = d[s + (t - mid)]! := fun t h3 h4 => by
    have := hr.high (t - mid) (by omega)
    rwa [show s + (mid + m - s - m) + (t - mid) = t by omega] at this
  have q4 : ∀ t, mid + m - s ≤ t → d1[t]! = d[t]! := fun t ht => hr.out t (.inr ht)
  refine ⟨?_, ?_, ?_, ?_, ?_⟩
  · intro i j hi hij hj
    rw [q1 i (by omega), q1 j hj]
    exact h1 i j hi hij (by omega)
  · intro i j hi hij hj
    rw [q2 i hi (by omega), q2 j (by omega) hj]
    exact h2 _ _ (by omega) (by omega) (by omega)
  · intro i j hi hij hj
    rw [q3 i hi (by omega), q3 j (by omega) hj]
    exact h1 _ _ (by omega) (by omega) (by omega)
  · intro i j hi hij hj
    rw [q4 i hi, q4 j (by omega)]
    exact h2 _ _ (by omega) hij hj
  · intro i j hi him hmj hjb
    by_cases hi2 : i < s
    · rw [q1 i hi2]
      by_cases hj2 : j < mid + m - s
      · rw [q3 j hmj hj2]
        exact h1 _ _ hi (by omega) (by omega)
      · rw [q4 j (by omega)]
        have g1 := h1 i (s - 1) hi (by omega) (by omega)
        have g2 := hc.below (by omega) (by omega)
        have g3 := h2 (mid + m - s) j (by omega) (by omega) hjb
        omega
    · rw [q2 i (by omega) him]
      by_cases hj2 : j < mid + m - s
      · rw [q3 j hmj hj2]
        have g1 := h2 (m + (i - s)) (mid + m - s - 1) (by omega) (by omega) (by omega)
        have g2 := hc.above (by omega) (by omega)
        have g3 := h1 s (s + (j - mid)) (by omega) (by omega) (by omega)
        omega
      · rw [q4 j (by omega)]
        exact h2 _ _ (by omega) (by omega) hjb
end Go.Proofs.YtlnfmngginihfaaGreatDoor
namespace Go.Proofs.YtlnfmngginihfaaGreatDoor
open Go.Sort
variable {α : Type} [Inhabited α] {K : α → Int}

theorem perm_refl (d : Array α) (a b : Nat) : PermIn a b d d := permIn_refl d a b
theorem perm_trans {d d' d'' : Array α} {a b : Nat} (h1 : PermIn a b d d') (h2 : PermIn a b d' d'') : PermIn a b d d'' := permIn_trans d d' d'' a b h1 h2
theorem perm_up {d d' : Array α} {a b a' b' : Nat} (ha : a' ≤ a) (hb : b ≤ b') (hs : b' ≤ d.size) (h : PermIn a b d d') : PermIn a' b' d d' := permIn_mono d d' a b a' b' ha hb hs h
theorem perm_swp {d : Array α} {a b i j : Nat} (h1 : a ≤ i) (h2 : i < b) (h3 : a ≤ j) (h4 : j < b) (hs : b ≤ d.size) : PermIn a b d (swp d i j) := swp_permIn d a b i j h1 h2 h3 h4 hs
/-- Two halves, the left one below the right one, each put in order. -/
theorem halves_join {a mid b : Nat} {d1 d2 d3 : Array α} (hb : b ≤ d1.size) (ham : a ≤ mid) (hmb : mid ≤ b) (hx : ∀ i j, a ≤ i → i < mid → mid ≤ j → j < b → K d1[i]! ≤ K d1[j]!)
    (p1 : PermIn a mid d1 d2) (s1 : Srt K a mid d2) (p2 : PermIn mid b d2 d3) (s2 : Srt K mid b d3) : PermIn a b d1 d3 ∧ Srt K a b d3 := by
  have z2 : d2.size = d1.size := p1.1
  refine ⟨perm_trans (perm_up (Nat.le_refl _) hmb hb p1) (perm_up ham (Nat.le_refl _) (by omega) p2), ?_⟩
  have e3 : ∀ t, t < mid → d3[t]! = d2[t]! := fun t ht => p2.2.1 t (.inl ht)
  have e2 : ∀ t, mid ≤ t → d2[t]! = d1[t]! := fun t ht => p1.2.1 t (.inr ht)
  have f1 := permIn_all d1 d2 a mid (fun x => ∀ j, mid ≤ j → j < b → K x ≤ K d1[j]!) (by omega) p1 (fun i hi him j hj hjb => hx i j hi him hj hjb)
  have f2 := permIn_all d2 d3 mid b (fun y => ∀ i, a ≤ i → i < mid → K d2[i]! ≤ K y) (by omega) p2 (fun j hj hjb i hi him => by rw [e2 j hj]; exact f1 i hi him j hj hjb)
  refine Srt.join (s1.congr fun t h1 h2 => e3 t h2) s2 fun i j hi him hj hjb => ?_
  rw [e3 i him]
  exact f2 j hj hjb i hi him
/-- The state of a search for the first place where P fails. -/
structure Sch (P : Nat → Prop) (s0 r0 lo hi : Nat) : Prop where
  lo0 : s0 ≤ lo
  le : lo ≤ hi
  hi0 : hi ≤ r0
  yes : ∀ c, s0 ≤ c → c < lo → P c
  no : ∀ c, hi ≤ c → c < r0 → ¬ P c
theorem Sch.start (P : Nat → Prop) {s0 r0 : Nat} (h : s0 ≤ r0) : Sch P s0 r0 s0 r0 := ⟨Nat.le_refl _, h, Nat.le_refl _, fun c h1 h2 => by omega, fun c h1 h2 => by omega⟩
theorem Sch.up {P : Nat → Prop} {s0 r0 lo hi c : Nat} (h : Sch P s0 r0 lo hi) (hm : ∀ x y, s0 ≤ x → x ≤ y → y < r0 → P y → P x) (h1 : lo ≤ c) (h2 : c < hi) (hc : P c) : Sch P s0 r0 (c + 1) hi := by
  have := h.hi0
  have := h.lo0
  exact ⟨by omega, by omega, by omega, fun x hx hxc => hm x c hx (by omega) (by omega) hc, h.no⟩
theorem Sch.dn {P : Nat → Prop} {s0 r0 lo hi c : Nat} (h : Sch P s0 r0 lo hi) (hm : ∀ x y, s0 ≤ x → x ≤ y → y < r0 → P y → P x) (h1 : lo ≤ c) (h2 : c < hi) (hc : ¬ P c) : Sch P s0 r0 lo c := by
  have := h.hi0
  have := h.lo0
  exact ⟨by omega, by omega, by omega, h.yes, fun x hx hxr hp => hc (hm c x (by omega) hx hxr hp)⟩
theorem mono_left {a b : Nat} {d : Array α} (h : Srt K (a + 1) b d) : ∀ x y, a + 1 ≤ x → x ≤ y → y < b → K d[y]! < K d[a]! → K d[x]! < K d[a]! := fun x y hx hxy hy hp => by
  have := h x y hx hxy hy
  omega
theorem mono_right {a m : Nat} {d : Array α} (h : Srt K a m d) : ∀ x y, a ≤ x → x ≤ y → y < m → K d[y]! ≤ K d[m]! → K d[x]! ≤ K d[m]! := fun x y hx hxy hy hp => by
  have := h x y hx hxy hy
  omega
theorem mono_sym {a m b p s0 r0 : Nat} {d : Array α} (h1 : Srt K a m d) (h2 : Srt K m b d) (ha : a ≤ s0) (hr : r0 ≤ m) (hp : p < b + s0) (hm : m + r0 ≤ p + 1) :
    ∀ x y, s0 ≤ x → x ≤ y → y < r0 → K d[y]! ≤ K d[p - y]! → K d[x]! ≤ K d[p - x]! := fun x y hx hxy hy hn => by
  have g1 := h1 x y (by omega) hxy (by omega)
  have g2 := h2 (p - y) (p - x) (by omega) (by omega) (by omega)
  omega
/-- Where the search begins and ends. -/
def s0S (m b mid a : Nat) : Nat := if mid < m then mid + m - b else a
def r0S (m mid : Nat) : Nat := if mid < m then mid else m
theorem sym_ranges {a m b mid : Nat} (h1 : a < m) (h2 : m < b) (hmid : mid = (a + b) / 2) : a ≤ s0S m b mid a ∧ s0S m b mid a ≤ r0S m mid ∧ r0S m mid ≤ m ∧ mid + m - 1 < b + s0S m b mid a ∧ m + r0S m mid ≤ mid + m - 1 + 1 ∧ r0S m mid ≤ mid := by
  unfold s0S r0S
  split <;> omega
theorem cut_of {a m b mid s : Nat} {d : Array α} (h1 : a < m) (h2 : m < b) (hmid : mid = (a + b) / 2) (h : Sch (fun c => K d[c]! ≤ K d[mid + m - 1 - c]!) (s0S m b mid a) (r0S m mid) s s) : Cut K a m b mid s d := by
  obtain ⟨r1, r2, r3, r4, r5, r6⟩ := sym_ranges h1 h2 hmid
  have l1 := h.lo0
  have l2 := h.hi0
  refine ⟨by omega, by omega, by omega, ?_, ?_, ?_⟩
  · unfold s0S at l1
    split at l1 <;> omega
  · intro g1 g2
    have hs : s0S m b mid a < s := by
      unfold s0S at l1 ⊢
      split at l1
      · rename_i hh; rw [if_pos hh]; omega
      · rename_i hh; rw [if_neg hh]; omega
    have := h.yes (s - 1) (by omega) (by omega)
    have e : mid + m - 1 - (s - 1) = mid + m - s := by omega
    rw [e] at this
    omega
  · intro g1 g2
    have hs : s < r0S m mid := by
      unfold r0S at l2 ⊢
      split at l2
      · rename_i hh; rw [if_pos hh]; exact g2
      · rename_i hh; rw [if_neg hh]; exact g1
    have := h.no s (Nat.le_refl _) hs
    have e : mid + m - 1 - s = mid + m - s - 1 := by omega
    rw [e] at this
    omega
/-- All blocks of s places that begin below a are in order. -/
def Blo (K : α → Int) (s n a : Nat) (d : Array α) : Prop := ∀ q, q * s < a → Srt K (q * s) (min (q * s + s) n) d
theorem Blo.zero (K : α → Int) (s n : Nat) (d : Array α) : Blo K s n 0 d := fun q hq => by omega
theorem Blo.step {s n Q a b : Nat} {d d' : Array α} (h : Blo K s n (Q * s) d) (ha : a = Q * s) (hb : b = min (a + s) n) (hp : PermIn a b d d') (hs : Srt K a b d') : Blo K s n (Q * s + s) d' := by
  intro q hq
  by_cases hqQ : q < Q
  · have h1 : q * s + s ≤ Q * s := by rw [← Nat.succ_mul]; exact Nat.mul_le_mul_right s hqQ
    rcases Nat.eq_zero_or_pos s with h0 | h0
    · subst h0
      exact Srt.one (by omega)
    · exact (h q (by omega)).congr fun t h2 h3 => hp.2.1 t (.inl (by omega))
  · by_cases hqe : q = Q
    · subst hqe
      rw [← ha, ← hb]
      exact hs
    · exfalso
      have h1 : Q * s + s ≤ q * s := by rw [← Nat.succ_mul]; exact Nat.mul_le_mul_right s (by omega)
      omega
theorem Blo.all {s n : Nat} {d : Array α} (h : Blo K s n n d) (hs : n ≤ s) : Srt K 0 n d := by
  rcases Nat.eq_zero_or_pos n with h0 | h0
  · subst h0
    exact Srt.one (by omega)
  · have := h 0 (by omega)
    rwa [Nat.zero_mul, Nat.zero_add, Nat.min_eq_right hs] at this
/-- Between: blocks of 2 s below a, blocks of s from there. -/
structure Mix (K : α → Int) (s n a : Nat) (d : Array α) : Prop where
  done : Blo K (2 * s) n a d
  left : ∀ q, a ≤ q * s → q * s < n → Srt K (q * s) (min (q * s + s) n) d
theorem Mix.start {s n : Nat} {d : Array α} (h : Blo K s n n d) : Mix K s n 0 d := ⟨Blo.zero _ _ _ _, fun q _ hq => h q hq⟩
theorem Mix.parts {s n Q a : Nat} {d : Array α} (h : Mix K s n a d) (ha : a = Q * (2 * s)) (hs : 0 < s) (hn : a + s < n) : Srt K a (a + s) d ∧ Srt K (a + s) (min (a + 2 * s) n) d := by
  have e1 : a = (2 * Q) * s := by rw [ha, Nat.mul_comm 2 Q, Nat.mul_assoc]
  have e2 : a + s = (2 * Q + 1) * s := by rw [Nat.succ_mul, ← e1]
  have h1 := h.left (2 * Q) (by omega) (by omega)
  have h2 := h.left (2 * Q + 1) (by omega) (by omega)
  rw [← e1, Nat.min_eq_left (by omega)] at h1
  rw [← e2, Nat.add_assoc, show s + s = 2 * s by omega] at h2
  exact ⟨h1, h2⟩
theorem Mix.step {s n Q a b : Nat} {d d' : Array α} (h : Mix K s n a d) (ha : a = Q * (2 * s)) (hs : 0 < s) (hb : b = min (a + 2 * s) n) (hp : PermIn a b d d') (hr : Srt K a b d') : Mix K s n (a + 2 * s) d' := by
  refine ⟨?_, fun q h1 h2 => ?_⟩
  · have := Blo.step (Q := Q) (by rw [← ha]; exact h.done) ha hb hp hr
    rwa [← ha] at this
  · exact (h.left q (by omega) h2).congr fun t h3 h4 => hp.2.1 t (.inr (by omega))
theorem Mix.last {s n Q a : Nat} {d : Array α} (h : Mix K s n a d) (ha : a = Q * (2 * s)) (hs : 0 < s) (h1 : n ≤ a + s) : Blo K (2 * s) n n d := by
  intro q hq
  by_cases hqa : q * (2 * s) < a
  · exact h.done q hqa
  · have e1 : q * (2 * s) = (2 * q) * s := by rw [Nat.mul_comm 2 q, Nat.mul_assoc]
    have := h.left (2 * q) (by omega) (by omega)
    rw [← e1, Nat.min_eq_right (by omega)] at this
    rw [Nat.min_eq_right (by omega)]
    exact this
theorem Mix.full {s n a : Nat} {d : Array α} (h : Mix K s n a d) (h1 : n ≤ a) : Blo K (2 * s) n n d := fun q hq => h.done q (by omega)
end Go.Proofs.YtlnfmngginihfaaGreatDoor
namespace Go.Proofs.YtlnfmngginihfaaGreatDoor
open Go.Sort
variable {α : Type} [Inhabited α] {K : α → Int}

/-- The element of place a has come to place t, those between one place down. -/
structure ShR (a t : Nat) (d dk : Array α) : Prop where
  low : ∀ x, a ≤ x → x < t → dk[x]! = d[x + 1]!
  at_ : dk[t]! = d[a]!
  high : ∀ x, t < x → dk[x]! = d[x]!
theorem ShR.start (a : Nat) (d : Array α) : ShR a a d d := ⟨fun x h1 h2 => by omega, rfl, fun x h => rfl⟩
theorem ShR.step {a t : Nat} {d dk : Array α} (h : ShR a t d dk) (hat : a ≤ t) (h1 : t < dk.size) (h2 : t + 1 < dk.size) : ShR a (t + 1) d (swp dk t (t + 1)) := by
  refine ⟨fun x hx hxt => ?_, ?_, fun x hx => ?_⟩
  · rw [swp_get dk h1 h2]
    by_cases e : x = t
    · subst e
      rw [if_neg (by omega), if_pos rfl]
      exact h.high _ (by omega)
    · rw [if_neg (by omega), if_neg e]
      exact h.low x hx (by omega)
  · rw [swp_get dk h1 h2, if_pos rfl]
    exact h.at_
  · rw [swp_get dk h1 h2, if_neg (by omega), if_neg (by omega)]
    exact h.high x (by omega)
/-- The element of place m has come down to place t, those between one place up. -/
structure ShL (m t : Nat) (d dk : Array α) : Prop where
  high : ∀ x, t < x → x ≤ m → dk[x]! = d[x - 1]!
  at_ : dk[t]! = d[m]!
  low : ∀ x, x < t → dk[x]! = d[x]!
theorem ShL.start (m : Nat) (d : Array α) : ShL m m d d := ⟨fun x h1 h2 => by omega, rfl, fun x h => rfl⟩
theorem ShL.step {m t : Nat} {d dk : Array α} (h : ShL m (t + 1) d dk) (htm : t + 1 ≤ m) (h1 : t < dk.size) (h2 : t + 1 < dk.size) : ShL m t d (swp dk (t + 1) t) := by
  refine ⟨fun x hx hxm => ?_, ?_, fun x hx => ?_⟩
  · rw [swp_get dk h2 h1, if_neg (by omega)]
    by_cases e : x = t + 1
    · subst e
      rw [if_pos rfl]
      exact h.low _ (by omega)
    · rw [if_neg e]
      exact h.high x (by omega) hxm
  · rw [swp_get dk h2 h1, if_pos rfl]
    exact h.at_
  · rw [swp_get dk h2 h1, if_neg (by omega), if_neg (by omega)]
    exact h.low x (by omega)
theorem ins_left_sh {a b i : Nat} {d d' : Array α} (hs : Srt K (a + 1) b d) (h : Sch (fun t => K d[t]! < K d[a]!) (a + 1) b i i) (hr : ShR a (i - 1) d d') : Srt K a b d' := by
  have h1 := h.lo0
  have h2 := h.hi0
  refine ins_left (i := i) (by omega) h2 hs h.yes (fun t ht htb => Int.not_lt.1 (h.no t ht htb)) (fun t ht hti => hr.low t ht hti) hr.at_ (fun t ht htb => hr.high t (by omega))
theorem ins_right_sh {a m i : Nat} {d d' : Array α} (hs : Srt K a m d) (h : Sch (fun t => K d[t]! ≤ K d[m]!) a m i i) (hr : ShL m i d d') : Srt K a (m + 1) d' :=
  ins_right (i := i) h.lo0 h.hi0 hs h.yes (fun t ht htm => Int.not_le.1 (h.no t ht htm)) hr.high hr.at_ (fun t ht hti => hr.low t hti)
/-- Behind the rotation, as the recursion wants it. -/
structure Half (K : α → Int) (a s mid e b : Nat) (d1 : Array α) : Prop where
  h1 : Srt K a s d1
  h2 : Srt K s mid d1
  h3 : Srt K mid e d1
  h4 : Srt K e b d1
  hx : ∀ i j, a ≤ i → i < mid → mid ≤ j → j < b → K d1[i]! ≤ K d1[j]!
theorem Half.left {a s mid e b : Nat} {d1 : Array α} (h : Half K a s mid e b d1) (has : a ≤ s) (hsm : s ≤ mid) (hn : ¬ (a < s ∧ s < mid)) : Srt K a mid d1 := by
  by_cases h1 : a < s
  · obtain rfl : s = mid := by omega
    exact h.h1
  · obtain rfl : a = s := by omega
    exact h.h2
theorem Half.right {a s mid e b : Nat} {d1 : Array α} (h : Half K a s mid e b d1) (hme : mid ≤ e) (heb : e ≤ b) (hn : ¬ (mid < e ∧ e < b)) : Srt K mid b d1 := by
  by_cases h1 : mid < e
  · obtain rfl : e = b := by omega
    exact h.h3
  · obtain rfl : mid = e := by omega
    exact h.h4
theorem Half.kept {a s mid e b : Nat} {d1 d2 : Array α} (h : Half K a s mid e b d1) (hme : mid ≤ e) (hp : PermIn a mid d1 d2) : Srt K mid e d2 ∧ Srt K e b d2 :=
  ⟨h.h3.congr fun t h1 h2 => hp.2.1 t (.inr h1), h.h4.congr fun t h1 h2 => hp.2.1 t (.inr (by omega))⟩
theorem Half.right' {a s mid e b : Nat} {d1 d2 : Array α} (h : Half K a s mid e b d1) (hme : mid ≤ e) (heb : e ≤ b) (hn : ¬ (mid < e ∧ e < b)) (hp : PermIn a mid d1 d2) : Srt K mid b d2 :=
  (h.right hme heb hn).congr fun t h1 h2 => hp.2.1 t (.inr h1)
theorem Half.of {a m b mid s : Nat} {d d1 : Array α} (hc : Cut K a m b mid s d) (hmb : m ≤ b) (h1 : Srt K a m d) (h2 : Srt K m b d) (hr : Rot s m (mid + m - s) d d1) : Half K a s mid (mid + m - s) b d1 := by
  obtain ⟨g1, g2, g3, g4, g5⟩ := hc.halves hmb h1 h2 hr
  exact ⟨g1, g2, g3, g4, g5⟩
/-- No rotation is wanted where one of the blocks is empty. -/
theorem rot_idle {m mid s : Nat} {a b : Nat} {d : Array α} (hc : Cut K a m b mid s d) (hn : ¬ (s < m ∧ m < mid + m - s)) : Rot s m (mid + m - s) d d := by
  have h1 := hc.sm
  have h2 := hc.smid
  by_cases h : s < m
  · have e : mid + m - s = m := by omega
    rw [e]
    exact Rot.nil d (by omega)
  · obtain rfl : s = m := by omega
    exact Rot.none d (by omega)
/-- All of it. -/
theorem sym_done {a m b mid s e : Nat} {d d1 d2 d3 : Array α} (hb : b ≤ d.size) (ham : a ≤ mid) (hmb : mid ≤ b) (has : a ≤ s) (heb : e ≤ b) (hp : PermIn s e d d1) (H : Half K a s mid e b d1)
    (p1 : PermIn a mid d1 d2) (s1 : Srt K a mid d2) (p2 : PermIn mid b d2 d3) (s2 : Srt K mid b d3) : PermIn a b d d3 ∧ Srt K a b d3 := by
  have z1 : d1.size = d.size := hp.1
  obtain ⟨q1, q2⟩ := halves_join (by omega) ham hmb H.hx p1 s1 p2 s2
  exact ⟨perm_trans (perm_up has heb hb hp) q1, q2⟩
end Go.Proofs.YtlnfmngginihfaaGreatDoor
namespace Go.Proofs.YtlnfmngginihfaaGreatDoor
theorem rise_one {β : Type} {K : β → Int} {l1 l2 : List β} (h1 : l1.Pairwise fun x y => K x ≤ K y) (h2 : l2.Pairwise fun x y => K x ≤ K y) (hp : l1.Perm l2) (hi : ∀ a b, a ∈ l1 → b ∈ l1 → K a = K b → a = b) : l1 = l2 := by
  refine List.Perm.eq_of_pairwise (le := fun x y => K x ≤ K y) ?_ h1 h2 hp
  intro a b ha hb h3 h4
  exact hi a b ha (hp.mem_iff.2 hb) (Int.le_antisymm h3 h4)
/-- x put into a rising list at place n: those before are not greater, those behind are greater. -/
theorem rise_put {β : Type} {K : β → Int} {l : List β} {x : β} {n : Nat} (h : l.Pairwise fun x y => K x ≤ K y) (h1 : ∀ a ∈ l.take n, K a ≤ K x) (h2 : ∀ a ∈ l.drop n, K x ≤ K a) : (l.take n ++ [x] ++ l.drop n).Pairwise fun x y => K x ≤ K y := by
  have h' := h
  rw [← List.take_append_drop n l] at h'
  obtain ⟨p1, p2, p3⟩ := List.pairwise_append.1 h'
  refine List.pairwise_append.2 ⟨List.pairwise_append.2 ⟨p1, List.pairwise_singleton _ _, fun a ha b hb => ?_⟩, p2, fun a ha b hb => ?_⟩
  · rw [List.mem_singleton] at hb
    rw [hb]
    exact h1 a ha
  · rcases List.mem_append.1 ha with ha | ha
    · exact p3 a ha b hb
    · rw [List.mem_singleton] at ha
      rw [ha]
      exact h2 b hb
theorem perm_put {β : Type} (l : List β) (x : β) (n : Nat) : (l.take n ++ [x] ++ l.drop n).Perm (l ++ [x]) := by
  have h : (l.take n ++ [x] ++ l.drop n).Perm (l.take n ++ (l.drop n ++ [x])) := by
    rw [List.append_assoc]
    exact List.Perm.append_left _ List.perm_append_comm
  rwa [← List.append_assoc, List.take_append_drop] at h
end Go.Proofs.YtlnfmngginihfaaGreatDoor
