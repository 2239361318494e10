/- Laws of chapter 04: a copy of words into a row of zeros. -/
import Derived.Test.YthbnkhgcfcigjaaJL
import Derived.Test.YthbnkhgcfcigjaaJI
import Derived.Test.YthbnkhgcfcigjaaKX
set_option linter.unusedVariables false
set_option linter.unusedSimpArgs false
namespace Go.Proofs.Ythbnkhgcfcigjaa
open Go.RowKit

theorem Bk.gb {w w' : World} {g k : Nat} {xs : List Nat} (b : Bk w g xs) (h : Gb k w w') (hn : g ≠ k) : Bk w' g xs := ⟨(h.block g b.lt (fun e => hn (Option.some.inj e))).trans b.h, b.w64⟩
section
variable {ops : Array Oper} {rest : List Oper} {o : Oper} {a : Act} {Q : Exit → Act → World → Prop} {w : World}
/-- 'copy(b, ys)' into a row of zeros. -/
theorem wp_copyw (hg : o.guard = none) (d s : Operand) (t t' : TypeId) (hop : o.op = .call { callee := .builtin .copy, args := #[d, s], argTypes := #[t, t'] }) (ht : Try.prog.underlying t = some (.slice 22)) (g n cd : Nat) (hd : a.eval d = .slice (some ⟨g, 0, none⟩) n cd)
    (hb : Bk w g (List.replicate n 0)) (A : Option Addr) (m c : Nat) (ys : List Nat) (hm : ys.length = m) (hs : a.eval s = .slice A m c) (hr : Rd w A c ys) (hle : ys.length ≤ n)
    (hK : ∀ w', Bk w' g (padT ys n) → Gb g w w' → wpList Try.prog ops Q rest (a.put o.dst (goInt ys.length)) w') :
    wpList Try.prog ops Q (o :: rest) a w := by
  subst hm
  obtain ⟨i, h2, h3, h4, h5⟩ := info_parts info64
  have key : ∃ w', (Builtin.copy_ #[t, t'] o.type #[.slice (some ⟨g, 0, none⟩) n cd, .slice A ys.length c]).run Try.prog w = .ok (goInt ys.length) w' ∧ Bk w' g (padT ys n) ∧ Gb g w w' := by
    rcases Nat.eq_zero_or_pos ys.length with h0 | h0
    · obtain rfl := List.eq_nil_of_length_eq_zero h0
      refine ⟨w, run_copy_none w t t' o.type 22 (some ⟨g, 0, none⟩) A n cd 0 c ht (by rw [h2]; simp [h4]) (Nat.zero_min _), ?_, Gb.refl _ _⟩
      unfold padT
      simpa using hb
    · obtain ⟨ad, rfl⟩ := hr.addr h0
      have el : (enc ys).length = ys.length := enc_len ys
      have hrun := run_copy_row (P := Try.prog) w t t' o.type 22 g 0 n cd ad ys.length c _ _ (enc ys) ht (by rw [h2]; simp [h4]) hb.h (by rw [el]; exact (Nat.min_eq_left hle).symm) (fun j v hj => by
        have hjl : j < ys.length := by have := (List.getElem?_eq_some_iff.1 hj).1; rwa [el] at this
        rw [enc_get ys j hjl] at hj
        rw [← hj]
        exact hr.get j hjl) (by rw [el]; simp [enc]; omega) (enc_one ys)
      rw [el] at hrun
      refine ⟨_, hrun, ⟨?_, ?_⟩, gb_setRow _ _ _⟩
      · have e : (enc (List.replicate n 0)).toArray.toList.take 0 ++ enc ys ++ (enc (List.replicate n 0)).toArray.toList.drop (0 + ys.length) = enc (padT ys n) := by
          unfold padT
          simp [enc, List.map_append, List.map_replicate]
        have h1 := setRow_heap w g _ (enc (padT ys n)).toArray _ _ hb.h
        rw [e]
        exact h1
      · intro x hx
        unfold padT at hx
        rcases List.mem_append.1 hx with h1 | h1
        · exact hr.w64 x h1
        · rw [List.eq_of_mem_replicate h1]; exact B_pos
  obtain ⟨w', hrun, k1, k2⟩ := key
  refine wpList_plain hg fun K hK' => ?_
  unfold Oper.wp execOp
  simp only [hop, resolve, invoke, builtin, Sem.run_bind, Sem.run_pure, Result.andThen_ok, List.map_toArray, List.map_cons, List.map_nil, hd, hs, hrun]
  exact hK' _ _ (hK w' k1 k2)
end
/-- The second list of a law. -/
def sdL (ys : List Nat) (n : Nat) : List Nat := padT (rsL ys (min ys.length n)) n
theorem sdL_len (ys : List Nat) (n : Nat) : (sdL ys n).length = n := padT_len (by rw [rsL_len]; exact Nat.min_le_right _ _)
theorem sdL_al (ys : List Nat) (n : Nat) : Al (sdL ys n) := (rsL_al _ _).pad n
end Go.Proofs.Ythbnkhgcfcigjaa
