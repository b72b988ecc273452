/- When two items are told the same. -/
import Derived.Test.YtbobnopnfjcajaaRlpCnt
import Derived.Test.YtbobnopnfjcajaaPx6
namespace Go.Proofs.Ytbobnopnfjcajaa.Base
set_option linter.unusedVariables false
set_option linter.unusedSimpArgs false
open Go Go.RowKit Go.Proofs.YtbobnopnfjcajaaW.PrintWords Go.Proofs.YtbobnopnfjcajaaW.PrintLast Go.Proofs.YtbobnopnfjcajaaW.PrintMore Go.Proofs.Ytbobnopnfjcajaa.P

mutual
theorem lenS_of_size : ∀ (x : S25) (n d : Int) (h : (sizeS x n d).2.1 = 0) (hl : (encS x).length ≤ 70000), lenS x
  | ⟨b, s, l⟩, n, d, h, hl => by
    rw [sizeS] at h
    rw [encS] at hl
    rw [lenS]
    split at h
    · simp at h
    · split at h
      · simp at h
      · rename_i h2
        by_cases hb : b = true
        · have hs : s.length = 0 := by
            by_cases e : 0 < s.length
            · exact absurd (.inl ⟨hb, e⟩) h2
            · omega
          rw [if_pos hb, List.length_append] at hl
          have hll := encL_len l
          have ho : ¬ ownS s = true := fun e => by have := (of_decide_eq_true e).1; omega
          rw [if_neg ho] at h
          exact ⟨by omega, by omega, lenL_of_size l _ _ _ h (by omega)⟩
        · have hl0 : l = [] := List.eq_nil_of_length_eq_zero (by
            have : ¬ 0 < l.length := fun e => h2 (.inr ⟨by cases b <;> simp_all, e⟩)
            omega)
          rw [if_neg hb] at hl
          subst hl0
          refine ⟨?_, by simp, trivial⟩
          split at hl
          · omega
          · rw [List.length_append] at hl; omega
theorem lenL_of_size : ∀ (l : List S25) (n d s : Int) (h : (sizeL l n d s).2.1 = 0) (hl : (encL l).length ≤ 70000), lenS.lenL l
  | [], n, d, s, h, hl => trivial
  | x :: l, n, d, s, h, hl => by
    rw [sizeL] at h
    rw [encL, List.length_append] at hl
    split at h
    · rename_i c
      exact ⟨lenS_of_size x n d c (by omega), lenL_of_size l _ _ _ h (by omega)⟩
    · rename_i c
      exact absurd h c
end
theorem same_l0 (b : Bool) (s : List Int) (l : List S25) (hl : l.length ≤ 140737488351232) (hp : ∀ x ∈ l, Conv (fun k => moraineref4_Same.f k x.f0 x.f1 x.f2 x.f0 x.f1 x.f2) true) (j : Nat) :
    ∀ (i : Nat), i + j = l.length → Conv (fun k => moraineref4_Same.l0 k (i : Int) b s l b s l) true := by
  induction j with
  | zero =>
    intro i hi
    refine Conv.succ ?_
    simp only [moraineref4_Same.l0]
    exact Conv.iteF (by omega) (Conv.pure _)
  | succ j ih =>
    intro i hi
    refine Conv.succ ?_
    simp only [moraineref4_Same.l0]
    rw [wrap64_id (n := (i : Int) + 1) (by omega) (by omega)]
    exact Conv.iteT (by omega) (Conv.iteT (by omega) (Conv.iteT (by omega) (Conv.bind (hp _ (rdT_mem (by omega))) (Conv.iteT rfl (ih (i + 1) (by omega))))))
theorem same_refl : ∀ (x : S25) (hx : lenS x), Conv (fun k => moraineref4_Same.f k x.f0 x.f1 x.f2 x.f0 x.f1 x.f2) true
  | ⟨b, s, l⟩, hx => by
    rw [lenS] at hx
    refine Conv.succ ?_
    simp only [moraineref4_Same.f]
    have start : ∀ c : Bool, c = false → Conv (fun k => moraineref4_Same.j0 k c b s l b s l) true := by
      intro c hc
      subst hc
      refine Conv.succ ?_
      simp only [moraineref4_Same.j0]
      exact Conv.iteF (by decide) (same_l0 b s l hx.2.1 (fun y hy => same_refl y (lenL_mem hx.2.2 y hy)) l.length 0 (by omega))
    exact Conv.iteF (by simp) (Conv.iteT trivial (start _ (by simp)))
termination_by x => SizeOf.sizeOf x
decreasing_by
  have := List.sizeOf_lt_of_mem hy
  simp only [S25.mk.sizeOf_spec]
  omega
end Go.Proofs.Ytbobnopnfjcajaa.Base
