/- How great an item may be that a law looks at. -/
import Derived.Test.YtbobnopnfjcajaaRlp
import Derived.Test.YtbobnopnfjcajaaPx5
import Derived.Test.YtbobnopnfjcajaaPx5
namespace Go.Proofs.Ytbobnopnfjcajaa.Base
set_option linter.unusedVariables false
set_option linter.unusedSimpArgs false
open Go Go.RowKit Go.Proofs.YtbobnopnfjcajaaW.PrintWords Go.Proofs.YtbobnopnfjcajaaW.PrintLast Go.Proofs.YtbobnopnfjcajaaW.PrintMore Go.Proofs.Ytbobnopnfjcajaa.P

mutual
def cntS : S25 → Int → Int
  | ⟨_, s, l⟩, d => if d = 0 ∧ 0 < l.length then 401 else cntL l (d - 1) (1 + (s.length : Int) / 50)
def cntL : List S25 → Int → Int → Int
  | [], _, n => n
  | x :: l, d, n => if n ≤ 400 then cntL l d (n + cntS x d) else n
end
/-- the lengths that a law's argument may have -/
def lenS : S25 → Prop
  | ⟨_, s, l⟩ => s.length ≤ 140737488351232 ∧ l.length ≤ 140737488351232 ∧ lenL l
where lenL : List S25 → Prop
  | [] => True
  | x :: l => lenS x ∧ lenL l
theorem lenL_mem {l : List S25} (h : lenS.lenL l) : ∀ x ∈ l, lenS x := by
  induction l with
  | nil => intro x hx; cases hx
  | cons y l ih =>
    intro x hx
    rcases List.mem_cons.mp hx with e | e
    · rw [e]; exact h.1
    · exact ih h.2 x e
mutual
theorem cntS_range : ∀ (x : S25) (d : Int) (hd : 0 ≤ d) (hx : lenS x), 1 ≤ cntS x d ∧ cntS x d ≤ 2814749768000 + 400 * (d + 2)
  | ⟨b, s, l⟩, d, hd, hx => by
    rw [lenS] at hx
    rw [cntS]
    split
    · omega
    · rename_i h
      by_cases h0 : d = 0
      · have hl : l = [] := List.eq_nil_of_length_eq_zero (by
          have : ¬ 0 < l.length := fun e => h ⟨h0, e⟩
          omega)
        rw [hl, cntL]; omega
      · have := cntL_range l (d - 1) (1 + (s.length : Int) / 50) (by omega) hx.2.2
        omega
theorem cntL_range : ∀ (l : List S25) (d n : Int) (hd : 0 ≤ d) (hx : lenS.lenL l), n ≤ cntL l d n ∧ (cntL l d n ≤ n ∨ cntL l d n ≤ 400 + 2814749768000 + 400 * (d + 2))
  | [], d, n, hd, hx => by rw [cntL]; omega
  | x :: l, d, n, hd, hx => by
    rw [cntL]
    split
    · have h1 := cntS_range x d hd hx.1
      have h2 := cntL_range l d (n + cntS x d) hd hx.2
      omega
    · omega
end
mutual
theorem cntS_tot : ∀ (x : S25) (d : Int) (hd : 0 ≤ d) (hx : lenS x) (h : cntS x d ≤ 400), (totS x : Int) ≤ 58 * cntS x d
  | ⟨b, s, l⟩, d, hd, hx, h => by
    rw [lenS] at hx
    rw [cntS] at h ⊢
    rw [totS]
    split at h
    · omega
    · rename_i hc
      rw [if_neg hc]
      by_cases h0 : d = 0
      · have hl : l = [] := List.eq_nil_of_length_eq_zero (by
          have : ¬ 0 < l.length := fun e => hc ⟨h0, e⟩
          omega)
        rw [hl, cntL, totL]; omega
      · have := cntL_tot l (d - 1) (1 + (s.length : Int) / 50) (by omega) (by omega) hx.2.2 h
        omega
theorem cntL_tot : ∀ (l : List S25) (d n : Int) (hd : 0 ≤ d) (hn : 1 ≤ n) (hx : lenS.lenL l) (h : cntL l d n ≤ 400), (totL l : Int) ≤ 58 * (cntL l d n - n)
  | [], d, n, hd, hn, hx, h => by rw [cntL, totL]; omega
  | x :: l, d, n, hd, hn, hx, h => by
    rw [cntL] at h ⊢
    rw [totL]
    split at h
    · rename_i hc
      rw [if_pos hc]
      have h1 := cntS_range x d hd hx.1
      have h2 := cntL_range l d (n + cntS x d) hd hx.2
      have h3 := cntL_tot l d (n + cntS x d) hd (by omega) hx.2 h
      have h4 := cntS_tot x d hd hx.1 (by omega)
      omega
    · omega
end
theorem count_l0 (b : Bool) (s : List Int) (l : List S25) (hl : l.length ≤ 140737488351232) (hx : lenS.lenL l) (d : Int) (hd : 1 ≤ d ∧ d ≤ 18) (hp : ∀ x ∈ l, Conv (fun k => morainelaw4_count.f k x.f0 x.f1 x.f2 (d - 1)) (cntS x (d - 1))) (j : Nat) :
    ∀ (i : Nat) (n : Int), i + j = l.length → 1 ≤ n ∧ n ≤ 140737488351232 → Conv (fun k => morainelaw4_count.l0 k d n (i : Int) b s l) (cntL (l.drop i) (d - 1) n) := by
  induction j with
  | zero =>
    intro i n hi hn
    refine Conv.succ ?_
    simp only [morainelaw4_count.l0]
    rw [List.drop_eq_nil_of_le (by omega), cntL]
    exact Conv.iteF (by omega) (Conv.pure _)
  | succ j ih =>
    intro i n hi hn
    refine Conv.succ ?_
    simp only [morainelaw4_count.l0]
    rw [dropT (l := l) (i := i) (by omega), cntL, wrap64_id (n := d - 1) (by omega) (by omega), wrap64_id (n := (i : Int) + 1) (by omega) (by omega)]
    refine Conv.iteT (by omega) (Conv.ite (fun c => ?_) fun c => ?_)
    · have hm := rdT_mem (l := l) (i := i) (by omega)
      have hr := cntS_range (rd_T25 l (i : Int)) (d - 1) (by omega) (lenL_mem hx _ hm)
      rw [if_pos c]
      refine Conv.iteT (by omega) (Conv.bind (hp _ hm) ?_)
      rw [wrap64_id (n := n + _) (by omega) (by omega)]
      exact ih (i + 1) _ (by omega) (by omega)
    · rw [if_neg c]; exact Conv.pure _
theorem count_conv : ∀ (x : S25) (d : Int) (hd : 0 ≤ d ∧ d ≤ 18) (hx : lenS x), Conv (fun k => morainelaw4_count.f k x.f0 x.f1 x.f2 d) (cntS x d)
  | ⟨b, s, l⟩, d, hd, hx => by
    rw [lenS] at hx
    rw [cntS]
    refine Conv.succ ?_
    simp only [morainelaw4_count.f]
    rw [wrap64_id (n := (s.length : Int) / 50) (by omega) (by omega), wrap64_id (n := 1 + (s.length : Int) / 50) (by omega) (by omega)]
    have start : ∀ c : Bool, c = false → (d = 0 → l = []) → Conv (fun k => morainelaw4_count.j0 k d (1 + (s.length : Int) / 50) c b s l) (cntL l (d - 1) (1 + (s.length : Int) / 50)) := by
      intro c hc hz
      subst hc
      refine Conv.succ ?_
      simp only [morainelaw4_count.j0]
      refine Conv.iteF (by decide) ?_
      by_cases h0 : d = 0
      · rw [hz h0, cntL]
        refine Conv.succ ?_
        simp only [morainelaw4_count.l0]
        exact Conv.iteF (by simp) (Conv.pure _)
      · have := count_l0 b s l hx.2.1 hx.2.2 d (by omega) (fun y hy => count_conv y (d - 1) (by omega) (lenL_mem hx.2.2 y hy)) l.length 0 (1 + (s.length : Int) / 50) (by omega) (by omega)
        simpa using this
    by_cases h0 : d = 0
    · refine Conv.iteT h0 ?_
      by_cases h1 : 0 < l.length
      · rw [if_pos ⟨h0, h1⟩, show decide ((l.length : Int) > 0) = true from decide_eq_true (by omega)]
        refine Conv.succ ?_
        simp only [morainelaw4_count.j0]
        exact Conv.iteT (by trivial) (Conv.pure _)
      · rw [if_neg (fun h => h1 h.2)]
        exact start _ (decide_eq_false (by omega)) (fun _ => List.eq_nil_of_length_eq_zero (by omega))
    · rw [if_neg (fun h => h0 h.1)]
      exact Conv.iteF h0 (start _ rfl (fun h => absurd h h0))
termination_by x => SizeOf.sizeOf x
decreasing_by
  have := List.sizeOf_lt_of_mem hy
  simp only [S25.mk.sizeOf_spec]
  omega
theorem few_conv (x : S25) (hx : lenS x) : Conv (fun k => morainelaw4_few.f k x.f0 x.f1 x.f2) (decide (cntS x 18 ≤ 400)) := by
  unfold morainelaw4_few.f
  exact Conv.bind (count_conv x 18 (by omega) hx) (Conv.pure _)
mutual
theorem enc_tot : ∀ (x : S25) (ht : totS x < 4611686018427387904), (encS x).length ≤ totS x
  | ⟨b, s, l⟩, ht => by
    rw [totS] at ht
    have h1 := encL_tot l (by omega)
    rw [encS, totS]
    by_cases hb : b = true
    · rw [if_pos hb, List.length_append]
      have := headS_le (b := 192) (n := (encL l).length) (by omega)
      omega
    · rw [if_neg hb]
      split
      · omega
      · rw [List.length_append]
        have := headS_le (b := 128) (n := s.length) (by omega)
        omega
theorem encL_tot : ∀ (l : List S25) (ht : totL l < 4611686018427387904), (encL l).length ≤ totL l
  | [], ht => by rw [encL, totL]; simp
  | x :: l, ht => by
    rw [totL] at ht
    have h1 := enc_tot x (by omega)
    have h2 := encL_tot l (by omega)
    rw [encL, totL, List.length_append]; omega
end
end Go.Proofs.Ytbobnopnfjcajaa.Base
