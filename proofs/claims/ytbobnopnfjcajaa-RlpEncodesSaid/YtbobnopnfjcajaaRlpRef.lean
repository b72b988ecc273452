/- The document's encoding, told: the same bytes, the same first fault. -/
import Derived.Test.YtbobnopnfjcajaaRlp
import Derived.Test.YtbobnopnfjcajaaPx19
import Derived.Test.YtbobnopnfjcajaaPx20
import Derived.Test.YtbobnopnfjcajaaPx26
namespace Go.Proofs.Ytbobnopnfjcajaa.Base
set_option linter.unusedVariables false
set_option linter.unusedSimpArgs false
open Go Go.RowKit Go.Proofs.YtbobnopnfjcajaaW.PrintWords Go.Proofs.YtbobnopnfjcajaaW.PrintLast Go.Proofs.YtbobnopnfjcajaaW.PrintMore Go.Proofs.Ytbobnopnfjcajaa.P

theorem rhead_l0 {b : Nat} (hb : b ≤ 192) (n : Nat) : n < 9223372036854775000 → ∀ acc : List Int, acc.length + (digS n).length ≤ 8 →
    Conv (fun k => moraineref4_head.l0 k (b : Int) acc (n : Int)) (((b + 55 + (digS n ++ acc).length : Nat) : Int) :: (digS n ++ acc)) := by
  induction n using Nat.strongRecOn with
  | ind n ih =>
    intro hn acc hl
    refine Conv.succ ?_
    simp only [moraineref4_head.l0]
    by_cases h0 : n = 0
    · subst h0
      rw [digS_zero] at hl ⊢
      simp only [List.length_nil, Nat.add_zero] at hl
      refine Conv.iteF (by omega) (Conv.bindc rfl (Conv.iteT (by simp; omega) (Conv.eq (Conv.pure _) ?_)))
      rw [wrap64_id (n := (b : Int) + 55) (by omega) (by omega), wrap64_id (by omega) (by omega)]
      simp only [List.cons_append, List.nil_append]
      congr 1
      omega
    · rw [digS_pos (by omega)] at hl ⊢
      simp only [List.length_append, List.length_singleton] at hl
      refine Conv.iteT (by omega) (Conv.bindc rfl (Conv.iteT (by simp; omega) ?_))
      rw [Int.tmod_eq_emod_of_nonneg (by omega), Int.tdiv_eq_ediv_of_nonneg (by omega), wrap64_id (by omega) (by omega)]
      have e1 : (n : Int) / 256 = ((n / 256 : Nat) : Int) := by omega
      have e2 : (n : Int) % 256 % 256 = ((n % 256 : Nat) : Int) := by omega
      rw [e1, e2]
      have := ih (n / 256) (by omega) (by omega) ([((n % 256 : Nat) : Int)] ++ acc) (by simp; omega)
      rwa [← List.append_assoc] at this
theorem rhead_conv {b n : Nat} (hb : b ≤ 192) (h : n < 9223372036854775000) : Conv (fun k => moraineref4_head.f k (b : Int) (n : Int)) (headS b n) := by
  have hl := digS_length 8 n (by have : (256 : Nat) ^ 8 = 18446744073709551616 := by decide
                                 rw [this]; omega)
  unfold moraineref4_head.f headS
  by_cases hn : n ≤ 55
  · rw [if_pos hn]
    refine Conv.iteT (by omega) (Conv.eq (Conv.pure _) ?_)
    rw [wrap64_id (by omega) (by omega)]
    congr 1
    omega
  · rw [if_neg hn]
    have := rhead_l0 hb n h [] (by simp; omega)
    rw [List.append_nil] at this
    exact Conv.iteF (by omega) this
theorem rbytes_enc {s : List Int} (hs : s.length < 140737488000000) : Conv (fun k => moraineref4_Bytes.f k s) (encS ⟨false, s, []⟩) := by
  unfold moraineref4_Bytes.f
  have hh := headS_le (b := 128) (n := s.length) (by omega)
  have big : ¬ ownS s = true → Conv (fun k => (moraineref4_head.f k 128 (s.length : Int)).bind fun t210 => (if t210.length + s.length < 140737488355328 then (some (t210 ++ s)) else (none))) (encS ⟨false, s, []⟩) := by
    intro ho
    rw [encS, if_neg (by decide), if_neg ho]
    exact Conv.bind (rhead_conv (b := 128) (by omega) (by omega)) (Conv.iteT (by omega) (Conv.pure _))
  refine Conv.ite (fun c => Conv.iteT (by omega) (Conv.ite (fun c2 => ?_) fun c2 => ?_)) fun c => ?_
  · have ho : ownS s = true := decide_eq_true ⟨by omega, c2⟩
    rw [encS, if_neg (by decide), if_pos ho]
    refine Conv.eq (Conv.pure _) ?_
    match s, c with
    | [x], _ => rfl
  · exact big (fun ho => c2 (of_decide_eq_true ho).2)
  · exact big (fun ho => c (by have := (of_decide_eq_true ho).1; omega))
theorem rlist_conv {p : List Int} (hp : p.length < 140737488000000) : Conv (fun k => moraineref4_List.f k p) (headS 192 p.length ++ p) := by
  unfold moraineref4_List.f
  have hh := headS_le (b := 192) (n := p.length) (by omega)
  exact Conv.bind (rhead_conv (b := 192) (by omega) (by omega)) (Conv.iteT (by omega) (Conv.pure _))
theorem of_l0 (b : Bool) (s : List Int) (l : List S25) (hp : ∀ x ∈ l, Conv (fun k => moraineref4_Of.f k x.f0 x.f1 x.f2) (encS x)) (hl : l.length ≤ 60000) (j : Nat) :
    ∀ (i : Nat) (acc : List Int), i + j = l.length → acc.length + (encL (l.drop i)).length ≤ 60000 →
      Conv (fun k => moraineref4_Of.l0 k acc (i : Int) b s l) (headS 192 (acc ++ encL (l.drop i)).length ++ (acc ++ encL (l.drop i))) := by
  induction j with
  | zero =>
    intro i acc hi hb
    refine Conv.succ ?_
    simp only [moraineref4_Of.l0]
    rw [List.drop_eq_nil_of_le (by omega)] at hb ⊢
    simp only [encL, List.append_nil] at hb ⊢
    exact Conv.iteF (by omega) (Conv.bind (rlist_conv (by omega)) (Conv.pure _))
  | succ j ih =>
    intro i acc hi hb
    refine Conv.succ ?_
    simp only [moraineref4_Of.l0]
    rw [dropT (l := l) (i := i) (by omega)] at hb ⊢
    simp only [encL, List.length_append] at hb
    refine Conv.iteT (by omega) (Conv.iteT (by omega) (Conv.iteT (by omega) (Conv.bind (hp _ (rdT_mem (by omega))) (Conv.iteT (by omega) ?_))))
    rw [wrap64_id (by omega) (by omega)]
    have := ih (i + 1) (acc ++ encS (rd_T25 l (i : Int))) (by omega) (by rw [List.length_append]; omega)
    rw [show acc ++ encL (rd_T25 l (i : Int) :: l.drop (i + 1)) = acc ++ encS (rd_T25 l (i : Int)) ++ encL (l.drop (i + 1)) by simp only [encL, List.append_assoc]]
    exact this
/-- as many bytes as an item's form lets in -/
theorem of_conv : ∀ (x : S25) (hx : (encS x).length ≤ 60000), Conv (fun k => moraineref4_Of.f k x.f0 x.f1 x.f2) (encS x)
  | ⟨b, s, l⟩, hx => by
    refine Conv.succ ?_
    simp only [moraineref4_Of.f]
    by_cases hb : b = true
    · rw [encS, if_pos hb] at hx ⊢
      simp only [List.length_append] at hx
      have hll := encL_len l
      have := of_l0 b s l (fun y hy => of_conv y (by have := encL_mem hy; omega)) (by omega) l.length 0 [] (by omega) (by simp; omega)
      refine Conv.iteT hb ?_
      simpa using this
    · have hs : (encS ⟨b, s, l⟩) = encS ⟨false, s, []⟩ := by
        cases b with
        | true => exact absurd rfl hb
        | false => simp [encS]
      rw [hs] at hx ⊢
      refine Conv.iteF hb (Conv.bind (rbytes_enc ?_) (Conv.pure _))
      rw [encS, if_neg (by decide)] at hx
      split at hx
      · omega
      · rw [List.length_append] at hx; omega
termination_by x => SizeOf.sizeOf x
decreasing_by
  have := List.sizeOf_lt_of_mem hy
  simp only [S25.mk.sizeOf_spec]
  omega
mutual
/-- how many items are met, and the first fault: a state carried through -/
def metS : S25 → Int → Int → Int → Int × Int
  | ⟨b, s, l⟩, n, e, d => if e ≠ 0 then (n, e) else if d > 16 ∨ n = 4096 then (n, 43) else if (b = true ∧ 0 < s.length) ∨ (b = false ∧ 0 < l.length) then (n + 1, 40) else metL l (n + 1) 0 (d + 1)
def metL : List S25 → Int → Int → Int → Int × Int
  | [], n, e, _ => (n, e)
  | x :: l, n, e, d => if e = 0 then metL l (metS x n e d).1 (metS x n e d).2 d else (n, e)
end
mutual
theorem metS_size : ∀ (x : S25) (n d : Int), metS x n 0 d = ((sizeS x n d).2.2, (sizeS x n d).2.1)
  | ⟨b, s, l⟩, n, d => by
    rw [metS, sizeS, if_neg (by decide)]
    by_cases h1 : d > 16 ∨ n = 4096
    · rw [if_pos h1, if_pos h1]
    · rw [if_neg h1, if_neg h1]
      by_cases h2 : (b = true ∧ 0 < s.length) ∨ (b = false ∧ 0 < l.length)
      · rw [if_pos h2, if_pos h2]
      · rw [if_neg h2, if_neg h2]
        by_cases h3 : ownS s = true
        · rw [if_pos h3]
          have h4 := (of_decide_eq_true h3).1
          have hl : l = [] := by
            cases b with
            | true => exact absurd (.inl ⟨rfl, by omega⟩) h2
            | false => exact List.eq_nil_of_length_eq_zero (by
                          have : ¬ 0 < l.length := fun e => h2 (.inr ⟨rfl, e⟩)
                          omega)
          rw [hl, metL]
        · rw [if_neg h3]
          exact metL_size l (n + 1) (d + 1) (s.length : Int)
theorem metL_size : ∀ (l : List S25) (n d acc : Int), metL l n 0 d = ((sizeL l n d acc).2.2, (sizeL l n d acc).2.1)
  | [], n, d, acc => by rw [metL, sizeL]
  | x :: l, n, d, acc => by
    rw [metL, sizeL, if_pos rfl, metS_size x n d]
    by_cases h : (sizeS x n d).2.1 = 0
    · rw [if_pos h]
      simp only [h]
      exact metL_size l (sizeS x n d).2.2 d (acc + (sizeS x n d).1)
    · rw [if_neg h]
      cases l with
      | nil => rw [metL]
      | cons y l => rw [metL, if_neg h]
end
theorem met_range (x : S25) (n e d : Int) (hn : 0 ≤ n ∧ n ≤ 4096) (he : e = 0) (ht : totS x < 4611686018427387904) : 0 ≤ (metS x n e d).1 ∧ (metS x n e d).1 ≤ 4096 := by
  subst he
  rw [metS_size]
  have := sizeS_range x n d hn ht
  simp only
  omega
theorem item_l0 (b : Bool) (s : List Int) (l : List S25) (hl : l.length < 4611686018427387904) (ht : totL l < 4611686018427387904) (d : Int) (hd : -1 ≤ d ∧ d ≤ 17)
    (hp : ∀ x ∈ l, ∀ n : Int, 0 ≤ n ∧ n ≤ 4096 → Conv (fun k => moraineref4_walk_item.f k n 0 x.f0 x.f1 x.f2 (d + 1)) (metS x n 0 (d + 1))) (j : Nat) :
    ∀ (i : Nat) (n e : Int), i + j = l.length → 0 ≤ n ∧ n ≤ 4096 → Conv (fun k => moraineref4_walk_item.l0 k d (i : Int) n e b s l) (metL (l.drop i) n e (d + 1)) := by
  induction j with
  | zero =>
    intro i n e hi hn
    refine Conv.succ ?_
    simp only [moraineref4_walk_item.l0]
    rw [List.drop_eq_nil_of_le (by omega), metL]
    exact Conv.iteF (by omega) (Conv.pure _)
  | succ j ih =>
    intro i n e hi hn
    refine Conv.succ ?_
    simp only [moraineref4_walk_item.l0]
    rw [dropT (l := l) (i := i) (by omega), metL, wrap64_id (n := d + 1) (by omega) (by omega), wrap64_id (n := (i : Int) + 1) (by omega) (by omega)]
    refine Conv.iteT (by omega) (Conv.ite (fun c => ?_) fun c => ?_)
    · subst c
      rw [if_pos rfl]
      have hm := rdT_mem (l := l) (i := i) (by omega)
      have hr := met_range (rd_T25 l (i : Int)) n 0 (d + 1) hn rfl (by have := totL_mem hm; omega)
      exact Conv.iteT (by omega) (Conv.bind (hp _ hm n hn) (ih (i + 1) _ _ (by omega) hr))
    · rw [if_neg c]; exact Conv.pure _
theorem item_conv : ∀ (x : S25) (n d : Int) (hn : 0 ≤ n ∧ n ≤ 4096) (hd : 0 ≤ d ∧ d ≤ 17) (ht : totS x < 4611686018427387904), Conv (fun k => moraineref4_walk_item.f k n 0 x.f0 x.f1 x.f2 d) (metS x n 0 d)
  | ⟨b, s, l⟩, n, d, hn, hd, ht => by
    rw [totS] at ht
    rw [metS, if_neg (by decide)]
    refine Conv.succ ?_
    simp only [moraineref4_walk_item.f]
    refine Conv.iteT (by trivial) ?_
    have deep : ∀ c : Bool, c = true → Conv (fun k => moraineref4_walk_item.j0 k d c n 0 b s l) (n, 43) := by
      intro c hc
      subst hc
      refine Conv.succ ?_
      simp only [moraineref4_walk_item.j0]
      exact Conv.iteT (by trivial) (Conv.pure _)
    by_cases h1 : d > 16
    · rw [if_pos (.inl h1)]
      exact Conv.iteT h1 (deep _ rfl)
    · refine Conv.iteF h1 ?_
      by_cases h2 : n = 4096
      · rw [if_pos (.inr h2)]
        exact deep _ (beq_iff_eq.mpr h2)
      · rw [if_neg (by omega), show (n == 4096) = false from beq_eq_false_iff_ne.mpr h2]
        refine Conv.succ ?_
        simp only [moraineref4_walk_item.j0]
        rw [wrap64_id (n := n + 1) (by omega) (by omega)]
        refine Conv.iteF (by decide) ?_
        have rest : ∀ c : Bool, c = false → Conv (fun k => moraineref4_walk_item.j1 k d c (n + 1) 0 b s l) (metL l (n + 1) 0 (d + 1)) := by
          intro c hc
          subst hc
          refine Conv.succ ?_
          simp only [moraineref4_walk_item.j1]
          have hll := totL_len l
          have := item_l0 b s l (by omega) (by omega) d (by omega) (fun y hy m hm => item_conv y m (d + 1) hm (by omega) (by have := totL_mem hy; omega)) l.length 0 (n + 1) 0 (by omega) (by omega)
          refine Conv.iteF (by decide) ?_
          simpa using this
        have bad : ∀ c : Bool, c = true → Conv (fun k => moraineref4_walk_item.j1 k d c (n + 1) 0 b s l) (n + 1, 40) := by
          intro c hc
          subst hc
          refine Conv.succ ?_
          simp only [moraineref4_walk_item.j1]
          exact Conv.iteT (by trivial) (Conv.pure _)
        by_cases hb : b = true
        · refine Conv.iteT hb (Conv.ite (fun c => ?_) fun c => ?_)
          · rw [if_pos (.inl ⟨hb, by omega⟩)]; exact bad _ rfl
          · rw [if_neg (fun h => h.elim (fun h => c (by have := h.2; omega)) (fun h => by rw [hb] at h; exact absurd h.1 (by decide)))]; exact rest _ rfl
        · have hbf : b = false := by cases b <;> simp_all
          refine Conv.iteF hb ?_
          by_cases h3 : 0 < l.length
          · rw [if_pos (.inr ⟨hbf, h3⟩)]; exact bad _ (decide_eq_true (by omega))
          · rw [if_neg (fun h => h.elim (fun h => hb h.1) (fun h => h3 h.2))]; exact rest _ (decide_eq_false (by omega))
termination_by x => SizeOf.sizeOf x
decreasing_by
  have := List.sizeOf_lt_of_mem hy
  simp only [S25.mk.sizeOf_spec]
  omega
theorem rencode_conv (x : S25) (ht : totS x < 4611686018427387904) (hx : (encS x).length ≤ 60000) : Conv (fun k => moraineref4_Encode.f k x.f0 x.f1 x.f2) (encode x) := by
  unfold moraineref4_Encode.f encode
  refine Conv.bind (item_conv x 0 1 (by omega) (by omega) ht) ?_
  rw [metS_size]
  refine Conv.ite (fun c => ?_) fun c => ?_
  · rw [if_neg (by simpa using c), if_neg (by omega)]
    exact Conv.bind (of_conv x hx) (Conv.iteF (by omega) (Conv.pure _))
  · rw [if_pos c]; exact Conv.pure _
mutual
def cntS : S25 → Int → Int
  | ⟨_, s, l⟩, d => if d = 0 ∧ 0 < l.length then 401 else cntL l (d - 1) (1 + (s.length : Int) / 50)
def cntL : List S25 → Int → Int → Int
  | [], _, n => n
  | x :: l, d, n => if n ≤ 400 then cntL l d (n + cntS x d) else n
end
/-- the lengths that a law's argument may have -/
def lenS : S25 → Prop
  | ⟨_, s, l⟩ => s.length ≤ 140737488351232 ∧ l.length ≤ 140737488351232 ∧ lenL l
where lenL : List S25 → Prop
  | [] => True
  | x :: l => lenS x ∧ lenL l
theorem lenL_mem {l : List S25} (h : lenS.lenL l) : ∀ x ∈ l, lenS x := by
  induction l with
  | nil => intro x hx; cases hx
  | cons y l ih =>
    intro x hx
    rcases List.mem_cons.mp hx with e | e
    · rw [e]; exact h.1
    · exact ih h.2 x e
mutual
theorem cntS_range : ∀ (x : S25) (d : Int) (hd : 0 ≤ d) (hx : lenS x), 1 ≤ cntS x d ∧ cntS x d ≤ 2814749768000 + 400 * (d + 2)
  | ⟨b, s, l⟩, d, hd, hx => by
    rw [lenS] at hx
    rw [cntS]
    split
    · omega
    · rename_i h
      by_cases h0 : d = 0
      · have hl : l = [] := List.eq_nil_of_length_eq_zero (by
          have : ¬ 0 < l.length := fun e => h ⟨h0, e⟩
          omega)
        rw [hl, cntL]; omega
      · have := cntL_range l (d - 1) (1 + (s.length : Int) / 50) (by omega) hx.2.2
        omega
theorem cntL_range : ∀ (l : List S25) (d n : Int) (hd : 0 ≤ d) (hx : lenS.lenL l), n ≤ cntL l d n ∧ (cntL l d n ≤ n ∨ cntL l d n ≤ 400 + 2814749768000 + 400 * (d + 2))
  | [], d, n, hd, hx => by rw [cntL]; omega
  | x :: l, d, n, hd, hx => by
    rw [cntL]
    split
    · have h1 := cntS_range x d hd hx.1
      have h2 := cntL_range l d (n + cntS x d) hd hx.2
      omega
    · omega
end
mutual
theorem cntS_tot : ∀ (x : S25) (d : Int) (hd : 0 ≤ d) (hx : lenS x) (h : cntS x d ≤ 400), (totS x : Int) ≤ 58 * cntS x d
  | ⟨b, s, l⟩, d, hd, hx, h => by
    rw [lenS] at hx
    rw [cntS] at h ⊢
    rw [totS]
    split at h
    · omega
    · rename_i hc
      rw [if_neg hc]
      by_cases h0 : d = 0
      · have hl : l = [] := List.eq_nil_of_length_eq_zero (by
          have : ¬ 0 < l.length := fun e => hc ⟨h0, e⟩
          omega)
        rw [hl, cntL, totL]; omega
      · have := cntL_tot l (d - 1) (1 + (s.length : Int) / 50) (by omega) (by omega) hx.2.2 h
        omega
theorem cntL_tot : ∀ (l : List S25) (d n : Int) (hd : 0 ≤ d) (hn : 1 ≤ n) (hx : lenS.lenL l) (h : cntL l d n ≤ 400), (totL l : Int) ≤ 58 * (cntL l d n - n)
  | [], d, n, hd, hn, hx, h => by rw [cntL, totL]; omega
  | x :: l, d, n, hd, hn, hx, h => by
    rw [cntL] at h ⊢
    rw [totL]
    split at h
    · rename_i hc
      rw [if_pos hc]
      have h1 := cntS_range x d hd hx.1
      have h2 := cntL_range l d (n + cntS x d) hd hx.2
      have h3 := cntL_tot l d (n + cntS x d) hd (by omega) hx.2 h
      have h4 := cntS_tot x d hd hx.1 (by omega)
      omega
    · omega
end
theorem count_l0 (b : Bool) (s : List Int) (l : List S25) (hl : l.length ≤ 140737488351232) (hx : lenS.lenL l) (d : Int) (hd : 1 ≤ d ∧ d ≤ 18) (hp : ∀ x ∈ l, Conv (fun k => morainelaw4_count.f k x.f0 x.f1 x.f2 (d - 1)) (cntS x (d - 1))) (j : Nat) :
    ∀ (i : Nat) (n : Int), i + j = l.length → 1 ≤ n ∧ n ≤ 140737488351232 → Conv (fun k => morainelaw4_count.l0 k d n (i : Int) b s l) (cntL (l.drop i) (d - 1) n) := by
  induction j with
  | zero =>
    intro i n hi hn
    refine Conv.succ ?_
    simp only [morainelaw4_count.l0]
    rw [List.drop_eq_nil_of_le (by omega), cntL]
    exact Conv.iteF (by omega) (Conv.pure _)
  | succ j ih =>
    intro i n hi hn
    refine Conv.succ ?_
    simp only [morainelaw4_count.l0]
    rw [dropT (l := l) (i := i) (by omega), cntL, wrap64_id (n := d - 1) (by omega) (by omega), wrap64_id (n := (i : Int) + 1) (by omega) (by omega)]
    refine Conv.iteT (by omega) (Conv.ite (fun c => ?_) fun c => ?_)
    · have hm := rdT_mem (l := l) (i := i) (by omega)
      have hr := cntS_range (rd_T25 l (i : Int)) (d - 1) (by omega) (lenL_mem hx _ hm)
      rw [if_pos c]
      refine Conv.iteT (by omega) (Conv.bind (hp _ hm) ?_)
      rw [wrap64_id (n := n + _) (by omega) (by omega)]
      exact ih (i + 1) _ (by omega) (by omega)
    · rw [if_neg c]; exact Conv.pure _
theorem count_conv : ∀ (x : S25) (d : Int) (hd : 0 ≤ d ∧ d ≤ 18) (hx : lenS x), Conv (fun k => morainelaw4_count.f k x.f0 x.f1 x.f2 d) (cntS x d)
  | ⟨b, s, l⟩, d, hd, hx => by
    rw [lenS] at hx
    rw [cntS]
    refine Conv.succ ?_
    simp only [morainelaw4_count.f]
    rw [wrap64_id (n := (s.length : Int) / 50) (by omega) (by omega), wrap64_id (n := 1 + (s.length : Int) / 50) (by omega) (by omega)]
    have start : ∀ c : Bool, c = false → (d = 0 → l = []) → Conv (fun k => morainelaw4_count.j0 k d (1 + (s.length : Int) / 50) c b s l) (cntL l (d - 1) (1 + (s.length : Int) / 50)) := by
      intro c hc hz
      subst hc
      refine Conv.succ ?_
      simp only [morainelaw4_count.j0]
      refine Conv.iteF (by decide) ?_
      by_cases h0 : d = 0
      · rw [hz h0, cntL]
        refine Conv.succ ?_
        simp only [morainelaw4_count.l0]
        exact Conv.iteF (by simp) (Conv.pure _)
      · have := count_l0 b s l hx.2.1 hx.2.2 d (by omega) (fun y hy => count_conv y (d - 1) (by omega) (lenL_mem hx.2.2 y hy)) l.length 0 (1 + (s.length : Int) / 50) (by omega) (by omega)
        simpa using this
    by_cases h0 : d = 0
    · refine Conv.iteT h0 ?_
      by_cases h1 : 0 < l.length
      · rw [if_pos ⟨h0, h1⟩, show decide ((l.length : Int) > 0) = true from decide_eq_true (by omega)]
        refine Conv.succ ?_
        simp only [morainelaw4_count.j0]
        exact Conv.iteT (by trivial) (Conv.pure _)
      · rw [if_neg (fun h => h1 h.2)]
        exact start _ (decide_eq_false (by omega)) (fun _ => List.eq_nil_of_length_eq_zero (by omega))
    · rw [if_neg (fun h => h0 h.1)]
      exact Conv.iteF h0 (start _ rfl (fun h => absurd h h0))
termination_by x => SizeOf.sizeOf x
decreasing_by
  have := List.sizeOf_lt_of_mem hy
  simp only [S25.mk.sizeOf_spec]
  omega
theorem few_conv (x : S25) (hx : lenS x) : Conv (fun k => morainelaw4_few.f k x.f0 x.f1 x.f2) (decide (cntS x 18 ≤ 400)) := by
  unfold morainelaw4_few.f
  exact Conv.bind (count_conv x 18 (by omega) hx) (Conv.pure _)
mutual
theorem enc_tot : ∀ (x : S25) (ht : totS x < 4611686018427387904), (encS x).length ≤ totS x
  | ⟨b, s, l⟩, ht => by
    rw [totS] at ht
    have h1 := encL_tot l (by omega)
    rw [encS, totS]
    by_cases hb : b = true
    · rw [if_pos hb, List.length_append]
      have := headS_le (b := 192) (n := (encL l).length) (by omega)
      omega
    · rw [if_neg hb]
      split
      · omega
      · rw [List.length_append]
        have := headS_le (b := 128) (n := s.length) (by omega)
        omega
theorem encL_tot : ∀ (l : List S25) (ht : totL l < 4611686018427387904), (encL l).length ≤ totL l
  | [], ht => by rw [encL, totL]; simp
  | x :: l, ht => by
    rw [totL] at ht
    have h1 := enc_tot x (by omega)
    have h2 := encL_tot l (by omega)
    rw [encL, totL, List.length_append]; omega
end
end Go.Proofs.Ytbobnopnfjcajaa.Base
