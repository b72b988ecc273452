/- What is laid down for an item, and how long it is: the program's walks told as plain functions over trees. -/
import Derived.Test.YtbobnopnfjcajaaBase
import Derived.Test.YtbobnopnfjcajaaPx1
import Derived.Test.YtbobnopnfjcajaaPx2
import Derived.Test.YtbobnopnfjcajaaPx2
namespace Go.Proofs.Ytbobnopnfjcajaa.Base
set_option linter.unusedVariables false
set_option linter.unusedSimpArgs false
open Go Go.RowKit Go.Proofs.YtbobnopnfjcajaaW.PrintWords Go.Proofs.YtbobnopnfjcajaaW.PrintLast Go.Proofs.YtbobnopnfjcajaaW.PrintMore Go.Proofs.Ytbobnopnfjcajaa.P

theorem Conv.of_mono {α : Type} {f : Nat → Option α} {v : α} (m : ∀ k, LeO (f k) (f (k + 1))) {K : Nat} (h : f K = some v) : Conv f v := by
  refine ⟨K, fun k hk => ?_⟩
  induction k with
  | zero => rw [show K = 0 by omega] at h; exact h
  | succ k ih =>
    by_cases e : K = k + 1
    · rw [← e]; exact h
    · exact m k _ (ih (by omega))

/-- a number's bytes, the highest first -/
def digS (n : Nat) : List Int := if h : n = 0 then [] else digS (n / 256) ++ [((n % 256 : Nat) : Int)]
termination_by n
decreasing_by omega
theorem digS_zero : digS 0 = [] := by unfold digS; simp
theorem digS_pos {n : Nat} (h : 0 < n) : digS n = digS (n / 256) ++ [((n % 256 : Nat) : Int)] := by
  rw [digS, dif_neg (by omega)]
theorem digS_length (j : Nat) : ∀ n : Nat, n < 256 ^ j → (digS n).length ≤ j := by
  induction j with
  | zero => intro n h; rw [show n = 0 by simp at h; exact h, digS_zero]; simp
  | succ j ih =>
    intro n h
    by_cases h0 : n = 0
    · rw [h0, digS_zero]; simp
    · rw [digS_pos (by omega), List.length_append]
      have := ih (n / 256) (by rw [Nat.div_lt_iff_lt_mul (by decide)]; rw [Nat.pow_succ] at h; exact h)
      simp; omega
theorem digS_bytes (n : Nat) : Bytes (digS n) := by
  induction n using Nat.strongRecOn with
  | ind n ih =>
    by_cases h0 : n = 0
    · rw [h0, digS_zero]; intro x hx; cases hx
    · rw [digS_pos (by omega)]
      refine (ih (n / 256) (by omega)).append fun x hx => ?_
      rw [List.mem_singleton.mp hx]; omega
theorem digits_l0 (n : Nat) : ∀ acc : List Int, acc.length + (digS n).length < 140737488355328 → Conv (fun k => rlp_digits.l0 k (n : Int) acc) (digS n ++ acc) := by
  induction n using Nat.strongRecOn with
  | ind n ih =>
    intro acc hl
    refine Conv.succ ?_
    simp only [rlp_digits.l0]
    by_cases h0 : n = 0
    · subst h0
      rw [digS_zero]
      exact Conv.iteF (by omega) (Conv.pure _)
    · rw [digS_pos (by omega)] at hl ⊢
      simp only [List.length_append, List.length_singleton] at hl
      refine Conv.iteT (by omega) (Conv.bindc rfl (Conv.iteT (by simp; omega) ?_))
      have e1 : (n : Int) / 256 = ((n / 256 : Nat) : Int) := by omega
      have e2 : (n : Int) % 256 = ((n % 256 : Nat) : Int) := by omega
      rw [e1, e2]
      have := ih (n / 256) (by omega) ([((n % 256 : Nat) : Int)] ++ acc) (by simp; omega)
      rwa [← List.append_assoc] at this
theorem digits_conv {n : Nat} (h : n < 18446744073709551616) : Conv (fun k => rlp_digits.f k (n : Int)) (digS n) := by
  have hl := digS_length 8 n (by have : (256 : Nat) ^ 8 = 18446744073709551616 := by decide
                                 rw [this]; exact h)
  have := digits_l0 n [] (by simp; omega)
  rwa [List.append_nil] at this
/-- the head of so many bytes -/
def headS (base n : Nat) : List Int := if n ≤ 55 then [((base + n : Nat) : Int)] else ((base + 55 + (digS n).length : Nat) : Int) :: digS n
theorem headS_length (b c n : Nat) : (headS b n).length = (headS c n).length := by
  unfold headS; split <;> simp
theorem headS_le {b n : Nat} (h : n < 18446744073709551616) : 1 ≤ (headS b n).length ∧ (headS b n).length ≤ 9 := by
  have hl := digS_length 8 n (by have : (256 : Nat) ^ 8 = 18446744073709551616 := by decide
                                 rw [this]; exact h)
  unfold headS
  split <;> simp; omega
theorem headS_bytes {b n : Nat} (hb : b ≤ 192) (h : n < 18446744073709551616) : Bytes (headS b n) := by
  have hl := digS_length 8 n (by have : (256 : Nat) ^ 8 = 18446744073709551616 := by decide
                                 rw [this]; exact h)
  unfold headS
  split
  · intro x hx; rw [List.mem_singleton.mp hx]; omega
  · intro x hx
    rcases List.mem_cons.mp hx with h | h
    · rw [h]; omega
    · exact digS_bytes n x h
theorem head_conv {b n : Nat} (hb : b ≤ 192) (h : n < 9223372036854775000) : Conv (fun k => rlp_head.f k (n : Int) (b : Int)) (headS b n) := by
  have hl := digS_length 8 n (by have : (256 : Nat) ^ 8 = 18446744073709551616 := by decide
                                 rw [this]; omega)
  unfold rlp_head.f headS
  by_cases hn : n ≤ 55
  · rw [if_pos hn]
    refine Conv.iteT (by omega) (Conv.eq (Conv.pure _) ?_)
    rw [wrap64_id (by omega) (by omega)]
    congr 1
    omega
  · rw [if_neg hn]
    refine Conv.iteF (by omega) ?_
    rw [wrapU64_id (by omega) (by omega)]
    refine Conv.bind (digits_conv (by omega)) (Conv.bindc rfl (Conv.iteT (by simp; omega) (Conv.eq (Conv.pure _) ?_)))
    rw [wrap64_id (n := (b : Int) + 55) (by omega) (by omega), wrap64_id (by omega) (by omega)]
    simp only [List.cons_append, List.nil_append]
    congr 1
    omega
def ownS (l : List Int) : Bool := decide (l.length = 1 ∧ rd l 0 < 128)
theorem own_eq (l : List Int) : rlp_own.f l = some (ownS l) := by
  unfold rlp_own.f ownS
  by_cases h : l.length = 1
  · rw [if_pos (by omega), if_pos (by omega)]
    congr 1
    simp [h]
  · rw [if_neg (by omega)]
    congr 1
    simp [h]
mutual
/-- an item's bytes -/
def encS : S25 → List Int
  | ⟨b, s, l⟩ => if b = true then headS 192 (encL l).length ++ encL l else if ownS s = true then s else headS 128 s.length ++ s
def encL : List S25 → List Int
  | [] => []
  | x :: l => encS x ++ encL l
end
theorem encL_append (a b : List S25) : encL (a ++ b) = encL a ++ encL b := by
  induction a with
  | nil => rfl
  | cons x a ih => simp [encL, ih]
theorem encL_mem {x : S25} {l : List S25} (h : x ∈ l) : (encS x).length ≤ (encL l).length := by
  induction l with
  | nil => cases h
  | cons y l ih =>
    simp only [encL, List.length_append]
    rcases List.mem_cons.mp h with h | h
    · rw [h]; omega
    · have := ih h; omega
theorem rdT_get {l : List S25} {i : Nat} (h : i < l.length) : rd_T25 l (i : Int) = l[i] := by
  simp [rd_T25, List.getD_eq_getElem?_getD, h]
theorem rdT_mem {l : List S25} {i : Nat} (h : i < l.length) : rd_T25 l (i : Int) ∈ l := by
  rw [rdT_get h]; exact List.getElem_mem h
theorem dropT {l : List S25} {i : Nat} (h : i < l.length) : l.drop i = rd_T25 l (i : Int) :: l.drop (i + 1) := by
  rw [rdT_get h, List.drop_eq_getElem_cons h]
theorem put_l0 (l : List S25) (hl : l.length < 140737488355328) (hp : ∀ x ∈ l, Conv (fun k => rlp_put.f k x.f0 x.f1 x.f2) (encS x)) (j : Nat) :
    ∀ (i : Nat) (acc : List Int), i + j = l.length → acc.length + (encL (l.drop i)).length < 140737488000000 →
      Conv (fun k => rlp_put.l0 k acc l (l.length : Int) (i : Int)) (headS 192 (acc ++ encL (l.drop i)).length ++ (acc ++ encL (l.drop i))) := by
  induction j with
  | zero =>
    intro i acc hi hb
    refine Conv.succ ?_
    simp only [rlp_put.l0]
    rw [List.drop_eq_nil_of_le (by omega)] at hb ⊢
    simp only [encL, List.append_nil] at hb ⊢
    have := headS_le (b := 192) (n := acc.length) (by omega)
    exact Conv.iteF (by omega) (Conv.bind (head_conv (b := 192) (by omega) (by omega)) (Conv.iteT (by omega) (Conv.pure _)))
  | succ j ih =>
    intro i acc hi hb
    refine Conv.succ ?_
    simp only [rlp_put.l0]
    rw [dropT (l := l) (i := i) (by omega)] at hb ⊢
    simp only [encL, List.length_append] at hb
    refine Conv.iteT (by omega) (Conv.iteT (by omega) (Conv.iteT (by omega) (Conv.bind (hp _ (rdT_mem (by omega))) (Conv.iteT (by omega) ?_))))
    rw [wrap64_id (by omega) (by omega)]
    have := ih (i + 1) (acc ++ encS (rd_T25 l (i : Int))) (by omega) (by rw [List.length_append]; omega)
    rw [show acc ++ encL (rd_T25 l (i : Int) :: l.drop (i + 1)) = acc ++ encS (rd_T25 l (i : Int)) ++ encL (l.drop (i + 1)) by simp only [encL, List.append_assoc]]
    exact this
theorem put_conv (hw : ∀ l : List S25, l.length ≤ (encL l).length) : ∀ (x : S25) (hx : (encS x).length < 140737488000000), Conv (fun k => rlp_put.f k x.f0 x.f1 x.f2) (encS x)
  | ⟨b, s, l⟩, hx => by
    refine Conv.succ ?_
    simp only [rlp_put.f]
    rw [encS] at hx ⊢
    by_cases hb : b = true
    · rw [if_pos hb] at hx
      simp only [List.length_append] at hx
      refine Conv.iteT hb (Conv.eq ?_ (if_pos hb).symm)
      have hll := hw l
      have := put_l0 l (by omega) (fun y hy => put_conv hw y (by have := encL_mem hy; omega)) l.length 0 [] (by omega) (by simp; omega)
      simpa using this
    · rw [if_neg hb] at hx
      refine Conv.iteF hb (Conv.eq ?_ (if_neg hb).symm)
      refine Conv.bindc (own_eq s) ?_
      by_cases ho : ownS s = true
      · rw [if_pos ho] at hx
        refine Conv.iteT ho (Conv.eq ?_ (if_pos ho).symm)
        exact Conv.bindc (a := s) (by unfold bytes_Clone.f; rw [if_pos (by omega)]) (Conv.pure _)
      · rw [if_neg ho] at hx
        simp only [List.length_append] at hx
        refine Conv.iteF ho (Conv.eq ?_ (if_neg ho).symm)
        exact Conv.bind (head_conv (b := 128) (by omega) (by omega)) (Conv.iteT (by omega) (Conv.pure _))
termination_by x => SizeOf.sizeOf x
decreasing_by
  have := List.sizeOf_lt_of_mem hy
  simp only [S25.mk.sizeOf_spec]
  omega
theorem encS_pos (x : S25) : 1 ≤ (encS x).length := by
  obtain ⟨b, s, l⟩ := x
  rw [encS]
  split
  · have : 1 ≤ (headS 192 (encL l).length).length := by unfold headS; split <;> simp
    rw [List.length_append]; omega
  · split
    · rename_i h
      unfold ownS at h
      have := (of_decide_eq_true h).1
      omega
    · have : 1 ≤ (headS 128 s.length).length := by unfold headS; split <;> simp
      rw [List.length_append]; omega
theorem encL_len (l : List S25) : l.length ≤ (encL l).length := by
  induction l with
  | nil => simp
  | cons x l ih =>
    have := encS_pos x
    simp only [encL, List.length_append, List.length_cons]; omega
theorem put_conv' {x : S25} (hx : (encS x).length < 140737488000000) : Conv (fun k => rlp_put.f k x.f0 x.f1 x.f2) (encS x) := put_conv encL_len x hx

mutual
/-- how long an item's bytes are, or what is wrong; how many items were met -/
def sizeS : S25 → Int → Int → Int × Int × Int
  | ⟨b, s, l⟩, n, d => if d > 16 ∨ n = 4096 then (0, 43, n) else if (b = true ∧ 0 < s.length) ∨ (b = false ∧ 0 < l.length) then (0, 40, n + 1)
    else if ownS s = true then (1, 0, n + 1) else sizeL l (n + 1) (d + 1) (s.length : Int)
def sizeL : List S25 → Int → Int → Int → Int × Int × Int
  | [], n, _, acc => (acc + ((headS 0 acc.toNat).length : Int), 0, n)
  | x :: l, n, d, acc => if (sizeS x n d).2.1 = 0 then sizeL l (sizeS x n d).2.2 d (acc + (sizeS x n d).1) else (0, (sizeS x n d).2.1, (sizeS x n d).2.2)
end
mutual
/-- a bound on an item's length -/
def totS : S25 → Nat
  | ⟨_, s, l⟩ => 9 + s.length + totL l
def totL : List S25 → Nat
  | [] => 0
  | x :: l => totS x + totL l
end
theorem totL_mem {x : S25} {l : List S25} (h : x ∈ l) : totS x ≤ totL l := by
  induction l with
  | nil => cases h
  | cons y l ih =>
    simp only [totL]
    rcases List.mem_cons.mp h with h | h
    · rw [h]; omega
    · have := ih h; omega
theorem totL_len (l : List S25) : l.length ≤ totL l := by
  induction l with
  | nil => simp
  | cons x l ih =>
    have : 9 ≤ totS x := by obtain ⟨b, s, l⟩ := x; rw [totS]; omega
    simp only [totL, List.length_cons]; omega
mutual
theorem sizeS_range : ∀ (x : S25) (n d : Int) (hn : 0 ≤ n ∧ n ≤ 4096) (ht : totS x < 4611686018427387904), 0 ≤ (sizeS x n d).1 ∧ (sizeS x n d).1 ≤ totS x ∧ 0 ≤ (sizeS x n d).2.2 ∧ (sizeS x n d).2.2 ≤ 4096
  | ⟨b, s, l⟩, n, d, hn, ht => by
    rw [totS] at ht
    rw [sizeS, totS]
    split
    · simp; omega
    · rename_i h1
      split
      · simp; omega
      · split
        · simp; omega
        · have := sizeL_range l (n + 1) (d + 1) (s.length : Int) (by omega) (by omega) (by omega)
          omega
theorem sizeL_range : ∀ (l : List S25) (n d acc : Int) (hn : 0 ≤ n ∧ n ≤ 4096) (ha : 0 ≤ acc) (ht : acc + totL l + 9 < 4611686018427387904 + 9), 0 ≤ (sizeL l n d acc).1 ∧ (sizeL l n d acc).1 ≤ acc + totL l + 9 ∧ 0 ≤ (sizeL l n d acc).2.2 ∧ (sizeL l n d acc).2.2 ≤ 4096
  | [], n, d, acc, hn, ha, ht => by
    rw [sizeL, totL]
    have := headS_le (b := 0) (n := acc.toNat) (by simp [totL] at ht; omega)
    simp only
    omega
  | x :: l, n, d, acc, hn, ha, ht => by
    rw [totL] at ht
    have h1 := sizeS_range x n d hn (by omega)
    rw [sizeL, totL]
    split
    · have := sizeL_range l (sizeS x n d).2.2 d (acc + (sizeS x n d).1) (by omega) (by omega) (by omega)
      omega
    · simp only; omega
end
theorem size_l0 (l : List S25) (hl : l.length < 4611686018427387904) (d : Int) (hd : -1 ≤ d ∧ d ≤ 17) (hp : ∀ x ∈ l, ∀ n : Int, 0 ≤ n ∧ n ≤ 4096 → Conv (fun k => rlp_walker_size.f k n x.f0 x.f1 x.f2 (d + 1)) (sizeS x n (d + 1))) (j : Nat) :
    ∀ (i : Nat) (n acc : Int), i + j = l.length → 0 ≤ n ∧ n ≤ 4096 → 0 ≤ acc → acc + totL (l.drop i) < 4611686018427387904 →
      Conv (fun k => rlp_walker_size.l0 k d acc l (l.length : Int) (i : Int) n) (sizeL (l.drop i) n (d + 1) acc) := by
  induction j with
  | zero =>
    intro i n acc hi hn ha hb
    refine Conv.succ ?_
    simp only [rlp_walker_size.l0]
    rw [List.drop_eq_nil_of_le (by omega)] at hb ⊢
    rw [totL] at hb
    rw [sizeL]
    have hh := headS_le (b := 0) (n := acc.toNat) (by omega)
    have hc := head_conv (b := 0) (n := acc.toNat) (by omega) (by omega)
    rw [Int.toNat_of_nonneg ha] at hc
    refine Conv.iteF (by omega) (Conv.bind hc (Conv.eq (Conv.pure _) ?_))
    rw [wrap64_id (by omega) (by omega)]
  | succ j ih =>
    intro i n acc hi hn ha hb
    refine Conv.succ ?_
    simp only [rlp_walker_size.l0]
    rw [dropT (l := l) (i := i) (by omega)] at hb ⊢
    rw [totL] at hb
    rw [sizeL]
    have hr := sizeS_range (rd_T25 l (i : Int)) n (d + 1) hn (by omega)
    rw [wrap64_id (n := d + 1) (by omega) (by omega)]
    refine Conv.iteT (by omega) (Conv.iteT (by omega) (Conv.iteT (by omega) (Conv.bind (hp _ (rdT_mem (by omega)) n hn) ?_)))
    refine Conv.ite (fun c => ?_) fun c => ?_
    · rw [if_pos c, wrap64_id (n := acc + _) (by omega) (by omega), wrap64_id (n := (i : Int) + 1) (by omega) (by omega)]
      exact ih (i + 1) _ _ (by omega) (by omega) (by omega) (by omega)
    · rw [if_neg c]; exact Conv.pure _
theorem size_conv : ∀ (x : S25) (n d : Int) (hn : 0 ≤ n ∧ n ≤ 4096) (hd : 0 ≤ d ∧ d ≤ 17) (ht : totS x < 4611686018427387904), Conv (fun k => rlp_walker_size.f k n x.f0 x.f1 x.f2 d) (sizeS x n d)
  | ⟨b, s, l⟩, n, d, hn, hd, ht => by
    rw [totS] at ht
    rw [sizeS]
    refine Conv.succ ?_
    simp only [rlp_walker_size.f]
    by_cases h1 : d > 16 ∨ n = 4096
    · rw [if_pos h1]
      refine Conv.bindc (a := (43, n)) (by unfold rlp_walker_meets.f; by_cases h : d > 16 <;> simp [h]; omega) ?_
      exact Conv.iteF (show ¬ (43 : Int) = 0 by decide) (Conv.pure _)
    · rw [if_neg h1]
      refine Conv.bindc (a := (0, n + 1)) (by unfold rlp_walker_meets.f; rw [if_neg (by omega), if_neg (by omega), wrap64_id (by omega) (by omega)]) ?_
      refine Conv.iteT rfl ?_
      have rest : ∀ c : Bool, c = false → ¬ ((b = true ∧ 0 < s.length) ∨ (b = false ∧ 0 < l.length)) → Conv (fun k => rlp_walker_size.j1 k d c (n + 1) b s l) (if ownS s = true then (1, 0, n + 1) else sizeL l (n + 1) (d + 1) (s.length : Int)) := by
        intro c hc hq
        subst hc
        refine Conv.succ ?_
        simp only [rlp_walker_size.j1]
        refine Conv.iteF (by decide) (Conv.bindc (own_eq s) ?_)
        refine Conv.ite (fun c => ?_) fun c => ?_
        · rw [if_pos c]; exact Conv.pure _
        · rw [if_neg c]
          have hll := totL_len l
          have hd1 := h1
          have := size_l0 l (by omega) d (by omega) (fun y hy m hm => size_conv y m (d + 1) hm (by omega) (by have := totL_mem hy; omega)) l.length 0 (n + 1) (s.length : Int) (by omega) (by omega) (by omega) (by rw [List.drop_zero]; omega)
          simpa using this
      have bad : ∀ c : Bool, c = true → Conv (fun k => rlp_walker_size.j1 k d c (n + 1) b s l) (0, 40, n + 1) := by
        intro c hc
        subst hc
        refine Conv.succ ?_
        simp only [rlp_walker_size.j1]
        exact Conv.iteT (by trivial) (Conv.pure _)
      by_cases hb : b = true
      · refine Conv.iteT hb ?_
        refine Conv.succ ?_
        simp only [rlp_walker_size.j0]
        by_cases h2 : 0 < s.length
        · rw [if_pos (.inl ⟨hb, h2⟩)]
          exact Conv.iteT (by simp; omega) (bad _ (by simp; omega))
        · have hq : ¬ ((b = true ∧ 0 < s.length) ∨ (b = false ∧ 0 < l.length)) := fun h => h.elim (fun h => h2 h.2) (fun h => by rw [hb] at h; exact absurd h.1 (by decide))
          rw [if_neg hq]
          exact Conv.iteF (by simpa using h2) (Conv.iteT hb (rest _ rfl hq))
      · have hbf : b = false := by cases b <;> simp_all
        refine Conv.iteF hb ?_
        refine Conv.succ ?_
        simp only [rlp_walker_size.j0]
        refine Conv.iteF (by decide) (Conv.iteF hb ?_)
        by_cases h2 : 0 < l.length
        · rw [if_pos (.inr ⟨hbf, h2⟩)]
          exact bad _ (by simp; omega)
        · have hq : ¬ ((b = true ∧ 0 < s.length) ∨ (b = false ∧ 0 < l.length)) := fun h => h.elim (fun h => hb h.1) (fun h => h2 h.2)
          rw [if_neg hq]
          exact rest _ (decide_eq_false (by omega)) hq
termination_by x => SizeOf.sizeOf x
decreasing_by
  have := List.sizeOf_lt_of_mem hy
  simp only [S25.mk.sizeOf_spec]
  omega
mutual
theorem sizeS_enc : ∀ (x : S25) (n d : Int) (h : (sizeS x n d).2.1 = 0), (sizeS x n d).1 = ((encS x).length : Int)
  | ⟨b, s, l⟩, n, d, h => by
    rw [sizeS] at h ⊢
    rw [encS]
    split at h
    · simp at h
    · rename_i h1
      rw [if_neg h1]
      split at h
      · simp at h
      · rename_i h2
        rw [if_neg h2]
        split at h
        · rename_i h3
          rw [if_pos h3]
          have h4 := (of_decide_eq_true h3).1
          have hb : ¬ b = true := fun hb => h2 (.inl ⟨hb, by omega⟩)
          rw [if_neg hb, if_pos h3, h4]
          rfl
        · rename_i h3
          rw [if_neg h3]
          have := sizeL_enc l (n + 1) (d + 1) (s.length : Int) (by omega) h
          rw [this]
          by_cases hb : b = true
          · have hs : s.length = 0 := by
              by_cases e : 0 < s.length
              · exact absurd (.inl ⟨hb, e⟩) h2
              · omega
            rw [if_pos hb, List.length_append, headS_length 192 0, hs]
            simp; omega
          · have hl : l = [] := by
              have : ¬ 0 < l.length := fun e => h2 (.inr ⟨by cases b <;> simp_all, e⟩)
              exact List.eq_nil_of_length_eq_zero (by omega)
            subst hl
            rw [if_neg hb, if_neg h3, List.length_append, headS_length 128 0]
            simp [encL]; omega
theorem sizeL_enc : ∀ (l : List S25) (n d acc : Int) (ha : 0 ≤ acc) (h : (sizeL l n d acc).2.1 = 0), (sizeL l n d acc).1 = acc + ((encL l).length : Int) + ((headS 0 (acc + ((encL l).length : Int)).toNat).length : Int)
  | [], n, d, acc, ha, h => by rw [sizeL]; simp [encL]
  | x :: l, n, d, acc, ha, h => by
    rw [sizeL] at h ⊢
    split at h
    · rename_i h1
      rw [if_pos h1]
      have e1 := sizeS_enc x n d h1
      have e2 := sizeL_enc l (sizeS x n d).2.2 d (acc + (sizeS x n d).1) (by omega) h
      rw [e2, e1]
      simp only [encL, List.length_append]
      have e3 : acc + ((encS x).length : Int) + ((encL l).length : Int) = acc + (((encS x).length + (encL l).length : Nat) : Int) := by omega
      rw [e3]
    · rename_i h1
      exact absurd h h1
end
/-- Encode, told -/
def encode (x : S25) : List Int × Int := if (sizeS x 0 1).2.1 ≠ 0 then ([], (sizeS x 0 1).2.1) else if 65536 < (encS x).length then ([], 44) else (encS x, 0)
theorem encode_conv (x : S25) (ht : totS x < 4611686018427387904) : Conv (fun k => rlp_Encode.f k x.f0 x.f1 x.f2) (encode x) := by
  unfold rlp_Encode.f encode
  refine Conv.bind (size_conv x 0 1 (by omega) (by omega) ht) ?_
  refine Conv.ite (fun c => ?_) fun c => ?_
  · have e := sizeS_enc x 0 1 c
    rw [if_neg (by simpa using c), e]
    refine Conv.ite (fun c2 => ?_) fun c2 => ?_
    · rw [if_pos (by omega)]; exact Conv.pure _
    · rw [if_neg (by omega)]
      exact Conv.bind (put_conv' (by omega)) (Conv.pure _)
  · rw [if_pos c]; exact Conv.pure _
end Go.Proofs.Ytbobnopnfjcajaa.Base
