/- What is encoded is read again, whatever stands behind. -/
import Derived.Test.YtbobnopnfjcajaaRlpHead
import Derived.Test.YtbobnopnfjcajaaRlpCnt
import Derived.Test.YtbobnopnfjcajaaPx4
import Derived.Test.YtbobnopnfjcajaaTree
namespace Go.Proofs.Ytbobnopnfjcajaa.Base
set_option linter.unusedVariables false
set_option linter.unusedSimpArgs false
open Go Go.RowKit Go.Proofs.YtbobnopnfjcajaaW.PrintWords Go.Proofs.YtbobnopnfjcajaaW.PrintLast Go.Proofs.YtbobnopnfjcajaaW.PrintMore Go.Proofs.Ytbobnopnfjcajaa.P

mutual
theorem len_of_ok : ∀ (x : S25), ok25 x → lenS x
  | ⟨b, s, l⟩, h => by
    rw [ok25] at h
    rw [lenS]
    exact ⟨by omega, by omega, lenL_of_ok l h.2.2.2⟩
theorem lenL_of_ok : ∀ (l : List S25), okL l → lenS.lenL l
  | [], _ => trivial
  | x :: l, h => ⟨len_of_ok x h.1, lenL_of_ok l h.2⟩
end
mutual
theorem encS_bytes : ∀ (x : S25) (h : ok25 x) (ht : totS x < 4611686018427387904), Bytes (encS x)
  | ⟨b, s, l⟩, h, ht => by
    rw [ok25] at h
    rw [totS] at ht
    have hl := encL_tot l (by omega)
    rw [encS]
    split
    · exact (headS_bytes (by omega) (by omega)).append (encL_bytes l h.2.2.2 (by omega))
    · split
      · exact bytes_of_wf h.2.1
      · exact (headS_bytes (by omega) (by omega)).append (bytes_of_wf h.2.1)
theorem encL_bytes : ∀ (l : List S25) (h : okL l) (ht : totL l < 4611686018427387904), Bytes (encL l)
  | [], _, _ => by rw [encL]; intro x hx; cases hx
  | x :: l, h, ht => by
    rw [totL] at ht
    rw [encL]
    exact (encS_bytes x h.1 (by omega)).append (encL_bytes l h.2 (by omega))
end
theorem encode_bytes (x : S25) (h : ok25 x) (ht : totS x < 4611686018427387904) : Bytes (encode x).1 := by
  unfold encode
  split
  · intro y hy; cases hy
  · split
    · intro y hy; cases hy
    · exact encS_bytes x h ht
/-- the program's reading behind a head that is right -/
theorem first_prog {b inn : List Int} {a0 n0 : Nat} (hb : Bytes b) (hl : b.length ≤ 65536) (h0 : 0 < b.length) (m d : Int) (hm : 0 ≤ m ∧ m < 4096) (hd : 1 ≤ d ∧ d ≤ 16) (hc : ¬ rd b 0 < 128) (hh : hdS b = (a0, n0, 0)) (hfit : a0 + n0 ≤ b.length) (hinn : inn = (b.take (a0 + n0)).drop a0) :
    ∀ v, Conv (fun k => (if decide (192 ≤ rd b 0) = true then (rlp_walker_first.l0 k d inn ((a0 + n0 : Nat) : Int) (m + 1) true ([] : List (S25))) else ((rlp_own.f inn).bind fun t183 => (if t183 = true then (some (false, ([] : List Int), ([] : List (S25)), 0, 40, m + 1)) else ((bytes_Clone.f inn).bind fun t184 => (some (false, t184, ([] : List (S25)), ((a0 + n0 : Nat) : Int), 0, m + 1))))))) v → Conv (fun k => rlp_walker_first.f k m b d) v := by
  intro v hv
  have hmeets : rlp_walker_meets.f m d = some (0, m + 1) := by
    unfold rlp_walker_meets.f
    rw [if_neg (by omega), if_neg (by omega), wrap64_id (by omega) (by omega)]
  rcases reads_hd hb h0 hc with ⟨he, hrd⟩ | ⟨he, x1, x2, x3, hrd⟩
  · rw [hh] at hrd
    simp only at hrd
    refine Conv.succ ?_
    simp only [rlp_walker_first.f]
    refine Conv.iteF (by omega) (Conv.bindc hmeets (Conv.iteT rfl (Conv.bindc hrd (Conv.iteT rfl ?_))))
    simp only
    rw [wrap64_id (n := (b.length : Int) - a0) (by omega) (by omega), wrap64_id (n := (a0 : Int) + n0) (by omega) (by omega)]
    refine Conv.iteF (by omega) (Conv.iteT (by omega) (Conv.iteT (by omega) (Conv.iteT (by omega) (Conv.bindc (a := inn) ?_ ?_))))
    · rw [hinn, show ((a0 : Int) + (n0 : Int)).toNat = a0 + n0 by omega, Int.toNat_natCast]
    · rw [show (a0 : Int) + (n0 : Int) = ((a0 + n0 : Nat) : Int) by omega]
      simpa only [Bool.false_eq_true, if_false] using hv
  · rw [hh] at he; exact absurd rfl he
theorem first_own {b : List Int} (hb : Bytes b) (hl : b.length ≤ 65536) (h0 : 0 < b.length) (m d : Int) (hm : 0 ≤ m ∧ m < 4096) (hd : 1 ≤ d ∧ d ≤ 16) (hc : rd b 0 < 128) : Conv (fun k => rlp_walker_first.f k m b d) (false, [rd b 0], [], 1, 0, m + 1) := by
  have ht1 : b.take 1 = [rd b 0] := by
    have := drop_cons (l := b) (i := 0) (by omega)
    rw [List.drop_zero] at this
    rw [this]; simp [rd]
  have hmeets : rlp_walker_meets.f m d = some (0, m + 1) := by
    unfold rlp_walker_meets.f
    rw [if_neg (by omega), if_neg (by omega), wrap64_id (by omega) (by omega)]
  refine Conv.succ ?_
  simp only [rlp_walker_first.f]
  refine Conv.iteF (by omega) (Conv.bindc hmeets (Conv.iteT rfl (Conv.bindc (reads_own hb (by omega) hc) (Conv.iteT rfl ?_))))
  simp only
  rw [wrap64_id (n := (b.length : Int) - 0) (by omega) (by omega), wrap64_id (n := (0 : Int) + 1) (by omega) (by omega)]
  refine Conv.iteF (by omega) (Conv.iteT (by omega) (Conv.iteT (by omega) (Conv.iteT (by omega) (Conv.bindc rfl (Conv.iteF (by decide) (Conv.iteT trivial ?_))))))
  refine Conv.bindc (a := [rd b 0]) ?_ (Conv.pure _)
  unfold bytes_Clone.f
  simp only [Int.toNat_zero, List.drop_zero, show (0 + 1 : Int).toNat = 1 by decide, ht1]
  rw [if_pos (by simp)]
mutual
theorem first_enc : ∀ (x : S25) (more : List Int) (m d n m' : Int) (hm : 0 ≤ m ∧ m ≤ 4096) (hd : 1 ≤ d) (hs : sizeS x m d = (n, 0, m')) (hb : Bytes (encS x ++ more)) (hl : (encS x ++ more).length ≤ 65536),
    Conv (fun k => rlp_walker_first.f k m (encS x ++ more) d) (x.f0, x.f1, x.f2, ((encS x).length : Int), 0, m') ∧ 0 ≤ m' ∧ m' ≤ 4096
  | ⟨c, s, l⟩, more, m, d, n, m', hm, hd, hs, hb, hl => by
    have hp := encS_pos ⟨c, s, l⟩
    rw [sizeS] at hs
    by_cases h1 : d > 16 ∨ m = 4096
    · rw [if_pos h1] at hs; simp at hs
    rw [if_neg h1] at hs
    by_cases h2 : (c = true ∧ 0 < s.length) ∨ (c = false ∧ 0 < l.length)
    · rw [if_pos h2] at hs; simp at hs
    rw [if_neg h2] at hs
    by_cases hc : c = true
    · subst hc
      have hs0 : s = [] := List.eq_nil_of_length_eq_zero (by
        have : ¬ 0 < s.length := fun e => h2 (.inl ⟨rfl, e⟩)
        omega)
      subst hs0
      have hq : ¬ ownS [] = true := fun h => absurd (of_decide_eq_true h).1 (by simp)
      rw [if_neg hq] at hs
      have henc : encS ⟨true, [], l⟩ = headS 192 (encL l).length ++ encL l := by rw [encS, if_pos rfl]
      rw [henc] at hb hl hp ⊢
      rw [List.append_assoc] at hb hl ⊢
      have hlen := hl
      rw [List.length_append, List.length_append] at hlen
      obtain ⟨k1, k2, k3⟩ := hd_of (base := 192) (n := (encL l).length) (.inl rfl) (by omega) (encL l ++ more)
      have hll := encL_len l
      have loop := first_encL l (m + 1) d ((((headS 192 (encL l).length).length + (encL l).length : Nat)) : Int) n m' [] _ (by omega) (by omega) (by simp only [List.length_nil]; omega) hs (fun y hy => hb y (by simp [hy])) (by omega)
      refine ⟨?_, loop.2⟩
      refine first_prog (inn := encL l) hb hl (by rw [List.length_append]; have := headS_le (b := 192) (n := (encL l).length) (by omega); omega) m d (by omega) (by omega) k1 k3 (by simp only [List.length_append]; omega) ?_ _ ?_
      · rw [← List.append_assoc, List.take_left' (by simp), List.drop_left' rfl]
      · refine Conv.iteT (by rw [k2]; rfl) ?_
        have := loop.1
        rw [List.nil_append] at this
        rw [List.length_append]
        exact this
    · have hcf : c = false := by cases c <;> simp_all
      subst hcf
      have hl0 : l = [] := List.eq_nil_of_length_eq_zero (by
        have : ¬ 0 < l.length := fun e => h2 (.inr ⟨rfl, e⟩)
        omega)
      subst hl0
      by_cases ho : ownS s = true
      · rw [if_pos ho] at hs
        have henc : encS ⟨false, s, []⟩ = s := by rw [encS, if_neg hc, if_pos ho]
        rw [henc] at hb hl hp ⊢
        obtain ⟨h3, h4⟩ := of_decide_eq_true ho
        obtain ⟨y, rfl⟩ : ∃ y, s = [y] := by
          match s, h3 with
          | [y], _ => exact ⟨y, rfl⟩
        have er : rd ([y] ++ more) 0 = y := by simp [rd]
        have h4' : y < 128 := by simpa [rd] using h4
        have := first_own hb hl (by simp) m d (by omega) (by omega) (by rw [er]; exact h4')
        rw [er] at this
        simp only [Prod.mk.injEq] at hs
        rw [← hs.2.2]
        exact ⟨this, by omega, by omega⟩
      · rw [if_neg ho, sizeL] at hs
        have henc : encS ⟨false, s, []⟩ = headS 128 s.length ++ s := by rw [encS, if_neg hc, if_neg ho]
        rw [henc] at hb hl hp ⊢
        rw [List.append_assoc] at hb hl ⊢
        have hlen := hl
        rw [List.length_append, List.length_append] at hlen
        obtain ⟨k1, k2, k3⟩ := hd_of (base := 128) (n := s.length) (.inr rfl) (by omega) (s ++ more)
        simp only [Prod.mk.injEq] at hs
        rw [← hs.2.2]
        refine ⟨?_, by omega, by omega⟩
        refine first_prog (inn := s) hb hl (by rw [List.length_append]; have := headS_le (b := 128) (n := s.length) (by omega); omega) m d (by omega) (by omega) k1 k3 (by simp only [List.length_append]; omega) ?_ _ ?_
        · rw [← List.append_assoc, List.take_left' (by simp), List.drop_left' rfl]
        · refine Conv.iteF (by rw [k2]; decide) (Conv.bindc (own_eq s) (Conv.iteF ho (Conv.bindc (a := s) (by unfold bytes_Clone.f; rw [if_pos (by omega)]) (Conv.eq (Conv.pure _) ?_))))
          rw [List.length_append]
theorem first_encL : ∀ (l : List S25) (m d E n m' : Int) (acc : List S25) (s : Int) (hm : 0 ≤ m ∧ m ≤ 4096) (hd : 1 ≤ d ∧ d ≤ 16) (hacc : acc.length + (encL l).length ≤ 65536) (hs : sizeL l m (d + 1) s = (n, 0, m')) (hb : Bytes (encL l)) (hl : (encL l).length ≤ 65536),
    Conv (fun k => rlp_walker_first.l0 k d (encL l) E m true acc) (true, [], acc ++ l, E, 0, m') ∧ 0 ≤ m' ∧ m' ≤ 4096
  | [], m, d, E, n, m', acc, s, hm, hd, hacc, hs, hb, hl => by
    rw [sizeL] at hs
    simp only [Prod.mk.injEq] at hs
    rw [← hs.2.2, encL]
    refine ⟨Conv.succ ?_, hm.1, hm.2⟩
    simp only [rlp_walker_first.l0]
    exact Conv.iteF (by simp) (Conv.eq (Conv.pure _) (by simp))
  | ⟨xb, xs, xl⟩ :: l, m, d, E, n, m', acc, s, hm, hd, hacc, hs, hb, hl => by
    have hp := encS_pos ⟨xb, xs, xl⟩
    rw [sizeL] at hs
    rw [encL] at hb hl hacc ⊢
    have hlen := hl
    rw [List.length_append] at hlen hacc
    by_cases h : (sizeS ⟨xb, xs, xl⟩ m (d + 1)).2.1 = 0
    · rw [if_pos h] at hs
      obtain ⟨h1, h2, h3⟩ := first_enc ⟨xb, xs, xl⟩ (encL l) m (d + 1) (sizeS ⟨xb, xs, xl⟩ m (d + 1)).1 (sizeS ⟨xb, xs, xl⟩ m (d + 1)).2.2 hm (by omega) (by rw [← h]) hb hl
      obtain ⟨h4, h5⟩ := first_encL l (sizeS ⟨xb, xs, xl⟩ m (d + 1)).2.2 d E n m' (acc ++ [⟨xb, xs, xl⟩]) _ ⟨h2, h3⟩ hd (by rw [List.length_append, List.length_singleton]; omega) hs (fun y hy => hb y (by simp [hy])) (by omega)
      refine ⟨Conv.succ ?_, h5⟩
      simp only [rlp_walker_first.l0]
      rw [wrap64_id (n := d + 1) (by omega) (by omega)]
      refine Conv.iteT (by rw [List.length_append]; omega) (Conv.bind h1 (Conv.iteT rfl (Conv.iteT (by omega) (Conv.iteT (by dsimp only; omega) (Conv.iteT (by dsimp only; rw [List.length_append]; omega) ?_)))))
      dsimp only
      rw [Int.toNat_natCast, List.drop_left' rfl]
      rw [List.append_assoc, List.singleton_append] at h4
      exact h4
    · rw [if_neg h] at hs
      simp only [Prod.mk.injEq] at hs
      exact absurd hs.2.1 h
end
/-- First of what an item was encoded to -/
theorem First_enc {x : S25} {more : List Int} {n m' : Int} (hs : sizeS x 0 1 = (n, 0, m')) (hb : Bytes (encS x ++ more)) (hl : (encS x ++ more).length ≤ 65536) :
    Conv (fun k => rlp_First.f k (encS x ++ more)) (x.f0, x.f1, x.f2, ((encS x).length : Int), 0) := by
  unfold rlp_First.f
  exact Conv.iteF (by omega) (Conv.bind (first_enc x more 0 1 n m' (by omega) (by omega) hs hb hl).1 (Conv.pure _))
theorem Decode_enc {x : S25} {n m' : Int} (hs : sizeS x 0 1 = (n, 0, m')) (hb : Bytes (encS x)) (hl : (encS x).length ≤ 65536) :
    Conv (fun k => rlp_Decode.f k (encS x)) (x.f0, x.f1, x.f2, 0) := by
  have := First_enc (more := []) hs (by rw [List.append_nil]; exact hb) (by rw [List.append_nil]; exact hl)
  rw [List.append_nil] at this
  unfold rlp_Decode.f
  exact Conv.bind this (Conv.iteT rfl (Conv.iteF (by dsimp only; omega) (Conv.pure _)))
end Go.Proofs.Ytbobnopnfjcajaa.Base
