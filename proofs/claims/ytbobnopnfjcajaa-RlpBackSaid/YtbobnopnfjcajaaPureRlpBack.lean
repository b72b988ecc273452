/- RlpBack's pure statement: items come back from their bytes; no encoding begins like another one; what is read is written so. -/
import Derived.Test.YtbobnopnfjcajaaPx7
import Derived.Test.YtbobnopnfjcajaaRlpRead
import Derived.Test.YtbobnopnfjcajaaRlpSame
import Derived.Test.YtbobnopnfjcajaaRlpParseP
namespace Go.Proofs.Ytbobnopnfjcajaa.Pure
set_option linter.unusedVariables false
set_option linter.unusedSimpArgs false
open Go Go.RowKit Go.Proofs.Ytbobnopnfjcajaa.P Go.Proofs.YtbobnopnfjcajaaW.PrintWords Go.Proofs.YtbobnopnfjcajaaW.PrintLast Go.Proofs.Ytbobnopnfjcajaa.Base

mutual
theorem tot_enc : ∀ (x : S25) (n d : Int) (h : (sizeS x n d).2.1 = 0) (hl : (encS x).length ≤ 70000), totS x ≤ 10 * (encS x).length
  | ⟨b, s, l⟩, n, d, h, hl => by
    rw [sizeS] at h
    rw [encS] at hl ⊢
    rw [totS]
    split at h
    · simp at h
    · split at h
      · simp at h
      · rename_i h2
        by_cases hb : b = true
        · have hs : s.length = 0 := by
            by_cases e : 0 < s.length
            · exact absurd (.inl ⟨hb, e⟩) h2
            · omega
          rw [if_pos hb, List.length_append] at hl ⊢
          have hh := headS_le (b := 192) (n := (encL l).length) (by omega)
          have ho : ¬ ownS s = true := fun e => by have := (of_decide_eq_true e).1; omega
          rw [if_neg ho] at h
          have := totL_enc l _ _ _ h (by omega)
          omega
        · have hl0 : l = [] := List.eq_nil_of_length_eq_zero (by
            have : ¬ 0 < l.length := fun e => h2 (.inr ⟨by cases b <;> simp_all, e⟩)
            omega)
          rw [if_neg hb] at hl ⊢
          subst hl0
          rw [totL]
          split at hl
          · rename_i ho
            rw [if_pos ho]
            have := (of_decide_eq_true ho).1
            omega
          · rename_i ho
            rw [if_neg ho]
            rw [List.length_append] at hl ⊢
            have hh := headS_le (b := 128) (n := s.length) (by omega)
            omega
theorem totL_enc : ∀ (l : List S25) (n d s : Int) (h : (sizeL l n d s).2.1 = 0) (hl : (encL l).length ≤ 70000), totL l ≤ 10 * (encL l).length
  | [], n, d, s, h, hl => by rw [totL]; omega
  | x :: l, n, d, s, h, hl => by
    rw [sizeL] at h
    rw [encL, List.length_append] at hl ⊢
    rw [totL]
    split at h
    · rename_i c
      have h1 := tot_enc x n d c (by omega)
      have h2 := totL_enc l _ _ _ h (by omega)
      omega
    · rename_i c
      exact absurd h c
end
theorem Conv.uniq {α : Type} {f : Nat → Option α} {a b : α} (h : Conv f a) (k : Conv f b) : a = b := by
  obtain ⟨K, h⟩ := h
  obtain ⟨L, k⟩ := k
  have h1 := h (max K L) (Nat.le_max_left _ _)
  have h2 := k (max K L) (Nat.le_max_right _ _)
  rw [h1] at h2
  exact Option.some.inj h2
theorem encode_ok {x : S25} (h : (encode x).2 = 0) : encode x = (encS x, 0) ∧ (sizeS x 0 1).2.1 = 0 ∧ (encS x).length ≤ 65536 := by
  unfold encode at h ⊢
  by_cases h1 : (sizeS x 0 1).2.1 ≠ 0
  · rw [if_pos h1] at h; exact absurd h h1
  · rw [if_neg h1] at h ⊢
    by_cases h2 : 65536 < (encS x).length
    · rw [if_pos h2] at h; exact absurd h (by decide)
    · rw [if_neg h2]; exact ⟨rfl, by omega, by omega⟩
theorem encode_of {x : S25} (h : (sizeS x 0 1).2.1 = 0) (hl : (encS x).length ≤ 65536) : encode x = (encS x, 0) := by
  unfold encode; rw [if_neg (by omega), if_neg (by omega)]
theorem equal_conv {x y : S25} (hx : totS x < 4611686018427387904) (hy : totS y < 4611686018427387904) (bx : Bytes (encode x).1) (by_ : Bytes (encode y).1) :
    Conv (fun k => rlp_Equal.f k x.f0 x.f1 x.f2 y.f0 y.f1 y.f2) (if (encode x).2 = 0 then (if (encode y).2 = 0 then ((encode x).1 == (encode y).1) else false) else false) := by
  unfold rlp_Equal.f
  refine Conv.bind (encode_conv x hx) (Conv.bind (encode_conv y hy) (Conv.ite (fun c => ?_) fun c => ?_))
  · rw [if_pos c]
    refine Conv.ite (fun c2 => ?_) fun c2 => ?_
    · rw [if_pos c2]
      refine Conv.bindc (a := ((encode x).1 == (encode y).1)) ?_ (Conv.pure _)
      unfold bytes_Equal.f
      rw [strOfNums_beq bx by_]
    · rw [if_neg c2]; exact Conv.pure _
  · rw [if_neg c]; exact Conv.pure _
/-- no encoding begins like another one -/
theorem no_prefix {x y : S25} (hx : (encode x).2 = 0) (hy : (encode y).2 = 0) (by_ : Bytes (encS y)) (hlt : (encS x).length < (encS y).length) : (encS y).take (encS x).length ≠ encS x := by
  intro e
  obtain ⟨_, h1, h2⟩ := encode_ok hx
  obtain ⟨_, h3, h4⟩ := encode_ok hy
  have hcat : encS x ++ (encS y).drop (encS x).length = encS y := by
    conv => lhs; arg 1; rw [← e]
    exact List.take_append_drop _ _
  have ka := First_enc (x := x) (more := (encS y).drop (encS x).length) (n := (sizeS x 0 1).1) (m' := (sizeS x 0 1).2.2) (Prod.ext rfl (Prod.ext h1 rfl)) (by rw [hcat]; exact by_) (by rw [hcat]; exact h4)
  rw [hcat] at ka
  have kb := First_enc (x := y) (more := []) (n := (sizeS y 0 1).1) (m' := (sizeS y 0 1).2.2) (Prod.ext rfl (Prod.ext h3 rfl)) (by rw [List.append_nil]; exact by_) (by rw [List.append_nil]; exact h4)
  rw [List.append_nil] at kb
  have := Conv.uniq ka kb
  simp only [Prod.mk.injEq] at this
  omega
theorem back_j4 (b : List Int) (hb : Bytes b) (hl : b.length ≤ 3000) (c : Bool) (hc : c = false) : Conv (fun k => morainelaw4_RlpBack.j4 k b c) true := by
  subst hc
  refine Conv.succ ?_
  simp only [morainelaw4_RlpBack.j4]
  obtain ⟨z, e, hd, hok⟩ := decode_p hb
  refine Conv.iteF (by decide) (Conv.bind hd (Conv.ite (fun c => ?_) fun _ => Conv.pure _))
  obtain ⟨h1, h2, m, h3⟩ := hok c
  have ht := tot_enc z 0 1 (by rw [h3]) (by rw [h2]; omega)
  rw [h2] at ht
  have he := encode_conv z (by omega)
  rw [encode_of (by rw [h3]) (by rw [h2]; omega), h2] at he
  refine Conv.bind he (Conv.iteT rfl (Conv.bindc (a := true) ?_ (Conv.pure _)))
  unfold morainehelp_Bytes.f
  rw [beq_self_eq_true]
theorem back_j3 (b : List Int) (hb : Bytes b) (hl : b.length ≤ 3000) {x y : S25} (hx : totS x < 4611686018427387904) (hy : totS y < 4611686018427387904) (bx : Bytes (encode x).1) (by_ : Bytes (encode y).1) (c : Bool) (hc : c = false) :
    Conv (fun k => morainelaw4_RlpBack.j3 k b (encode x).1 (encode x).2 (encode y).1 (encode y).2 c x.f0 x.f1 x.f2 y.f0 y.f1 y.f2) true := by
  subst hc
  refine Conv.succ ?_
  simp only [morainelaw4_RlpBack.j3]
  refine Conv.iteF (by decide) (Conv.bind (equal_conv hx hy bx by_) ?_)
  refine Conv.ite (fun c => ?_) fun c => ?_
  · rw [if_pos c]
    refine Conv.ite (fun c2 => ?_) fun c2 => ?_
    · rw [if_pos c2]
      refine back_j4 b hb hl _ ?_
      rw [strOfNums_beq bx by_]
      simp
    · rw [if_neg c2]
      exact back_j4 b hb hl _ rfl
  · rw [if_neg c]
    exact back_j4 b hb hl _ rfl
theorem back_j2 (b : List Int) (hb : Bytes b) (hl : b.length ≤ 3000) {x y : S25} (hx : totS x < 4611686018427387904) (hy : totS y < 4611686018427387904) (bx : Bytes (encode x).1) (by_ : Bytes (encode y).1) :
    Conv (fun k => morainelaw4_RlpBack.j2 k b (encode x).1 (encode x).2 (encode y).1 (encode y).2 x.f0 x.f1 x.f2 y.f0 y.f1 y.f2) true := by
  refine Conv.succ ?_
  simp only [morainelaw4_RlpBack.j2]
  have fin := fun c hc => back_j3 b hb hl hx hy bx by_ c hc
  refine Conv.ite (fun c => ?_) fun _ => fin _ rfl
  refine Conv.ite (fun c2 => ?_) fun _ => fin _ rfl
  refine Conv.ite (fun c3 => ?_) fun _ => fin _ rfl
  refine Conv.iteT (by omega) (Conv.iteT (by omega) (fin _ ?_))
  rw [Int.toNat_natCast, strOfNums_beq (by_.take _) bx, beq_eq_false_iff_ne]
  rw [(encode_ok c).1, (encode_ok c2).1] at c3 ⊢
  exact no_prefix c c2 (by have := by_; rw [(encode_ok c2).1] at this; exact this) (by simpa using c3)
theorem RlpBack (x : S25) (hox : ok25 x) (y : S25) (hoy : ok25 y) (more : List Int) (hm : more.length * 1 ≤ 140737488351232 ∧ ∀ z ∈ more, (Lit.int .u8 z).wf = true) (b : List Int) (hb : b.length * 1 ≤ 140737488351232 ∧ ∀ z ∈ b, (Lit.int .u8 z).wf = true) :
    ∃ k, morainelaw4_RlpBack.f k x.f0 x.f1 x.f2 y.f0 y.f1 y.f2 more b = some true := by
  have hlx := len_of_ok x hox
  have hly := len_of_ok y hoy
  have hbb := bytes_of_wf hb.2
  have hbm := bytes_of_wf hm.2
  refine Conv.ex ?_
  simp only [morainelaw4_RlpBack.f, morainelaw4_known.f]
  have skip : ∀ c : Bool, c = true → Conv (fun k => morainelaw4_RlpBack.j0 k more b c x.f0 x.f1 x.f2 y.f0 y.f1 y.f2) true := by
    intro c hc
    subst hc
    refine Conv.succ ?_
    simp only [morainelaw4_RlpBack.j0]
    exact Conv.iteT trivial (Conv.pure _)
  refine Conv.bindc rfl (Conv.iteT rfl (Conv.bind (few_conv x hlx) (Conv.ite (fun cx => ?_) fun _ => skip _ rfl)))
  refine Conv.bind (few_conv y hly) (Conv.ite (fun cy => ?_) fun _ => skip _ rfl)
  refine Conv.ite (fun _ => skip _ rfl) fun cm => ?_
  by_cases hl : (b.length : Int) > 3000
  · exact skip _ (decide_eq_true hl)
  rw [decide_eq_false hl]
  have tx := cntS_tot x 18 (by omega) hlx (of_decide_eq_true cx)
  have ty := cntS_tot y 18 (by omega) hly (of_decide_eq_true cy)
  have cx' := of_decide_eq_true cx
  have cy' := of_decide_eq_true cy
  have ex := enc_tot x (by omega)
  have ey := enc_tot y (by omega)
  have bx := encode_bytes x hox (by omega)
  have by_ := encode_bytes y hoy (by omega)
  refine Conv.succ ?_
  simp only [morainelaw4_RlpBack.j0]
  refine Conv.iteF (by decide) (Conv.bind (encode_conv x (by omega)) (Conv.bind (encode_conv y (by omega)) ?_))
  have j2 := back_j2 b hbb (by omega) (x := x) (y := y) (by omega) (by omega) bx by_
  refine Conv.ite (fun c => ?_) fun _ => j2
  obtain ⟨h1, h2, h3⟩ := encode_ok c
  have hs : sizeS x 0 1 = ((sizeS x 0 1).1, 0, (sizeS x 0 1).2.2) := Prod.ext rfl (Prod.ext h2 rfl)
  have bex : Bytes (encS x) := by rw [h1] at bx; exact bx
  have hd := Decode_enc hs bex h3
  have heq := equal_conv (x := x) (y := x) (by omega) (by omega) bx bx
  rw [if_pos c, if_pos c] at heq
  rw [h1] at j2 heq ⊢
  dsimp only at j2 heq ⊢
  obtain ⟨z, n, e, hf, hbad, hok⟩ := first_p (b := encS x ++ more) (bex.append hbm)
  refine Conv.bind hd (Conv.iteT (by simp; omega) (Conv.bindc (a := encS x) (by rw [List.nil_append]) (Conv.iteT (by omega) (Conv.bind hf ?_))))
  refine Conv.iteT rfl (Conv.bind (same_refl x hlx) (Conv.iteT rfl (Conv.bind heq ?_)))
  refine Conv.succ ?_
  simp only [morainelaw4_RlpBack.j1]
  refine Conv.iteF (by simp) ?_
  rw [wrap64_id (n := ((encS x).length : Int) + (more.length : Int)) (by omega) (by omega)]
  refine Conv.ite (fun c4 => ?_) fun _ => j2
  have hf2 := First_enc (more := more) hs (bex.append hbm) (by rw [List.length_append]; omega)
  have hu := Conv.uniq hf hf2
  simp only [Prod.mk.injEq] at hu
  obtain ⟨u1, u2, u3, u4, u5⟩ := hu
  refine Conv.iteT u5 (Conv.iteT u4 ?_)
  rw [u1, u2, u3]
  exact Conv.bind (same_refl x hlx) (Conv.iteT rfl j2)
end Go.Proofs.Ytbobnopnfjcajaa.Pure
