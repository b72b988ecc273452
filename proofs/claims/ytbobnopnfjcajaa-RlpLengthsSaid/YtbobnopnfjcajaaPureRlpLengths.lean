/- RlpLengths' pure statement: a string of n bytes takes one byte more, or two, or three; one small byte none; a list of two such strings likewise. -/
import Derived.Test.YtbobnopnfjcajaaPx15
import Derived.Test.YtbobnopnfjcajaaRlp
namespace Go.Proofs.Ytbobnopnfjcajaa.Pure
set_option linter.unusedVariables false
set_option linter.unusedSimpArgs false
open Go Go.RowKit Go.Proofs.Ytbobnopnfjcajaa.P Go.Proofs.YtbobnopnfjcajaaW.PrintWords Go.Proofs.YtbobnopnfjcajaaW.PrintLast Go.Proofs.Ytbobnopnfjcajaa.Base

def headN (n : Int) : Int := if n ≤ 55 then 1 else if n < 256 then 2 else 3
theorem head_eq (n : Int) : morainelaw4_head.f n = some (headN n) := by
  unfold morainelaw4_head.f headN
  split
  · rfl
  · split <;> rfl
theorem digS_two {n : Nat} (h : 256 ≤ n) (h2 : n < 65536) : (digS n).length = 2 := by
  rw [digS_pos (by omega), digS_pos (n := n / 256) (by omega), show n / 256 / 256 = 0 by omega, digS_zero]
  rfl
theorem digS_one {n : Nat} (h : 0 < n) (h2 : n < 256) : (digS n).length = 1 := by
  rw [digS_pos (by omega), show n / 256 = 0 by omega, digS_zero]
  rfl
theorem headS_N {b n : Nat} (h : n < 65536) : ((headS b n).length : Int) = headN (n : Int) := by
  unfold headS headN
  by_cases h1 : n ≤ 55
  · rw [if_pos h1, if_pos (by omega)]; rfl
  · rw [if_neg h1, if_neg (by omega), List.length_cons]
    by_cases h2 : n < 256
    · rw [if_pos (by omega), digS_one (by omega) h2]; rfl
    · rw [if_neg (by omega), digS_two (by omega) h]; rfl
theorem size_string (l : List Int) (n d : Int) (hd : d ≤ 16) (hn : 0 ≤ n ∧ n ≤ 4000) : (sizeS ⟨false, l, []⟩ n d).2.1 = 0 ∧ (sizeS ⟨false, l, []⟩ n d).2.2 = n + 1 := by
  rw [sizeS, if_neg (by omega), if_neg (by simp)]
  split
  · exact ⟨rfl, rfl⟩
  · rw [sizeL]; exact ⟨rfl, rfl⟩
theorem encode_string (l : List Int) (h : l.length ≤ 3000) : encode ⟨false, l, []⟩ = (encS ⟨false, l, []⟩, 0) ∧ ((encS ⟨false, l, []⟩).length : Int) = if ownS l = true then 1 else (l.length : Int) + headN (l.length : Int) := by
  have hs := size_string l 0 1 (by decide) (by decide)
  have hl : ((encS ⟨false, l, []⟩).length : Int) = if ownS l = true then 1 else (l.length : Int) + headN (l.length : Int) := by
    rw [encS, if_neg (by decide)]
    split
    · rename_i ho
      rw [(of_decide_eq_true ho).1]; rfl
    · rw [List.length_append, ← headS_N (b := 128) (by omega)]
      omega
  refine ⟨?_, hl⟩
  have hb : headN (l.length : Int) ≤ 3 := by unfold headN; split <;> (try split) <;> omega
  unfold encode
  rw [if_neg (by rw [hs.1]; decide), if_neg]
  split at hl <;> omega
theorem encode_pair (l : List Int) (h : l.length ≤ 3000) : encode ⟨true, [], [⟨false, l, []⟩, ⟨false, l, []⟩]⟩ = (encS ⟨true, [], [⟨false, l, []⟩, ⟨false, l, []⟩]⟩, 0) ∧
    ((encS ⟨true, [], [⟨false, l, []⟩, ⟨false, l, []⟩]⟩).length : Int) = 2 * ((encS ⟨false, l, []⟩).length : Int) + headN (2 * ((encS ⟨false, l, []⟩).length : Int)) := by
  have he := (encode_string l h).2
  have hb : 1 ≤ headN (l.length : Int) ∧ headN (l.length : Int) ≤ 3 := by unfold headN; split <;> (try split) <;> omega
  have hle : (encS ⟨false, l, []⟩).length ≤ 3003 := by split at he <;> omega
  have hl : ((encS ⟨true, [], [⟨false, l, []⟩, ⟨false, l, []⟩]⟩).length : Int) = 2 * ((encS ⟨false, l, []⟩).length : Int) + headN (2 * ((encS ⟨false, l, []⟩).length : Int)) := by
    rw [encS, if_pos rfl]
    simp only [encL, List.append_nil, List.length_append]
    have e := headS_N (b := 192) (n := (encS ⟨false, l, []⟩).length + (encS ⟨false, l, []⟩).length) (by omega)
    have e2 : (((encS ⟨false, l, []⟩).length + (encS ⟨false, l, []⟩).length : Nat) : Int) = 2 * ((encS ⟨false, l, []⟩).length : Int) := by omega
    rw [e2] at e
    omega
  refine ⟨?_, hl⟩
  have hs : (sizeS ⟨true, [], [⟨false, l, []⟩, ⟨false, l, []⟩]⟩ 0 1).2.1 = 0 := by
    have h1 := size_string l 1 2 (by decide) (by decide)
    have h2 := size_string l 2 2 (by decide) (by decide)
    rw [sizeS, if_neg (by decide), if_neg (by simp), if_neg (by simp [ownS])]
    rw [sizeL]
    show (if (sizeS ⟨false, l, []⟩ 1 2).2.1 = 0 then sizeL [⟨false, l, []⟩] (sizeS ⟨false, l, []⟩ 1 2).2.2 2 (((([] : List Int).length : Int)) + (sizeS ⟨false, l, []⟩ 1 2).1) else (0, (sizeS ⟨false, l, []⟩ 1 2).2.1, (sizeS ⟨false, l, []⟩ 1 2).2.2)).2.1 = 0
    rw [if_pos h1.1, h1.2, sizeL]
    show (if (sizeS ⟨false, l, []⟩ 2 2).2.1 = 0 then _ else _ : Int × Int × Int).2.1 = 0
    rw [if_pos h2.1, sizeL]
  have hb2 : headN (2 * ((encS ⟨false, l, []⟩).length : Int)) ≤ 3 := by unfold headN; split <;> (try split) <;> omega
  unfold encode
  rw [if_neg (by rw [hs]; decide), if_neg (by omega)]
theorem lengths_end {l : List Int} {n b : Int} (hn : (l.length : Int) = n) (h3 : n ≤ 3000) (h1 : n = 1 → rd l 0 = b) :
    Conv (fun k => (rlp_Encode.f k false l ([] : List (S25))).bind fun bt254 => ((morainelaw4_head.f n).bind fun t258 => (if n = 1 then (morainelaw4_RlpLengths.j2 k l bt254.1 bt254.2 (wrap64 (n + t258)) (decide (b < 128))) else (morainelaw4_RlpLengths.j2 k l bt254.1 bt254.2 (wrap64 (n + t258)) false)))) true := by
  have he := encode_string l (by omega)
  have hp := encode_pair l (by omega)
  have hc := encode_conv ⟨false, l, []⟩ (by simp only [totS, totL]; omega)
  have hc2 := encode_conv ⟨true, [], [⟨false, l, []⟩, ⟨false, l, []⟩]⟩ (by simp only [totS, totL, List.length_nil]; omega)
  have hb : 1 ≤ headN n ∧ headN n ≤ 3 := by unfold headN; split <;> (try split) <;> omega
  rw [he.1] at hc
  rw [hp.1] at hc2
  refine Conv.bind hc (Conv.bindc (head_eq n) ?_)
  rw [wrap64_id (by omega) (by omega)]
  have fin : ∀ s : Int, s = ((encS ⟨false, l, []⟩).length : Int) → Conv (fun k => morainelaw4_RlpLengths.j3 k l (encS ⟨false, l, []⟩) 0 s) true := by
    intro s hs
    have hs3 : 0 ≤ s ∧ s ≤ 3003 := by
      have := he.2
      rw [hn] at this
      split at this <;> omega
    refine Conv.succ ?_
    simp only [morainelaw4_RlpLengths.j3]
    refine Conv.iteT (by trivial) ?_
    rw [show ((((encS ⟨false, l, []⟩).length : Int)) != s) = false by rw [hs]; exact bne_self_eq_false _]
    refine Conv.succ ?_
    simp only [morainelaw4_RlpLengths.j4]
    refine Conv.iteF (by decide) (Conv.bind hc2 (Conv.iteT (by trivial) (Conv.bindc (head_eq _) (Conv.const ?_))))
    have hb2 : 1 ≤ headN (2 * s) ∧ headN (2 * s) ≤ 3 := by unfold headN; split <;> (try split) <;> omega
    rw [wrap64_id (n := 2 * s) (by omega) (by omega), wrap64_id (by omega) (by omega), hp.2, hs, beq_self_eq_true]
  have own : ownS l = true ↔ n = 1 ∧ b < 128 := by
    unfold ownS
    rw [decide_eq_true_iff]
    constructor
    · rintro ⟨a1, a2⟩
      have : n = 1 := by omega
      exact ⟨this, by rw [← h1 this]; exact a2⟩
    · rintro ⟨a1, a2⟩
      exact ⟨by omega, by rw [h1 a1]; exact a2⟩
  refine Conv.ite (fun c => ?_) fun c => ?_
  · refine Conv.succ ?_
    simp only [morainelaw4_RlpLengths.j2]
    by_cases hb1 : b < 128
    · refine Conv.iteT (by simp [hb1]) (fin 1 ?_)
      rw [he.2, if_pos (own.mpr ⟨c, hb1⟩)]
    · refine Conv.iteF (by simp [hb1]) (fin _ ?_)
      rw [he.2, if_neg (fun h => hb1 (own.mp h).2), hn]
  · refine Conv.succ ?_
    simp only [morainelaw4_RlpLengths.j2]
    refine Conv.iteF (by decide) (fin _ ?_)
    rw [he.2, if_neg (fun h => c (own.mp h).1), hn]
theorem lengths_l0 {n b : Int} (h0 : 0 ≤ n) (h3 : n ≤ 3000) (j : Nat) : ∀ (i : Nat) (l : List Int), (l.length : Int) = n → (i : Int) + j = n → (0 < i → rd l 0 = b) →
    Conv (fun k => morainelaw4_RlpLengths.l0 k n b l (i : Int)) true := by
  induction j with
  | zero =>
    intro i l hl hi hr
    refine Conv.succ ?_
    simp only [morainelaw4_RlpLengths.l0]
    exact Conv.iteF (by omega) (lengths_end hl h3 (fun h => hr (by omega)))
  | succ j ih =>
    intro i l hl hi hr
    refine Conv.succ ?_
    simp only [morainelaw4_RlpLengths.l0]
    refine Conv.iteT (by omega) (Conv.iteT (by omega) (Conv.iteT (by omega) ?_))
    rw [wrap64_id (by omega) (by omega), Int.toNat_natCast]
    refine ih (i + 1) (l.set i b) (by simpa using hl) (by omega) (fun _ => ?_)
    by_cases h : i = 0
    · subst h
      have hlen : 0 < l.length := by omega
      simp [rd, List.getD_eq_getElem?_getD, hlen]
    · have := hr (by omega)
      simp only [rd, List.getD_eq_getElem?_getD] at this ⊢
      rw [List.getElem?_set_ne (by simp; omega)]
      exact this
theorem RlpLengths : morainelaw4_RlpLengths.Pure := by
  intro n b wn wb
  have hn := wf_i64 wn
  refine Conv.ex ?_
  simp only [morainelaw4_RlpLengths.f, morainelaw4_known.f]
  refine Conv.bindc rfl (Conv.iteT rfl ?_)
  have out : Conv (fun k => morainelaw4_RlpLengths.j0 k n b true) true := by
    refine Conv.succ ?_
    simp only [morainelaw4_RlpLengths.j0]
    exact Conv.iteT (by trivial) (Conv.pure _)
  refine Conv.ite (fun _ => out) fun c1 => ?_
  by_cases c2 : n > 3000
  · rw [decide_eq_true c2]; exact out
  · rw [decide_eq_false c2]
    refine Conv.succ ?_
    simp only [morainelaw4_RlpLengths.j0]
    refine Conv.iteF (by decide) (Conv.iteT (by omega) (Conv.iteT (by omega) ?_))
    exact lengths_l0 (by omega) (by omega) n.toNat 0 _ (by simp; omega) (by omega) (fun h => absurd h (by decide))

end Go.Proofs.Ytbobnopnfjcajaa.Pure
