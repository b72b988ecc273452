/- Internal keys: made and split, by the program and by the document. -/
import Derived.Test.YteogjahkccmfaaaFix
import Derived.Test.YteogjahkccmfaaaPx6
import Derived.Test.YteogjahkccmfaaaPx11
import Derived.Test.YteogjahkccmfaaaPx14
import Derived.Test.YteogjahkccmfaaaPx15
import Derived.Test.YteogjahkccmfaaaPx17
namespace Go.Proofs.Yteogjahkccmfaaa.Base
open Go Go.RowKit Go.Proofs.YteogjahkccmfaaaW.PrintWords Go.Proofs.YteogjahkccmfaaaW.PrintLast Go.Proofs.YteogjahkccmfaaaW.PrintMore Go.Proofs.Yteogjahkccmfaaa.P

/-- a user key, a number and a kind that make an internal key -/
def Right (l : List Int) (a b : Int) : Prop := (l.length : Int) ≤ 128 ∧ a ≤ 72057594037927935 ∧ (b = 0 ∨ b = 1)
instance (l : List Int) (a b : Int) : Decidable (Right l a b) := by unfold Right; infer_instance
def key (l : List Int) (a b : Int) : List Int × Int := if Right l a b then (l ++ fixedL (a * 256 + b) 8, 0) else ([], 23)
def split (l : List Int) : List Int × Int × Int × Int :=
  if l.length < 8 ∨ 136 < l.length then ([], 0, 0, 23)
  else if 1 < leVal (l.drop (l.length - 8)) % 256 then ([], 0, 0, 23)
  else (l.take (l.length - 8), leVal (l.drop (l.length - 8)) / 256, leVal (l.drop (l.length - 8)) % 256, 0)

theorem right_eq (l : List Int) (a b : Int) : codec_right.f l a b = some (decide (Right l a b)) := by
  unfold codec_right.f Right
  by_cases h1 : (l.length : Int) ≤ 128 <;> by_cases h2 : a ≤ 72057594037927935 <;> by_cases h3 : b = 0 <;> simp [h1, h2, h3]
  by_cases h4 : b = 1 <;> simp [h4]
theorem clone_eq {l : List Int} (h : l.length < 140737488355328) : bytes_Clone.f l = some l := by simp [bytes_Clone.f, h]
theorem fixed8_conv (a : Int) : Conv (fun k => codec_Fixed8.f k a) (fixedL a 8) := by
  unfold codec_Fixed8.f
  exact Conv.bind (fixed_conv a 8 (by omega)) (Conv.pure _)
theorem key_conv {l : List Int} {a b : Int} (ha : 0 ≤ a) : Conv (fun k => codec_Key.f k l a b) (key l a b) := by
  unfold codec_Key.f
  refine Conv.bindc (right_eq l a b) ?_
  unfold key
  by_cases h : Right l a b
  · rw [if_pos h]
    obtain ⟨h1, h2, h3⟩ := id h
    refine Conv.iteT (by simp [h]) ?_
    refine Conv.bindc (clone_eq (by omega)) ?_
    rw [wrapU64_id (n := a * 256) (by omega) (by omega), wrapU64_id (n := b) (by omega) (by omega), wrapU64_id (by omega) (by omega)]
    refine Conv.bind (fixed8_conv _) ?_
    exact Conv.iteT (by rw [fixedL_length]; omega) (Conv.pure _)
  · rw [if_neg h]
    exact Conv.iteF (by simp [h]) (Conv.pure _)
theorem rkey_conv {l : List Int} {a b : Int} (ha : 0 ≤ a) : Conv (fun k => moraineref2_Key.f k l a b) (key l a b) := by
  unfold moraineref2_Key.f key
  by_cases h : Right l a b
  · rw [if_pos h]
    obtain ⟨h1, h2, h3⟩ := id h
    refine Conv.iteF (by omega) (Conv.iteF (by omega) (Conv.iteF (by omega) (Conv.iteF (by omega) (Conv.iteT (by simp; omega) ?_))))
    refine Conv.bindc rfl ?_
    rw [wrapU64_id (n := 256 * a) (by omega) (by omega), wrapU64_id (n := b) (by omega) (by omega), wrapU64_id (by omega) (by omega), Int.mul_comm 256 a]
    refine Conv.bind (rfixed_conv _ 8 (by omega)) ?_
    exact Conv.iteT (by simp [fixedL_length]; omega) (Conv.pure _)
  · rw [if_neg h]
    refine Conv.ite (fun _ => Conv.pure _) fun c1 => Conv.ite (fun _ => Conv.pure _) fun c2 => Conv.ite (fun _ => Conv.pure _) fun c3 => Conv.ite (fun _ => Conv.pure _) fun c4 => ?_
    exact absurd ⟨by omega, by omega, by omega⟩ h
theorem unfixed8_conv {l : List Int} (hl : Bytes l) (h : 8 ≤ l.length) : Conv (fun k => codec_Unfixed8.f k l) (leVal (l.take 8), 0) := by
  unfold codec_Unfixed8.f
  exact Conv.bind (unfixed_conv hl 8 (by omega) (by omega)) (Conv.pure _)
theorem unfixed8_short {l : List Int} (h : l.length < 8) : Conv (fun k => codec_Unfixed8.f k l) (0, 20) := by
  unfold codec_Unfixed8.f
  exact Conv.bind (unfixed_short 8 (by omega)) (Conv.pure _)
theorem last8 {l : List Int} (hl : Bytes l) (h : 8 ≤ l.length) : 0 ≤ leVal (l.drop (l.length - 8)) ∧ leVal (l.drop (l.length - 8)) < 18446744073709551616 := by
  have := leVal_range (hl.drop (l.length - 8))
  have e : (l.drop (l.length - 8)).length = 8 := by rw [List.length_drop]; omega
  rw [e] at this
  have e : (256 : Nat) ^ 8 = 18446744073709551616 := by decide
  omega
theorem split_conv {l : List Int} (hl : Bytes l) (hlen : l.length < 140737488355328) : Conv (fun k => codec_Split.f k l) (split l) := by
  unfold codec_Split.f split
  rw [wrap64_id (by omega) (by omega)]
  refine Conv.ite (fun c => ?_) fun c => ?_
  · rw [if_pos (by omega)]; exact Conv.pure _
  · have e : ((l.length : Int) - 8).toNat = l.length - 8 := by omega
    have h8 : 8 ≤ l.length := by omega
    refine Conv.iteT (by omega) (Conv.iteT (by omega) ?_)
    rw [e]
    have hv := last8 hl h8
    have e8 : (l.drop (l.length - 8)).take 8 = l.drop (l.length - 8) := List.take_of_length_le (by rw [List.length_drop]; omega)
    have := unfixed8_conv (hl.drop (l.length - 8)) (by rw [List.length_drop]; omega)
    rw [e8] at this
    refine Conv.bind this ?_
    simp only [Int.tdiv_eq_ediv_of_nonneg hv.1, Int.tmod_eq_emod_of_nonneg hv.1]
    rw [wrapU64_id (by omega) (by omega), wrap64_id (n := _ % 256) (by omega) (by omega)]
    refine Conv.bindc (right_eq _ _ _) ?_
    have hr : Right (l.take (l.length - 8)) (leVal (l.drop (l.length - 8)) / 256) (leVal (l.drop (l.length - 8)) % 256) ↔ l.length ≤ 136 ∧ leVal (l.drop (l.length - 8)) % 256 ≤ 1 := by
      unfold Right
      rw [List.length_take]
      omega
    by_cases h : l.length ≤ 136 ∧ leVal (l.drop (l.length - 8)) % 256 ≤ 1
    · refine Conv.eq (v := (l.take (l.length - 8), leVal (l.drop (l.length - 8)) / 256, leVal (l.drop (l.length - 8)) % 256, 0)) ?_ (by rw [if_neg (by omega), if_neg (by omega)])
      refine Conv.iteT (by simp only [decide_eq_true_eq, hr]; exact h) ?_
      refine Conv.bindc (clone_eq (by rw [List.length_take]; omega)) (Conv.pure _)
    · have : (if l.length < 8 ∨ 136 < l.length then (([] : List Int), (0 : Int), (0 : Int), (23 : Int)) else if 1 < leVal (l.drop (l.length - 8)) % 256 then ([], 0, 0, 23) else (l.take (l.length - 8), leVal (l.drop (l.length - 8)) / 256, leVal (l.drop (l.length - 8)) % 256, 0)) = ([], 0, 0, 23) := by
        by_cases hh : l.length ≤ 136
        · rw [if_neg (by omega), if_pos (by omega)]
        · rw [if_pos (by omega)]
      rw [this]
      refine Conv.iteF (by simp only [decide_eq_true_eq, hr]; exact h) (Conv.pure _)
theorem rsplit_conv {l : List Int} (hl : Bytes l) (hlen : l.length < 140737488355328) : Conv (fun k => moraineref2_Split.f k l) (split l) := by
  unfold moraineref2_Split.f split
  refine Conv.ite (fun c => ?_) fun c => ?_
  · rw [if_pos (by omega)]
    refine Conv.succ ?_
    simp only [moraineref2_Split.j0]
    exact Conv.iteT trivial (Conv.pure _)
  · refine Conv.succ ?_
    simp only [moraineref2_Split.j0]
    refine Conv.ite (fun c1 => ?_) fun c1 => ?_
    · exact Conv.eq (Conv.pure _) (by rw [if_pos (by have := of_decide_eq_true c1; omega)])
    · have c1 : ¬ ((l.length : Int) > 136) := fun h => c1 (decide_eq_true h)
      rw [wrap64_id (by omega) (by omega)]
      refine Conv.eq (v := if 1 < leVal (l.drop (l.length - 8)) % 256 then ([], 0, 0, 23) else (l.take (l.length - 8), leVal (l.drop (l.length - 8)) / 256, leVal (l.drop (l.length - 8)) % 256, 0)) ?_ (by rw [if_neg (c := l.length < 8 ∨ 136 < l.length) (by omega)])
      have e : ((l.length : Int) - 8) = ((l.length - 8 : Nat) : Int) := by omega
      have e8 : (l.drop (l.length - 8)).take 8 = l.drop (l.length - 8) := List.take_of_length_le (by rw [List.length_drop]; omega)
      have hv := last8 hl (by omega)
      rw [e]
      have := runfixed_conv hl (l.length - 8) 8 (by omega) (by omega) (by omega)
      rw [e8] at this
      refine Conv.bind this ?_
      simp only [Int.tdiv_eq_ediv_of_nonneg hv.1, Int.tmod_eq_emod_of_nonneg hv.1]
      refine Conv.ite (fun c2 => ?_) fun c2 => ?_
      · exact Conv.eq (Conv.pure _) (by rw [if_pos (by omega)])
      · refine Conv.eq (v := (l.take (l.length - 8), leVal (l.drop (l.length - 8)) / 256, leVal (l.drop (l.length - 8)) % 256, 0)) ?_ (by rw [if_neg (by omega)])
        rw [wrapU64_id (by omega) (by omega), wrap64_id (n := _ % 256) (by omega) (by omega), Int.toNat_natCast]
        exact Conv.iteT (by omega) (Conv.iteT (by omega) (Conv.pure _))
theorem split_bytes {l : List Int} (hl : Bytes l) : Bytes (split l).1 := by
  unfold split
  split
  · intro x hx; cases hx
  · split
    · intro x hx; cases hx
    · exact hl.take _
theorem split_key {l : List Int} {a b : Int} (ha : 0 ≤ a) (h : Right l a b) : split (l ++ fixedL (a * 256 + b) 8) = (l, a, b, 0) := by
  obtain ⟨h1, h2, h3⟩ := h
  have el : (l ++ fixedL (a * 256 + b) 8).length = l.length + 8 := by rw [List.length_append, fixedL_length]
  have ed : (l ++ fixedL (a * 256 + b) 8).drop ((l ++ fixedL (a * 256 + b) 8).length - 8) = fixedL (a * 256 + b) 8 := by
    rw [el, Nat.add_sub_cancel, List.drop_left]
  have et : (l ++ fixedL (a * 256 + b) 8).take ((l ++ fixedL (a * 256 + b) 8).length - 8) = l := by
    rw [el, Nat.add_sub_cancel, List.take_left]
  have ev : leVal (fixedL (a * 256 + b) 8) = a * 256 + b := by
    rw [leVal_fixedL (by omega)]
    have e : (256 : Nat) ^ 8 = 18446744073709551616 := by decide
    rw [e]; omega
  unfold split
  rw [ed, et, el, ev, if_neg (by omega), if_neg (by omega)]
  congr 2
  · omega
  · congr 1; omega
theorem key_bytes {l : List Int} (hl : Bytes l) (a b : Int) : Bytes (key l a b).1 := by
  unfold key
  split
  · exact hl.append (fixedL_bytes _ _)
  · intro x hx; cases hx
theorem key_length {l : List Int} (a b : Int) : (key l a b).1.length ≤ 136 := by
  unfold key
  split
  · rename_i h; have := h.1; simp only [List.length_append, fixedL_length]; omega
  · simp
end Go.Proofs.Yteogjahkccmfaaa.Base
