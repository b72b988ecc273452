/- CodecTakes' pure statement: every bytes are read as the document says: the number at their beginning, the fixed ones, or the first fault. -/
import Derived.Test.YteogjahkccmfaaaPx22
import Derived.Test.YteogjahkccmfaaaTake
namespace Go.Proofs.Yteogjahkccmfaaa.Pure
open Go Go.RowKit Go.Proofs.Yteogjahkccmfaaa.P Go.Proofs.YteogjahkccmfaaaW.PrintWords Go.Proofs.YteogjahkccmfaaaW.PrintLast Go.Proofs.Yteogjahkccmfaaa.Base

theorem takes_unfixed8_conv {l : List Int} (hl : Bytes l) (h : 8 ≤ l.length) : Conv (fun k => codec_Unfixed8.f k l) (leVal (l.take 8), 0) := by
  unfold codec_Unfixed8.f
  exact Conv.bind (unfixed_conv hl 8 (by omega) (by omega)) (Conv.pure _)
theorem takes_unfixed8_short {l : List Int} (h : l.length < 8) : Conv (fun k => codec_Unfixed8.f k l) (0, 20) := by
  unfold codec_Unfixed8.f
  exact Conv.bind (unfixed_short 8 (by omega)) (Conv.pure _)
theorem leVal4 {l : List Int} (hl : Bytes l) : 0 ≤ leVal (l.take 4) ∧ leVal (l.take 4) < 4294967296 := by
  have := leVal_range (hl.take 4)
  have p : (256 : Nat) ^ (l.take 4).length ≤ 256 ^ 4 := Nat.pow_le_pow_right (by decide) (by rw [List.length_take]; omega)
  have e : (256 : Nat) ^ 4 = 4294967296 := by decide
  omega
theorem unfixed4_conv {l : List Int} (hl : Bytes l) (h : 4 ≤ l.length) : Conv (fun k => codec_Unfixed4.f k l) (leVal (l.take 4), 0) := by
  unfold codec_Unfixed4.f
  refine Conv.bind (unfixed_conv hl 4 (by omega) (by omega)) (Conv.eq (Conv.pure _) ?_)
  have := leVal4 hl
  rw [Int.emod_eq_of_lt (by omega) (by omega)]
theorem unfixed4_short {l : List Int} (h : l.length < 4) : Conv (fun k => codec_Unfixed4.f k l) (0, 20) := by
  unfold codec_Unfixed4.f
  exact Conv.bind (unfixed_short 4 (by omega)) (Conv.eq (Conv.pure _) (by decide))
theorem takes_j1 {l : List Int} (hl : Bytes l) (hlen : l.length < 4611686018427387904) (u : Int × Int) (hu : u = if l.length < 4 then (0, 20) else (leVal (l.take 4), 0)) :
    Conv (fun k => morainelaw2_CodecTakes.j1 k l u.1 u.2 false) true := by
  refine Conv.succ ?_
  simp only [morainelaw2_CodecTakes.j1]
  refine Conv.iteF (by decide) (Conv.ite (fun c => ?_) fun c => ?_)
  · rw [if_pos (by omega)] at hu
    subst hu
    exact Conv.iteT (by trivial) (Conv.const (by decide))
  · rw [if_neg (by omega)] at hu
    subst hu
    refine Conv.iteT (by trivial) ?_
    have := runfixed_conv hl 0 4 (by omega) (by omega) hlen
    refine Conv.bind this (Conv.const ?_)
    have := leVal4 hl
    rw [wrapU64_id (by omega) (by omega), List.drop_zero, beq_self_eq_true]
theorem CodecTakes : morainelaw2_CodecTakes.Pure := by
  intro l _ s w
  have hl := bytes_of_wf w
  refine Conv.ex ?_
  simp only [morainelaw2_CodecTakes.f, morainelaw2_known.f]
  refine Conv.bindc rfl (Conv.iteT rfl ?_)
  refine Conv.bind (take_conv hl (by omega)) (Conv.bind (rtake_conv hl (by omega) 0 (by omega)) ?_)
  rw [List.drop_zero]
  refine Conv.iteT rfl (Conv.iteT rfl ?_)
  rw [bne_self_eq_false]
  refine Conv.succ ?_
  simp only [morainelaw2_CodecTakes.j0]
  refine Conv.iteF (by decide) ?_
  have h4 : Conv (fun k => codec_Unfixed4.f k l) (if l.length < 4 then (0, 20) else (leVal (l.take 4), 0)) := by
    by_cases c : l.length < 4
    · rw [if_pos c]; exact unfixed4_short c
    · rw [if_neg c]; exact unfixed4_conv hl (by omega)
  by_cases c : l.length < 8
  · refine Conv.bind (takes_unfixed8_short c) (Conv.bind h4 ?_)
    refine Conv.iteT (by omega) (Conv.iteT (by trivial) (Conv.iteT (by trivial) (Conv.iteF (by omega) ?_)))
    exact takes_j1 hl (by omega) _ rfl
  · refine Conv.bind (takes_unfixed8_conv hl (by omega)) (Conv.bind h4 ?_)
    refine Conv.iteF (by omega) (Conv.iteT (by omega) (Conv.iteT (by trivial) ?_))
    have := runfixed_conv hl 0 8 (by omega) (by omega) (by omega)
    refine Conv.bind this ?_
    rw [List.drop_zero, bne_self_eq_false]
    exact takes_j1 hl (by omega) _ rfl

end Go.Proofs.Yteogjahkccmfaaa.Pure
