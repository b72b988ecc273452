/- CodecNumbers' pure statement: every number has the document's bytes and comes back from them, whatever stands behind. -/
import Derived.Test.YteogjahkccmfaaaPx25
import Derived.Test.YteogjahkccmfaaaTake
namespace Go.Proofs.Yteogjahkccmfaaa.Pure
open Go Go.RowKit Go.Proofs.Yteogjahkccmfaaa.P Go.Proofs.YteogjahkccmfaaaW.PrintWords Go.Proofs.YteogjahkccmfaaaW.PrintLast Go.Proofs.Yteogjahkccmfaaa.Base

theorem num_bytes_eq {a b : List Int} (ha : Bytes a) (hb : Bytes b) : morainehelp_Bytes.f a b = some (a == b) := by
  unfold morainehelp_Bytes.f; rw [strOfNums_beq ha hb]
theorem CodecNumbers : morainelaw2_CodecNumbers.Pure := by
  intro a l w0 _ s w
  have hl := bytes_of_wf w
  have ha := wf_u64 w0
  have hp := putS_bytes a.toNat
  have hn := putS_length64 (n := a.toNat) (by omega)
  refine Conv.ex ?_
  simp only [morainelaw2_CodecNumbers.f, morainelaw2_known.f]
  refine Conv.bindc rfl (Conv.iteT rfl ?_)
  refine Conv.bind (put_conv ha) (Conv.iteT (by simp; omega) (Conv.bindc rfl (Conv.iteT (by simp; omega) ?_)))
  rw [List.nil_append]
  refine Conv.bind (take_conv (hp.append hl) (by simp; omega)) (Conv.bind (rput_conv ha) (Conv.bindc (num_bytes_eq hp hp) ?_))
  rw [take_put ha l]
  refine Conv.iteT (beq_self_eq_true _) (Conv.iteT rfl (Conv.iteT rfl ?_))
  rw [bne_self_eq_false]
  refine Conv.succ ?_
  simp only [morainelaw2_CodecNumbers.j0]
  refine Conv.iteF (by decide) ?_
  have h8 : Conv (fun k => codec_Fixed8.f k a) (fixedL a 8) := by
    unfold codec_Fixed8.f
    exact Conv.bind (fixed_conv a 8 (by omega)) (Conv.pure _)
  have h4 : Conv (fun k => codec_Fixed4.f k (a % 4294967296)) (fixedL (a % 4294967296) 4) := by
    unfold codec_Fixed4.f
    rw [wrapU64_id (by omega) (by omega)]
    exact Conv.bind (fixed_conv _ 4 (by omega)) (Conv.pure _)
  have b8 := fixedL_bytes a 8
  have n8 := fixedL_length a 8
  have b4 := fixedL_bytes (a % 4294967296) 4
  have n4 := fixedL_length (a % 4294967296) 4
  have t8 : (fixedL a 8 ++ l).take 8 = fixedL a 8 := List.take_left' n8
  have t4 : (fixedL (a % 4294967296) 4 ++ l).take 4 = fixedL (a % 4294967296) 4 := List.take_left' n4
  have u8 : Conv (fun k => codec_Unfixed8.f k (fixedL a 8 ++ l)) (a, 0) := by
    unfold codec_Unfixed8.f
    refine Conv.bind (unfixed_conv (b8.append hl) 8 (by omega) (by simp [n8])) (Conv.eq (Conv.pure _) ?_)
    rw [t8, leVal_fixedL ha.1]
    have e : (256 : Nat) ^ 8 = 18446744073709551616 := by decide
    rw [e, Int.emod_eq_of_lt ha.1 (by omega)]
  have u4 : Conv (fun k => codec_Unfixed4.f k (fixedL (a % 4294967296) 4 ++ l)) (a % 4294967296, 0) := by
    unfold codec_Unfixed4.f
    refine Conv.bind (unfixed_conv (b4.append hl) 4 (by omega) (by simp [n4])) (Conv.eq (Conv.pure _) ?_)
    rw [t4, leVal_fixedL (by omega)]
    have e : (256 : Nat) ^ 4 = 4294967296 := by decide
    rw [e]
    congr 1
    omega
  have r4 : Conv (fun k => moraineref2_Fixed.f k (Int.tmod a 4294967296) 4) (fixedL (a % 4294967296) 4) := by
    rw [Int.tmod_eq_emod_of_nonneg ha.1]
    exact rfixed_conv _ 4 (by omega)
  refine Conv.bind h8 (Conv.bind h4 (Conv.iteT (by simp [n8]) (Conv.bindc rfl (Conv.iteT (by simp [n8]; omega) ?_))))
  rw [List.nil_append]
  refine Conv.bind u8 (Conv.iteT (by simp [n4]) (Conv.bindc rfl (Conv.iteT (by simp [n4]; omega) ?_)))
  rw [List.nil_append]
  refine Conv.bind u4 (Conv.bind (rfixed_conv a 8 (by omega)) (Conv.bindc (num_bytes_eq b8 b8) (Conv.iteT (beq_self_eq_true _) ?_)))
  refine Conv.bind r4 (Conv.bindc (num_bytes_eq b4 b4) (Conv.iteT (beq_self_eq_true _) ?_))
  exact Conv.iteT rfl (Conv.iteT rfl (Conv.iteT rfl (Conv.const (by rw [beq_self_eq_true]))))

end Go.Proofs.Yteogjahkccmfaaa.Pure
