/- CodecFrames' pure statement: every bytes framed and summed; the frame comes back, whatever stands behind; with a byte of its sum or its body changed it is told. -/
import Derived.Test.YteogjahkccmfaaaPx33
import Derived.Test.YteogjahkccmfaaaUnframe
namespace Go.Proofs.Yteogjahkccmfaaa.Pure
open Go Go.RowKit Go.Proofs.Yteogjahkccmfaaa.P Go.Proofs.YteogjahkccmfaaaW.PrintWords Go.Proofs.YteogjahkccmfaaaW.PrintLast Go.Proofs.Yteogjahkccmfaaa.Base

theorem fr_bytes_eq {a b : List Int} (ha : Bytes a) (hb : Bytes b) : morainehelp_Bytes.f a b = some (a == b) := by
  unfold morainehelp_Bytes.f; rw [strOfNums_beq ha hb]
def frame (l : List Int) : List Int := fixedL ((crc l).toNat : Int) 4 ++ putS l.length ++ l
theorem frame_bytes {l : List Int} (hl : Bytes l) : Bytes (frame l) := ((fixedL_bytes _ _).append (putS_bytes _)).append hl
theorem frame_length {l : List Int} : (frame l).length = 4 + (putS l.length).length + l.length := by
  simp [frame, fixedL_length, Nat.add_assoc]
theorem frame_conv {l : List Int} (hl : Bytes l) (h : l.length ≤ 3000) : Conv (fun k => codec_Frame.f k l) (frame l, 0) := by
  have hp := putS_length64 (n := l.length) (by omega)
  unfold codec_Frame.f
  refine Conv.iteF (by omega) (Conv.bind (sum_conv hl (by omega)) ?_)
  have hc := (crc l).isLt
  have h4 : Conv (fun k => codec_Fixed4.f k ((crc l).toNat : Int)) (fixedL ((crc l).toNat : Int) 4) := by
    unfold codec_Fixed4.f
    rw [wrapU64_id (by omega) (by omega)]
    exact Conv.bind (fixed_conv _ 4 (by omega)) (Conv.pure _)
  refine Conv.bind h4 ?_
  rw [wrapU64_id (by omega) (by omega)]
  have := put_conv (a := (l.length : Int)) (by omega)
  rw [Int.toNat_natCast] at this
  refine Conv.bind this (Conv.iteT (by simp [fixedL_length]; omega) (Conv.bindc rfl (Conv.iteT (by simp [fixedL_length]; omega) (Conv.pure _))))
theorem rframe_conv {l : List Int} (hl : Bytes l) (h : l.length ≤ 3000) : Conv (fun k => moraineref2_Frame.f k l) (frame l, 0) := by
  have hp := putS_length64 (n := l.length) (by omega)
  unfold moraineref2_Frame.f
  refine Conv.iteF (by omega) ?_
  have hc := (crc l).isLt
  have h4 : Conv (fun k => moraineref2_Summed.f k l) (fixedL ((crc l).toNat : Int) 4) := by
    unfold moraineref2_Summed.f
    refine Conv.bind (rsum_conv hl (by omega)) ?_
    rw [wrapU64_id (by omega) (by omega)]
    exact Conv.bind (rfixed_conv _ 4 (by omega)) (Conv.pure _)
  refine Conv.bind h4 ?_
  rw [wrapU64_id (by omega) (by omega)]
  have := rput_conv (a := (l.length : Int)) (by omega)
  rw [Int.toNat_natCast] at this
  refine Conv.bind this (Conv.iteT (by simp [fixedL_length]; omega) (Conv.bindc rfl (Conv.iteT (by simp [fixedL_length]; omega) (Conv.pure _))))
theorem unframe_parts (s b rest : List Int) (hs : s.length = 4) (hb : b.length ≤ 3000) :
    unframe (s ++ putS b.length ++ b ++ rest) = if leVal s = ((crc b).toNat : Int) then (b, 4 + ((putS b.length).length : Int) + (b.length : Int), 0) else ([], 0, 22) := by
  have e4 : (s ++ putS b.length ++ b ++ rest).drop 4 = putS b.length ++ (b ++ rest) := by
    rw [List.append_assoc, List.append_assoc, ← hs, List.drop_left]
  have t4 : (s ++ putS b.length ++ b ++ rest).take 4 = s := by
    rw [List.append_assoc, List.append_assoc, ← hs, List.take_left]
  have hn : (s ++ putS b.length ++ b ++ rest).length = 4 + (putS b.length).length + b.length + rest.length := by simp [hs, Nat.add_assoc]
  have ht := take_put (a := (b.length : Int)) (by omega) (b ++ rest)
  rw [Int.toNat_natCast] at ht
  have ed : ((s ++ putS b.length ++ b ++ rest).drop (4 + (putS b.length).length)).take b.length = b := by
    rw [← List.drop_drop, e4, List.drop_left, List.take_left]
  unfold unframe
  rw [e4, t4, ht]
  simp only [Int.toNat_natCast]
  rw [ed, if_neg (by omega), if_neg (by decide), if_neg (by omega), if_neg (by omega)]
theorem unframe_frame (l rest : List Int) (h : l.length ≤ 3000) : unframe (frame l ++ rest) = (l, ((frame l).length : Int), 0) := by
  unfold frame
  rw [unframe_parts _ l rest (fixedL_length _ _) h, if_pos]
  · congr 2
    simp [fixedL_length]
    omega
  · rw [leVal_fixedL (Int.natCast_nonneg _)]
    have := (crc l).isLt
    have e : (256 : Nat) ^ 4 = 4294967296 := by decide
    rw [e]; omega
theorem leVal_inj {a : List Int} : ∀ {b : List Int}, Bytes a → Bytes b → a.length = b.length → leVal a = leVal b → a = b := by
  induction a with
  | nil => intro b _ _ h _; exact (List.eq_nil_of_length_eq_zero h.symm).symm
  | cons x a ih =>
    intro b ha hb h e
    cases b with
    | nil => simp at h
    | cons y b =>
      have hx := ha x List.mem_cons_self
      have hy := hb y List.mem_cons_self
      simp only [leVal] at e
      have e1 : x = y := by omega
      have e2 := ih (fun z hz => ha z (List.mem_cons_of_mem _ hz)) (fun z hz => hb z (List.mem_cons_of_mem _ hz)) (by simpa using h) (by omega)
      rw [e1, e2]
theorem bytes_set {l : List Int} (hl : Bytes l) {y : Int} (hy : 0 ≤ y ∧ y < 256) (i : Nat) : Bytes (l.set i y) := by
  intro x hx
  rcases List.mem_or_eq_of_mem_set hx with h | h
  · exact hl x h
  · rw [h]; exact hy
theorem rd_append_left {a b : List Int} {i : Nat} (h : i < a.length) : rd (a ++ b) (i : Int) = rd a (i : Int) := by
  simp only [rd, Int.toNat_natCast, List.getD_eq_getElem?_getD]; rw [List.getElem?_append_left h]
theorem rd_append_right {a b : List Int} {i : Nat} (h : a.length ≤ i) : rd (a ++ b) (i : Int) = rd b ((i - a.length : Nat) : Int) := by
  simp only [rd, Int.toNat_natCast, List.getD_eq_getElem?_getD]; rw [List.getElem?_append_right h]
theorem set_ne {l : List Int} {i : Nat} (h : i < l.length) {y : Int} (hy : y ≠ rd l (i : Int)) : l.set i y ≠ l := by
  rw [rd_get h] at hy
  intro e
  have h2 : i < (l.set i y).length := by simpa using h
  have : (l.set i y)[i] = l[i] := by simp only [e]
  rw [List.getElem_set_self] at this
  exact hy this
theorem crc_set {l : List Int} (hl : Bytes l) {i : Nat} (h : i < l.length) {y : Int} (hy : 0 ≤ y ∧ y < 256) (hn : y ≠ rd l (i : Int)) : crc (l.set i y) ≠ crc l := by
  rw [rd_get h] at hn
  intro e
  unfold crc at e
  have e := congrArg (BitVec.allOnes 32 ^^^ ·) e
  simp only [← BitVec.xor_assoc, BitVec.xor_self, BitVec.zero_xor] at e
  have e1 : l.set i y = l.take i ++ y :: l.drop (i + 1) := by rw [List.set_eq_take_append_cons_drop, if_pos h]
  have e2 : l = l.take i ++ l[i] :: l.drop (i + 1) := by
    rw [← List.drop_eq_getElem_cons h, List.take_append_drop]
  rw [e1] at e
  conv at e => rhs; rw [e2]
  rw [crcF_append, crcF_append] at e
  simp only [crcF] at e
  have e := steps_inj (crcF_inj e)
  have e := congrArg (crcF (BitVec.allOnes 32) (l.take i) ^^^ ·) e
  simp only [← BitVec.xor_assoc, BitVec.xor_self, BitVec.zero_xor] at e
  have hb := hl _ (List.getElem_mem h)
  have e := congrArg BitVec.toNat e
  obtain ⟨p, rfl⟩ := Int.eq_ofNat_of_zero_le hy.1
  obtain ⟨q, hq⟩ := Int.eq_ofNat_of_zero_le hb.1
  rw [hq, BitVec.ofInt_natCast, BitVec.ofInt_natCast, BitVec.toNat_ofNat, BitVec.toNat_ofNat] at e
  omega
theorem xor8_byte (x y : Int) : 0 ≤ Go.bits .xor .u8 x y ∧ Go.bits .xor .u8 x y < 256 := by
  rw [bits_xor8]
  have := (BitVec.ofInt 8 x ^^^ BitVec.ofInt 8 y).isLt
  omega
theorem xor8_ne {x y : Int} (hx : 0 ≤ x ∧ x < 256) (hy : 0 ≤ y ∧ y < 256) (h0 : y ≠ 0) : Go.bits .xor .u8 x y ≠ x := by
  intro e
  rw [bits_xor8] at e
  obtain ⟨a, rfl⟩ := Int.eq_ofNat_of_zero_le hx.1
  obtain ⟨b, rfl⟩ := Int.eq_ofNat_of_zero_le hy.1
  have e : (BitVec.ofInt 8 (a : Int) ^^^ BitVec.ofInt 8 (b : Int)).toNat = a := by omega
  simp only [BitVec.ofInt_natCast] at e
  have e2 : BitVec.ofNat 8 a ^^^ BitVec.ofNat 8 b = BitVec.ofNat 8 a := by
    apply BitVec.eq_of_toNat_eq
    rw [e, BitVec.toNat_ofNat, Nat.mod_eq_of_lt (by omega)]
  have e3 := congrArg (BitVec.ofNat 8 a ^^^ ·) e2
  simp only [← BitVec.xor_assoc, BitVec.xor_self, BitVec.zero_xor] at e3
  have e4 := congrArg BitVec.toNat e3
  rw [BitVec.toNat_ofNat, Nat.mod_eq_of_lt (by omega)] at e4
  simp at e4
  omega
theorem told_sum {l : List Int} (hn : l.length ≤ 3000) {i : Nat} (hi : i < 4) {y : Int} (hy : 0 ≤ y ∧ y < 256) (hne : y ≠ rd (frame l) (i : Int)) : unframe ((frame l).set i y) = ([], 0, 22) := by
  have hs := fixedL_length ((crc l).toNat : Int) 4
  have hb := fixedL_bytes ((crc l).toNat : Int) 4
  have e : (frame l).set i y = (fixedL ((crc l).toNat : Int) 4).set i y ++ putS l.length ++ l ++ [] := by
    unfold frame
    rw [List.append_nil, List.append_assoc, List.append_assoc, List.set_append_left _ _ (by omega)]
  have hg : rd (frame l) (i : Int) = rd (fixedL ((crc l).toNat : Int) 4) (i : Int) := by
    unfold frame
    rw [List.append_assoc, rd_append_left (by omega)]
  rw [e, unframe_parts _ l [] (by simpa using hs) hn, if_neg]
  intro h
  have hv : leVal (fixedL ((crc l).toNat : Int) 4) = ((crc l).toNat : Int) := by
    rw [leVal_fixedL (Int.natCast_nonneg _)]
    have := (crc l).isLt
    have e : (256 : Nat) ^ 4 = 4294967296 := by decide
    rw [e]; omega
  have := leVal_inj (bytes_set hb hy i) hb (by simp) (h.trans hv.symm)
  exact set_ne (by omega) (by rw [← hg]; exact hne) this
theorem told_body {l : List Int} (hl : Bytes l) (hn : l.length ≤ 3000) {i : Nat} (hi : (frame l).length - l.length ≤ i) (hi2 : i < (frame l).length) {y : Int} (hy : 0 ≤ y ∧ y < 256) (hne : y ≠ rd (frame l) (i : Int)) :
    unframe ((frame l).set i y) = ([], 0, 22) := by
  have hs := fixedL_length ((crc l).toNat : Int) 4
  have hf := frame_length (l := l)
  have ho : (fixedL ((crc l).toNat : Int) 4 ++ putS l.length).length = 4 + (putS l.length).length := by simp [hs]
  have e : (frame l).set i y = fixedL ((crc l).toNat : Int) 4 ++ putS (l.set (i - (4 + (putS l.length).length)) y).length ++ l.set (i - (4 + (putS l.length).length)) y ++ [] := by
    unfold frame
    rw [List.append_nil, List.set_append_right _ _ (by omega), ho, List.length_set]
  have hg : rd (frame l) (i : Int) = rd l ((i - (4 + (putS l.length).length) : Nat) : Int) := by
    unfold frame
    rw [rd_append_right (by omega), ho]
  rw [e, unframe_parts _ _ [] hs (by simpa using hn), if_neg]
  intro h
  have hv : leVal (fixedL ((crc l).toNat : Int) 4) = ((crc l).toNat : Int) := by
    rw [leVal_fixedL (Int.natCast_nonneg _)]
    have := (crc l).isLt
    have e : (256 : Nat) ^ 4 = 4294967296 := by decide
    rw [e]; omega
  rw [hv] at h
  exact crc_set hl (by omega) hy (by rw [← hg]; exact hne) (BitVec.eq_of_toNat_eq (Int.ofNat.inj h.symm))
theorem frames_j1 {l : List Int} (hl : Bytes l) (hn : l.length ≤ 3000) (x2 x3 : Int) (h3 : 0 ≤ x3 ∧ x3 < 256) : Conv (fun k => morainelaw2_CodecFrames.j1 k l x2 x3 (frame l) false) true := by
  have hf := frame_length (l := l)
  have hfb := frame_bytes hl
  have hp := putS_length64 (n := l.length) (by omega)
  refine Conv.succ ?_
  simp only [morainelaw2_CodecFrames.j1]
  rw [wrap64_id (by omega) (by omega)]
  refine Conv.iteF (by decide) (Conv.ite (fun _ => Conv.pure _) fun c0 => Conv.ite (fun _ => Conv.pure _) fun c1 => ?_)
  have hb := rd_bytes hfb x2
  have hx : x2 = ((x2.toNat : Nat) : Int) := by omega
  have hub : Bytes ((frame l).set x2.toNat (Go.bits .xor .u8 (rd (frame l) x2) x3)) := bytes_set hfb (xor8_byte _ _) _
  have hun : ((frame l).set x2.toNat (Go.bits .xor .u8 (rd (frame l) x2) x3)).length < 140737488355328 := by rw [List.length_set]; omega
  refine Conv.ite (fun c2 => Conv.ite (fun _ => Conv.pure _) fun c3 => Conv.ite (fun _ => Conv.pure _) fun c4 => Conv.iteT (by omega) (Conv.iteT (by omega) ?_)) fun c2 => Conv.ite (fun _ => Conv.pure _) fun c4 => Conv.iteT (by omega) (Conv.iteT (by omega) ?_)
  · have hu := told_body hl hn (i := x2.toNat) (by omega) (by omega) (xor8_byte (rd (frame l) x2) x3) (by rw [← hx]; exact xor8_ne hb h3 c4)
    refine Conv.bind (unframe_conv hub hun) ?_
    rw [hu]
    exact Conv.iteT rfl (Conv.iteT rfl (Conv.const (by decide)))
  · have hu := told_sum hn (i := x2.toNat) (by omega) (xor8_byte (rd (frame l) x2) x3) (by rw [← hx]; exact xor8_ne hb h3 c4)
    refine Conv.bind (unframe_conv hub hun) ?_
    rw [hu]
    exact Conv.iteT rfl (Conv.iteT rfl (Conv.const (by decide)))
theorem CodecFrames : morainelaw2_CodecFrames.Pure := by
  intro l0 l1 a2 a3 _ s0 w0 _ s1 w1 w2 w3
  have h0 := bytes_of_wf w0
  have h1 := bytes_of_wf w1
  refine Conv.ex ?_
  simp only [morainelaw2_CodecFrames.f, morainelaw2_known.f]
  refine Conv.bindc rfl (Conv.iteT rfl (Conv.ite (fun _ => Conv.pure _) fun c => ?_))
  have hn : l0.length ≤ 3000 := by omega
  have hf := frame_length (l := l0)
  have hp := putS_length64 (n := l0.length) (by omega)
  have hfb := frame_bytes h0
  refine Conv.bind (frame_conv h0 hn) (Conv.bind (rframe_conv h0 hn) (Conv.iteT rfl (Conv.bindc (fr_bytes_eq hfb hfb) (Conv.iteT (beq_self_eq_true _) ?_))))
  refine Conv.bind (sum_conv h0 (by omega)) (Conv.bind (rsum_conv h0 (by omega)) ?_)
  rw [bne_self_eq_false]
  refine Conv.succ ?_
  simp only [morainelaw2_CodecFrames.j0]
  refine Conv.iteF (by decide) (Conv.iteT (by simp; omega) (Conv.bindc rfl (Conv.iteT (by simp; omega) ?_)))
  rw [List.nil_append]
  refine Conv.bind (unframe_conv (hfb.append h1) (by simp; omega)) ?_
  rw [unframe_frame l0 l1 hn]
  refine Conv.iteT rfl (Conv.iteT rfl (Conv.bindc (fr_bytes_eq h0 h0) ?_))
  rw [beq_self_eq_true]
  exact frames_j1 h0 hn a2 a3 (wf_u8 w3)

end Go.Proofs.Yteogjahkccmfaaa.Pure
