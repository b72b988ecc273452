/- CodecNewest's pure statement: of one user key the entry of the greater moment stands ahead; of unlike ones the lesser key, whatever their moments. -/
import Derived.Test.YteogjahkccmfaaaPx47
import Derived.Test.YteogjahkccmfaaaOrder
namespace Go.Proofs.Yteogjahkccmfaaa.Pure
set_option linter.unusedVariables false
set_option linter.unusedSimpArgs false
open Go Go.RowKit Go.Proofs.Yteogjahkccmfaaa.P Go.Proofs.YteogjahkccmfaaaW.PrintWords Go.Proofs.YteogjahkccmfaaaW.PrintLast Go.Proofs.Yteogjahkccmfaaa.Base

theorem less_iff {a b : List Int} (ha : Bytes a) (hb : Bytes b) : Op.bytesLess (strOfNums a).toList (strOfNums b).toList = true ↔ cmpB a b = -1 := by
  rw [Go.ByteArray.toList_eq, Go.ByteArray.toList_eq, data_eq, data_eq]
  induction a generalizing b with
  | nil => cases b <;> simp [cmpB, Op.bytesLess]
  | cons x a ih =>
    cases b with
    | nil => simp [cmpB, Op.bytesLess]
    | cons y b =>
      have hx := ha x List.mem_cons_self
      have hy := hb y List.mem_cons_self
      simp only [List.map_cons, Op.bytesLess, cmpB, Bool.or_eq_true, Bool.and_eq_true, decide_eq_true_eq, beq_iff_eq, u8_lt hx hy, u8_eq hx hy]
      rw [ih (fun z hz => ha z (List.mem_cons_of_mem _ hz)) (fun z hz => hb z (List.mem_cons_of_mem _ hz))]
      by_cases e : x = y
      · rw [if_pos e]; simp [e]
      · rw [if_neg e]
        by_cases e2 : x < y
        · rw [if_pos e2]; simp [e2]
        · rw [if_neg e2]; simp [e, e2]
theorem newest_j1 {l0 l1 : List Int} (h0 : Bytes l0) (h1 : Bytes l1) (n0 : l0.length ≤ 128) (n1 : l1.length ≤ 128) {a b c : Int} (ha : 0 ≤ a ∧ a ≤ 72057594037927935) (hb : 0 ≤ b ∧ b ≤ 72057594037927935) (hc : c = 0 ∨ c = 1) :
    Conv (fun k => morainelaw2_CodecNewest.j1 k l0 l1 a b c) true := by
  refine Conv.succ ?_
  simp only [morainelaw2_CodecNewest.j1]
  have r0 : Right l0 a c := ⟨by omega, ha.2, hc⟩
  have r1 : Right l1 b c := ⟨by omega, hb.2, hc⟩
  have k0 : key l0 a c = (l0 ++ fixedL (a * 256 + c) 8, 0) := by unfold key; rw [if_pos r0]
  have k1 : key l1 b c = (l1 ++ fixedL (b * 256 + c) 8, 0) := by unfold key; rw [if_pos r1]
  have c0 := key_conv (l := l0) (b := c) ha.1
  have c1 := key_conv (l := l1) (b := c) hb.1
  rw [k0] at c0
  rw [k1] at c1
  have b0 := h0.append (fixedL_bytes (a * 256 + c) 8)
  have b1 := h1.append (fixedL_bytes (b * 256 + c) 8)
  refine Conv.bind c0 (Conv.bind c1 (Conv.bind (compare_conv b0 b1 (by simp [fixedL_length]; omega) (by simp [fixedL_length]; omega)) ?_))
  have s0 := split_key ha.1 r0
  have s1 := split_key hb.1 r1
  have ec : compareK (l0 ++ fixedL (a * 256 + c) 8) (l1 ++ fixedL (b * 256 + c) 8) = (if cmpB l0 l1 ≠ 0 then cmpB l0 l1 else if a > b then -1 else if a < b then 1 else 0, 0) := by
    unfold compareK order
    rw [s0, s1]
    simp only [and_self, if_true, Int.lt_irrefl, gt_iff_lt, and_false, or_false]
  rw [ec]
  refine Conv.iteT (by trivial) (Conv.iteT (by trivial) ?_)
  refine Conv.succ ?_
  simp only [morainelaw2_CodecNewest.j2]
  refine Conv.iteF (by decide) ?_
  have hcas := cmpB_cases l0 l1
  refine Conv.ite (fun d => ?_) fun d => Conv.ite (fun d2 => ?_) fun d2 => ?_
  · rw [less_iff h0 h1] at d
    rw [if_pos (by omega), d]
    exact Conv.const (by decide)
  · have e := strOfNums_inj h0 h1 d2
    subst e
    rw [cmpB_refl, if_neg (c := (0 : Int) ≠ 0) (by decide)]
    refine Conv.ite (fun d3 => ?_) fun d3 => Conv.ite (fun d4 => ?_) fun d4 => ?_
    · rw [if_pos (c := a > b) d3]; exact Conv.const (by decide)
    · rw [if_neg (c := a > b) d3, if_pos (c := a < b) d4]; exact Conv.const (by decide)
    · rw [if_neg (c := a > b) d3, if_neg (c := a < b) d4]; exact Conv.const (by decide)
  · rw [less_iff h0 h1] at d
    have : cmpB l0 l1 ≠ 0 := fun e => d2 (by rw [cmpB_zero e])
    rw [if_pos this]
    have : cmpB l0 l1 = 1 := by omega
    rw [this]
    exact Conv.const (by decide)
theorem CodecNewest : morainelaw2_CodecNewest.Pure := by
  intro l0 l1 a b c _ s0 w0 _ s1 w1 wa wb
  have h0 := bytes_of_wf w0
  have h1 := bytes_of_wf w1
  have ha := wf_u64 wa
  have hb := wf_u64 wb
  refine Conv.ex ?_
  simp only [morainelaw2_CodecNewest.f, morainelaw2_known.f]
  refine Conv.bindc rfl (Conv.iteT rfl ?_)
  have out : Conv (fun k => morainelaw2_CodecNewest.j0 k l0 l1 a b c true) true := by
    refine Conv.succ ?_
    simp only [morainelaw2_CodecNewest.j0]
    exact Conv.iteT (by trivial) (Conv.pure _)
  refine Conv.ite (fun _ => out) fun c1 => Conv.ite (fun _ => out) fun c2 => Conv.ite (fun _ => out) fun c3 => ?_
  by_cases c4 : b > 72057594037927935
  · rw [decide_eq_true c4]; exact out
  · rw [decide_eq_false c4]
    refine Conv.succ ?_
    simp only [morainelaw2_CodecNewest.j0]
    refine Conv.iteF (by decide) (Conv.ite (fun _ => ?_) fun _ => ?_)
    · exact newest_j1 h0 h1 (by omega) (by omega) (by omega) (by omega) (.inr rfl)
    · exact newest_j1 h0 h1 (by omega) (by omega) (by omega) (by omega) (.inl rfl)

end Go.Proofs.Yteogjahkccmfaaa.Pure
