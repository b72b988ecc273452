/- CodecOrders' pure statement: every two keys stand as the document says; order goes both ways, and on from one to another. -/
import Derived.Test.YteogjahkccmfaaaPx46
import Derived.Test.YteogjahkccmfaaaOrder
namespace Go.Proofs.Yteogjahkccmfaaa.Pure
set_option linter.unusedVariables false
set_option linter.unusedSimpArgs false
open Go Go.RowKit Go.Proofs.Yteogjahkccmfaaa.P Go.Proofs.YteogjahkccmfaaaW.PrintWords Go.Proofs.YteogjahkccmfaaaW.PrintLast Go.Proofs.Yteogjahkccmfaaa.Base

theorem CodecOrders : morainelaw2_CodecOrders.Pure := by
  intro l0 l1 l2 _ s0 w0 _ s1 w1 _ s2 w2
  have h0 := bytes_of_wf w0
  have h1 := bytes_of_wf w1
  have h2 := bytes_of_wf w2
  refine Conv.ex ?_
  simp only [morainelaw2_CodecOrders.f, morainelaw2_known.f]
  refine Conv.bindc rfl (Conv.iteT rfl ?_)
  refine Conv.bind (compare_conv h0 h1 (by omega) (by omega)) (Conv.bind (rcompare_conv h0 h1 (by omega) (by omega)) (Conv.iteT rfl ?_))
  rw [bne_self_eq_false]
  refine Conv.succ ?_
  simp only [morainelaw2_CodecOrders.j0]
  refine Conv.iteF (by decide) ?_
  refine Conv.bind (compare_conv h1 h0 (by omega) (by omega)) ?_
  have hneg : (compareK l1 l0).1 = - (compareK l0 l1).1 := by
    unfold compareK
    by_cases h : (split l0).2.2.2 = 0 ∧ (split l1).2.2.2 = 0
    · rw [if_pos h, if_pos h.symm]; exact order_neg l0 l1
    · rw [if_neg h, if_neg (fun e => h e.symm)]; rfl
  have hcas : (compareK l0 l1).1 = -1 ∨ (compareK l0 l1).1 = 0 ∨ (compareK l0 l1).1 = 1 := by
    unfold compareK
    split
    · exact order_cases l0 l1
    · simp
  rw [wrap64_id (by omega) (by omega)]
  refine Conv.iteT hneg ?_
  refine Conv.bind (compare_conv h1 h2 (by omega) (by omega)) (Conv.bind (compare_conv h0 h2 (by omega) (by omega)) ?_)
  refine Conv.ite (fun e1 => Conv.ite (fun e2 => Conv.ite (fun e3 => ?_) fun _ => Conv.pure _) fun _ => Conv.pure _) fun _ => Conv.pure _
  have ok : ∀ {a b : List Int}, (compareK a b).2 = 0 → (split a).2.2.2 = 0 ∧ (split b).2.2.2 = 0 ∧ (compareK a b).1 = order a b := by
    intro a b h
    unfold compareK at *
    split at h
    · rename_i hh
      rw [if_pos hh]
      exact ⟨hh.1, hh.2, rfl⟩
    · simp at h
  obtain ⟨a1, a2, a3⟩ := ok e1
  obtain ⟨b1, b2, b3⟩ := ok e2
  obtain ⟨c1, c2, c3⟩ := ok e3
  rw [a3, b3, c3]
  have same : ∀ c : order l0 l1 = 0, morainehelp_Bytes.f l0 l1 = some true := by
    intro c
    have := order_zero h0 h1 a1 a2 c
    subst this
    unfold morainehelp_Bytes.f
    rw [beq_self_eq_true]
  have inner : Conv (fun k => if order l0 l1 = 0 then (morainehelp_Bytes.f l0 l1).bind fun t459 => some t459 else some true) true :=
    Conv.ite (fun c => Conv.bindc (same c) (Conv.pure _)) fun _ => Conv.pure _
  refine Conv.ite (fun _ => inner) fun d1 => Conv.ite (fun _ => inner) fun d2 => Conv.iteT ?_ inner
  exact order_trans (b := l1) (by omega) (by omega)

end Go.Proofs.Yteogjahkccmfaaa.Pure
