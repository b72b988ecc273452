/- RlpEncodes' pure statement: every item has the document's bytes, or its first fault. -/
import Derived.Test.YtbobnopnfjcajaaPx27
import Derived.Test.YtbobnopnfjcajaaRlpRef
import Derived.Test.YtbobnopnfjcajaaTree
namespace Go.Proofs.Ytbobnopnfjcajaa.Pure
set_option linter.unusedVariables false
set_option linter.unusedSimpArgs false
open Go Go.RowKit Go.Proofs.Ytbobnopnfjcajaa.P Go.Proofs.YtbobnopnfjcajaaW.PrintWords Go.Proofs.YtbobnopnfjcajaaW.PrintLast Go.Proofs.Ytbobnopnfjcajaa.Base

mutual
theorem len_of_ok : ∀ (x : S25), ok25 x → lenS x
  | ⟨b, s, l⟩, h => by
    rw [ok25] at h
    rw [lenS]
    exact ⟨by omega, by omega, lenL_of_ok l h.2.2.2⟩
theorem lenL_of_ok : ∀ (l : List S25), okL l → lenS.lenL l
  | [], _ => trivial
  | x :: l, h => ⟨len_of_ok x h.1, lenL_of_ok l h.2⟩
end
mutual
theorem encS_bytes : ∀ (x : S25) (h : ok25 x) (ht : totS x < 4611686018427387904), Bytes (encS x)
  | ⟨b, s, l⟩, h, ht => by
    rw [ok25] at h
    rw [totS] at ht
    have hl := encL_tot l (by omega)
    rw [encS]
    split
    · exact (headS_bytes (by omega) (by omega)).append (encL_bytes l h.2.2.2 (by omega))
    · split
      · exact bytes_of_wf h.2.1
      · exact (headS_bytes (by omega) (by omega)).append (bytes_of_wf h.2.1)
theorem encL_bytes : ∀ (l : List S25) (h : okL l) (ht : totL l < 4611686018427387904), Bytes (encL l)
  | [], _, _ => by rw [encL]; intro x hx; cases hx
  | x :: l, h, ht => by
    rw [totL] at ht
    rw [encL]
    exact (encS_bytes x h.1 (by omega)).append (encL_bytes l h.2 (by omega))
end
theorem encode_bytes (x : S25) (h : ok25 x) (ht : totS x < 4611686018427387904) : Bytes (encode x).1 := by
  unfold encode
  split
  · intro y hy; cases hy
  · split
    · intro y hy; cases hy
    · exact encS_bytes x h ht
theorem RlpEncodes (x : S25) (h : ok25 x) : ∃ k, morainelaw4_RlpEncodes.f k x.f0 x.f1 x.f2 = some true := by
  have hl := len_of_ok x h
  refine Conv.ex ?_
  simp only [morainelaw4_RlpEncodes.f, morainelaw4_known.f]
  refine Conv.bindc rfl (Conv.iteT rfl (Conv.bind (few_conv x hl) (Conv.ite (fun c => ?_) fun _ => Conv.pure _)))
  have hc := of_decide_eq_true c
  have ht := cntS_tot x 18 (by omega) hl hc
  have he := enc_tot x (by omega)
  refine Conv.bind (encode_conv x (by omega)) (Conv.bind (rencode_conv x (by omega) (by omega)) (Conv.iteT rfl ?_))
  have hb := encode_bytes x h (by omega)
  refine Conv.bindc (a := true) ?_ (Conv.pure _)
  unfold morainehelp_Bytes.f
  rw [beq_self_eq_true]

end Go.Proofs.Ytbobnopnfjcajaa.Pure
