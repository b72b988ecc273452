/- CodecUnframes' pure statement: every bytes are unframed as the document says, or the first fault is told. -/
import Derived.Test.YteogjahkccmfaaaPx29
import Derived.Test.YteogjahkccmfaaaUnframe
namespace Go.Proofs.Yteogjahkccmfaaa.Pure
open Go Go.RowKit Go.Proofs.Yteogjahkccmfaaa.P Go.Proofs.YteogjahkccmfaaaW.PrintWords Go.Proofs.YteogjahkccmfaaaW.PrintLast Go.Proofs.Yteogjahkccmfaaa.Base

theorem unf_bytes_eq {a b : List Int} (ha : Bytes a) (hb : Bytes b) : morainehelp_Bytes.f a b = some (a == b) := by
  unfold morainehelp_Bytes.f; rw [strOfNums_beq ha hb]
theorem CodecUnframes : morainelaw2_CodecUnframes.Pure := by
  intro l _ s w
  have hl := bytes_of_wf w
  refine Conv.ex ?_
  simp only [morainelaw2_CodecUnframes.f, morainelaw2_known.f]
  refine Conv.bindc rfl (Conv.iteT rfl ?_)
  refine Conv.bind (unframe_conv hl (by omega)) (Conv.bind (runframe_conv hl (by omega)) (Conv.bindc (unf_bytes_eq (unframe_bytes hl) (unframe_bytes hl)) ?_))
  exact Conv.iteT (beq_self_eq_true _) (Conv.iteT rfl (Conv.const (by rw [beq_self_eq_true])))

end Go.Proofs.Yteogjahkccmfaaa.Pure
