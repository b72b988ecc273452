/- CodecKeys' pure statement: every user key, number and kind make the document's internal key and come back from it; every bytes are split as the document says. -/
import Derived.Test.YteogjahkccmfaaaPx18
import Derived.Test.YteogjahkccmfaaaKeys
namespace Go.Proofs.Yteogjahkccmfaaa.Pure
open Go Go.RowKit Go.Proofs.Yteogjahkccmfaaa.P Go.Proofs.YteogjahkccmfaaaW.PrintWords Go.Proofs.YteogjahkccmfaaaW.PrintLast Go.Proofs.Yteogjahkccmfaaa.Base

theorem bytes_eq {a b : List Int} (ha : Bytes a) (hb : Bytes b) : morainehelp_Bytes.f a b = some (a == b) := by
  unfold morainehelp_Bytes.f; rw [strOfNums_beq ha hb]
theorem keys_tail {l : List Int} (hl : Bytes l) (hlen : l.length < 140737488355328) : Conv (fun k => (codec_Split.f k l).bind fun bt185 => ((moraineref2_Split.f k l).bind fun bt191 => (if bt185.2.2.2 = bt191.2.2.2 then ((morainehelp_Bytes.f bt185.1 bt191.1).bind fun t197 => (if t197 = true then (if bt185.2.1 = bt191.2.1 then (some (bt185.2.2.1 == bt191.2.2.1)) else (some false)) else (some false))) else (some false)))) true := by
  refine Conv.bind (split_conv hl hlen) (Conv.bind (rsplit_conv hl hlen) ?_)
  refine Conv.iteT rfl (Conv.bindc (bytes_eq (split_bytes hl) (split_bytes hl)) ?_)
  exact Conv.iteT (beq_self_eq_true _) (Conv.iteT rfl (Conv.const (by rw [beq_self_eq_true])))
theorem keys_j1 {l : List Int} (hl : Bytes l) (hlen : l.length < 140737488355328) : Conv (fun k => morainelaw2_CodecKeys.j1 k l false) true := by
  refine Conv.succ ?_
  simp only [morainelaw2_CodecKeys.j1]
  exact Conv.iteF (by decide) (keys_tail hl hlen)
theorem CodecKeys : morainelaw2_CodecKeys.Pure := by
  intro l0 a1 a2 l3 _ s0 w0 w1 w2 _ s3 w3
  have h0 := bytes_of_wf w0
  have h3 := bytes_of_wf w3
  have ha := wf_u64 w1
  refine Conv.ex ?_
  simp only [morainelaw2_CodecKeys.f, morainelaw2_known.f]
  refine Conv.bindc rfl (Conv.iteT rfl ?_)
  refine Conv.bind (key_conv ha.1) (Conv.bind (rkey_conv ha.1) (Conv.iteT rfl ?_))
  refine Conv.bindc (bytes_eq (key_bytes h0 _ _) (key_bytes h0 _ _)) ?_
  rw [beq_self_eq_true]
  refine Conv.succ ?_
  simp only [morainelaw2_CodecKeys.j0]
  refine Conv.iteF (by decide) ?_
  by_cases h : Right l0 a1 a2
  · have ek : key l0 a1 a2 = (l0 ++ fixedL (a1 * 256 + a2) 8, 0) := by unfold key; rw [if_pos h]
    have hk := key_bytes h0 a1 a2
    have hn := key_length (l := l0) a1 a2
    rw [ek] at hk hn ⊢
    refine Conv.iteT rfl ?_
    refine Conv.bind (split_conv hk (by omega)) ?_
    simp only [split_key ha.1 h]
    refine Conv.iteT (by trivial) (Conv.bindc (bytes_eq h0 h0) (Conv.iteT (beq_self_eq_true _) (Conv.iteT (by trivial) ?_)))
    rw [bne_self_eq_false]
    exact keys_j1 h3 (by omega)
  · have ek : key l0 a1 a2 = ([], 23) := by unfold key; rw [if_neg h]
    rw [ek]
    exact Conv.iteF (by decide) (keys_tail h3 (by omega))

end Go.Proofs.Yteogjahkccmfaaa.Pure
