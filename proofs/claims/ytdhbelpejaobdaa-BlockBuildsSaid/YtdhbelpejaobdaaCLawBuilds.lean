/- The law of blocks that are built: true of all data. -/
import Derived.Test.YtdhbelpejaobdaaCTab7
namespace Go.Proofs.Ytdhbelpejaobdaa.Ev
open Go Go.RowKit
set_option linter.unusedVariables false
set_option linter.unusedSimpArgs false
set_option maxRecDepth 100000
set_option maxHeartbeats 8000000
abbrev buildsC : Ctx := ⟨rows, (fun  | _ => ([], []))⟩
def buildsSp : Sp := ⟨[kvl, i64], fun _ => true, fun _ => .d .bo true⟩
theorem fair_of {l : List KV} (h : few7 l) : Fair l := ⟨by have := h.1; omega, by have := h.2; omega⟩
theorem builds_ok (T : Tab) (h1 : T 11 = knownSp.ent) (h2 : T 12 = fewSp.ent) (h3 : T 13 = copySp.ent) (h4 : T 14 = buildSp.ent) (h5 : T 15 = buildSp.ent)
    (h6 : T 16 = hbytesSp.ent) (h7 : T 17 = kvsSp.ent) : buildsSp.Ok T buildsC F3 := by
  rw [on_top h1, on_top h2, on_top h3, on_top h4, on_top h5, on_top h6, on_top h7]
  rintro ⟨(l : List KV), (r : Int), _⟩ hf _
  obtain ⟨F, hF⟩ : ∃ F : Nat, F = 1 := ⟨_, rfl⟩
  refine ⟨F, 0, ?_⟩
  show evFn _ _ _ _ _ [vK l, vI r] [] _ = some (.d .bo true : V)
  conv => lhs; whnf
  try simp (disch := omega) only [nI64, nU64, nU32, nU8, nSubL, nAddL, nAdd, nSub, nDiv, nMod, nZ, nLit, row_3, row_5, row_16, row_26, row_42, row_58, Ty.den, dflt_it, dflt_li, dflt_kv, Int.toNat_natCast, List.take_length, List.drop_zero]
  by_cases hw : few7 l
  · have hl := hw.1
    have hfa := fair_of hw
    refine br_no (nt_f hw) ?_
    conv => lhs; whnf
    try simp (disch := omega) only [nI64, nU64, nU32, nU8, nSubL, nAddL, nAdd, nSub, nDiv, nMod, nZ, nLit, row_3, row_5, row_16, row_26, row_42, row_58, Ty.den, dflt_it, dflt_li, dflt_kv, Int.toNat_natCast, List.take_length, List.drop_zero]
    repeat (refine br_go ?_ ?_; (focus (((repeat' first | exact rfl | exact ordB_st rfl | exact ordB_of rfl | apply band | apply tst_t | apply nt_t)  <;> (try dsimp only [Ty.den, dflt_kv]) <;> (try simp only [List.length_append, List.length_cons, List.length_nil, List.length_take, List.length_drop, List.length_replicate]) <;> (first | trivial | assumption | omega | (change (_ : Int) ≤ _; omega) | (change (_ : Int) < _; omega) | (change (_ : Nat) * 1 ≤ _; omega) | (change (_ : Nat) * 48 ≤ _; omega) | (change (_ : Nat) * 24 ≤ _; omega) | (change (_ : Nat) * 8 ≤ _; omega) | (change (_ : Nat) * 64 ≤ _; omega) | decide)); done)); (conv => lhs; whnf); (try simp (disch := omega) only [nI64, nU64, nU32, nU8, nSubL, nAddL, nAdd, nSub, nDiv, nMod, nZ, nLit, row_3, row_5, row_16, row_26, row_42, row_58, Ty.den, dflt_it, dflt_li, dflt_kv, Int.toNat_natCast, List.take_length, List.drop_zero]))
    exact bo_eq (tst_t trivial)
  · refine br_go (nt_t hw) ?_
    conv => lhs; whnf
    try simp (disch := omega) only [nI64, nU64, nU32, nU8, nSubL, nAddL, nAdd, nSub, nDiv, nMod, nZ, nLit, row_3, row_5, row_16, row_26, row_42, row_58, Ty.den, dflt_it, dflt_li, dflt_kv, Int.toNat_natCast, List.take_length, List.drop_zero]
end Go.Proofs.Ytdhbelpejaobdaa.Ev
