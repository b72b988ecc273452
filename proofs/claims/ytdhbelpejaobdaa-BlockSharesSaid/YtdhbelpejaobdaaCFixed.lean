/- Numbers of fixed width. -/
import Derived.Test.YtdhbelpejaobdaaCSpec2
import Derived.Test.YtdhbelpejaobdaaEvPut
import Derived.Test.YtdhbelpejaobdaaEvUnfixed
namespace Go.Proofs.Ytdhbelpejaobdaa.Ev
open Go Go.RowKit
set_option linter.unusedVariables false
set_option maxRecDepth 100000
set_option maxHeartbeats 8000000
theorem put_ok (T : Tab) : putSp.Ok T putC F55 := by
  rintro ⟨(n : Int), _⟩ hf _
  have := fits_u64.1 hf.1
  exact ⟨Int.toNat n + 1, 0, put_ev T n (Int.toNat n + 1) ⟨this.1, by omega⟩ (by omega)⟩
theorem fixed_ok (T : Tab) : fixedSp.Ok T fixedC F68 := by
  rintro ⟨(n : Int), (m : Int), _⟩ hf hp
  have hp : (0 : Int) ≤ m ∧ (m : Int) ≤ 8 := by simpa only [fixedSp, Bool.and_eq_true, tst_iff] using hp
  have := fixed_ev T n (Int.toNat m) (Int.toNat m + 1) (Int.toNat_le.2 hp.2) (Nat.lt_succ_self _)
  rw [Int.toNat_of_nonneg hp.1] at this
  exact ⟨_, 0, this⟩
abbrev fixed4C : Ctx := ⟨rows, (fun  | _ => ([], []))⟩
theorem fixed4_ok (T : Tab) (h1 : T 68 = fixedSp.ent) : fixed4Sp.Ok T fixed4C F53 := by
  rw [on_top h1]
  rintro ⟨(n : Int), _⟩ hf _
  have := fits_u32.1 hf.1
  refine ⟨1, 0, ?_⟩
  conv => lhs; whnf
  try simp (disch := omega) only [nI64, nU64, nU32, nU8, nSubL, nAddL, nAdd, nSub, nDiv, nMod, nZ, nLit, row_3, row_5, row_16, row_26, row_42, row_58, Ty.den, dflt_it, dflt_li, dflt_kv, Int.toNat_natCast, List.take_length, List.drop_zero]
  refine br_go ?_ ?_
  focus (((repeat' first | exact rfl | exact ordB_st rfl | exact ordB_of rfl | apply band | apply tst_t | apply nt_t)  <;> (try dsimp only [Ty.den, dflt_kv]) <;> (try simp only [List.length_append, List.length_cons, List.length_nil, List.length_take, List.length_drop, List.length_replicate]) <;> (first | trivial | assumption | omega | (change (_ : Int) ≤ _; omega) | (change (_ : Int) < _; omega) | (change (_ : Nat) * 1 ≤ _; omega) | (change (_ : Nat) * 48 ≤ _; omega) | (change (_ : Nat) * 24 ≤ _; omega) | (change (_ : Nat) * 8 ≤ _; omega) | (change (_ : Nat) * 64 ≤ _; omega) | decide)); done)
  conv => lhs; whnf
  try simp (disch := omega) only [nI64, nU64, nU32, nU8, nSubL, nAddL, nAdd, nSub, nDiv, nMod, nZ, nLit, row_3, row_5, row_16, row_26, row_42, row_58, Ty.den, dflt_it, dflt_li, dflt_kv, Int.toNat_natCast, List.take_length, List.drop_zero]
  refine br_go ?_ ?_
  focus (((repeat' first | exact rfl | exact ordB_st rfl | exact ordB_of rfl | apply band | apply tst_t | apply nt_t)  <;> (try dsimp only [Ty.den, dflt_kv]) <;> (try simp only [List.length_append, List.length_cons, List.length_nil, List.length_take, List.length_drop, List.length_replicate]) <;> (first | trivial | assumption | omega | (change (_ : Int) ≤ _; omega) | (change (_ : Int) < _; omega) | (change (_ : Nat) * 1 ≤ _; omega) | (change (_ : Nat) * 48 ≤ _; omega) | (change (_ : Nat) * 24 ≤ _; omega) | (change (_ : Nat) * 8 ≤ _; omega) | (change (_ : Nat) * 64 ≤ _; omega) | decide)); done)
  conv => lhs; whnf
  try simp (disch := omega) only [nI64, nU64, nU32, nU8, nSubL, nAddL, nAdd, nSub, nDiv, nMod, nZ, nLit, row_3, row_5, row_16, row_26, row_42, row_58, Ty.den, dflt_it, dflt_li, dflt_kv, Int.toNat_natCast, List.take_length, List.drop_zero]
  rfl
end Go.Proofs.Ytdhbelpejaobdaa.Ev
