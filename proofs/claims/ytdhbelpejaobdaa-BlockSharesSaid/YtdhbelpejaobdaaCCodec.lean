/- Keys and their parts, by the program. -/
import Derived.Test.YtdhbelpejaobdaaCFixed
namespace Go.Proofs.Ytdhbelpejaobdaa.Ev
open Go Go.RowKit
set_option linter.unusedVariables false
set_option linter.unusedSimpArgs false
set_option maxRecDepth 100000
set_option maxHeartbeats 8000000
abbrev fixed8C : Ctx := ⟨rows, (fun  | _ => ([], []))⟩
theorem fixed8_ok (T : Tab) (h1 : T 68 = fixedSp.ent) : fixed8Sp.Ok T fixed8C F52 := by
  rw [on_top h1]
  rintro ⟨(n : Int), _⟩ hf _
  refine ⟨1, 0, ?_⟩
  conv => lhs; whnf
  try simp (disch := omega) only [nI64, nU64, nU32, nU8, nSubL, nAddL, nAdd, nSub, nDiv, nMod, nZ, nLit, row_3, row_5, row_16, row_26, row_42, row_58, Ty.den, dflt_it, dflt_li, dflt_kv, Int.toNat_natCast, List.take_length, List.drop_zero]
  refine br_go ?_ ?_
  focus (((repeat' first | exact rfl | exact ordB_st rfl | exact ordB_of rfl | apply band | apply tst_t | apply nt_t)  <;> (try dsimp only [Ty.den, dflt_kv]) <;> (try simp only [List.length_append, List.length_cons, List.length_nil, List.length_take, List.length_drop, List.length_replicate]) <;> (first | trivial | assumption | omega | (change (_ : Int) ≤ _; omega) | (change (_ : Int) < _; omega) | (change (_ : Nat) * 1 ≤ _; omega) | (change (_ : Nat) * 48 ≤ _; omega) | (change (_ : Nat) * 24 ≤ _; omega) | (change (_ : Nat) * 8 ≤ _; omega) | (change (_ : Nat) * 64 ≤ _; omega) | decide)); done)
  conv => lhs; whnf
  try simp (disch := omega) only [nI64, nU64, nU32, nU8, nSubL, nAddL, nAdd, nSub, nDiv, nMod, nZ, nLit, row_3, row_5, row_16, row_26, row_42, row_58, Ty.den, dflt_it, dflt_li, dflt_kv, Int.toNat_natCast, List.take_length, List.drop_zero]
  refine br_go ?_ ?_
  focus (((repeat' first | exact rfl | exact ordB_st rfl | exact ordB_of rfl | apply band | apply tst_t | apply nt_t)  <;> (try dsimp only [Ty.den, dflt_kv]) <;> (try simp only [List.length_append, List.length_cons, List.length_nil, List.length_take, List.length_drop, List.length_replicate]) <;> (first | trivial | assumption | omega | (change (_ : Int) ≤ _; omega) | (change (_ : Int) < _; omega) | (change (_ : Nat) * 1 ≤ _; omega) | (change (_ : Nat) * 48 ≤ _; omega) | (change (_ : Nat) * 24 ≤ _; omega) | (change (_ : Nat) * 8 ≤ _; omega) | (change (_ : Nat) * 64 ≤ _; omega) | decide)); done)
  conv => lhs; whnf
  try simp (disch := omega) only [nI64, nU64, nU32, nU8, nSubL, nAddL, nAdd, nSub, nDiv, nMod, nZ, nLit, row_3, row_5, row_16, row_26, row_42, row_58, Ty.den, dflt_it, dflt_li, dflt_kv, Int.toNat_natCast, List.take_length, List.drop_zero]
  exact own_eq rfl 0
theorem bytes_of {l : List Int} (h : Fits byl l) : Bytes l := fun x hx => by have := h.2 x hx; have := fits_u8.1 this; omega
theorem unfixed_ok (T : Tab) : unfixedSp.Ok T unfixedC F59 := by
  rintro ⟨(l : List Int), (m : Int), _⟩ hf hp
  have hp : (0 : Int) ≤ m ∧ (m : Int) ≤ 8 := by simpa only [unfixedSp, Bool.and_eq_true, tst_iff] using hp
  have hb := bytes_of hf.1
  by_cases h : l.length < Int.toNat m
  · have e : unfixedS l (Int.toNat m) = (0, 20) := if_pos h
    refine ⟨1, 0, ?_⟩
    show _ = some (unfixedSp.res (l, m, ()))
    simp only [unfixedSp, e]
    show evFn _ _ _ _ _ [.d byl l, .d i64 m] [] _ = _
    conv => lhs; whnf
    try simp (disch := omega) only [nI64, nU64, nU32, nU8, nSubL, nAddL, nAdd, nSub, nDiv, nMod, nZ, nLit, row_3, row_5, row_16, row_26, row_42, row_58, Ty.den, dflt_it, dflt_li, dflt_kv, Int.toNat_natCast, List.take_length, List.drop_zero]
    refine br_go (tst_t ?_) ?_
    · show ((List.length l : Nat) : Int) < m; omega
    rfl
  · have := unfixed_ev T l hb (Int.toNat m) (Int.toNat m + 1) (Int.toNat_le.2 hp.2) (by omega) (Nat.lt_succ_self _)
    rw [Int.toNat_of_nonneg hp.1] at this
    have e : unfixedS l (Int.toNat m) = (leVal (l.take (Int.toNat m)), 0) := if_neg h
    refine ⟨Int.toNat m + 1, 0, ?_⟩
    show _ = some (unfixedSp.res (l, m, ()))
    simp only [unfixedSp, e]
    exact this
abbrev unfixed4C : Ctx := ⟨rows, (fun  | _ => ([], []))⟩
theorem unfixedS_range {l : List Int} (hb : Bytes l) (n : Nat) : 0 ≤ (unfixedS l n).1 ∧ (unfixedS l n).1 < ((256 ^ n : Nat) : Int) := by
  unfold unfixedS
  split
  · have : 0 < 256 ^ n := Nat.pow_pos (by omega)
    constructor
    · show (0 : Int) ≤ 0; omega
    · show (0 : Int) < _; omega
  · have := leVal_range (hb.take n)
    rw [List.length_take, Nat.min_eq_left (by omega)] at this
    exact this
theorem unfixed4_ok (T : Tab) (h1 : T 59 = unfixedSp.ent) : unfixed4Sp.Ok T unfixed4C F35 := by
  rw [on_top h1]
  rintro ⟨(l : List Int), _⟩ hf _
  have := unfixedS_range (bytes_of hf.1) 4
  obtain ⟨F, hF⟩ : ∃ F : Nat, F = 1 := ⟨_, rfl⟩
  refine ⟨F, 0, ?_⟩
  show evFn _ _ _ _ _ [.d byl l] [] _ = some (.tup [.d u32 (unfixedS l 4).1, .d i64 (unfixedS l 4).2] : V)
  conv => lhs; whnf
  try simp (disch := omega) only [nI64, nU64, nU32, nU8, nSubL, nAddL, nAdd, nSub, nDiv, nMod, nZ, nLit, row_3, row_5, row_16, row_26, row_42, row_58, Ty.den, dflt_it, dflt_li, dflt_kv, Int.toNat_natCast, List.take_length, List.drop_zero]
  refine br_go ?_ ?_
  focus (((repeat' first | exact rfl | exact ordB_st rfl | exact ordB_of rfl | apply band | apply tst_t | apply nt_t)  <;> (try dsimp only [Ty.den, dflt_kv]) <;> (try simp only [List.length_append, List.length_cons, List.length_nil, List.length_take, List.length_drop, List.length_replicate]) <;> (first | trivial | assumption | omega | (change (_ : Int) ≤ _; omega) | (change (_ : Int) < _; omega) | (change (_ : Nat) * 1 ≤ _; omega) | (change (_ : Nat) * 48 ≤ _; omega) | (change (_ : Nat) * 24 ≤ _; omega) | (change (_ : Nat) * 8 ≤ _; omega) | (change (_ : Nat) * 64 ≤ _; omega) | decide)); done)
  conv => lhs; whnf
  try simp (disch := omega) only [nI64, nU64, nU32, nU8, nSubL, nAddL, nAdd, nSub, nDiv, nMod, nZ, nLit, row_3, row_5, row_16, row_26, row_42, row_58, Ty.den, dflt_it, dflt_li, dflt_kv, Int.toNat_natCast, List.take_length, List.drop_zero]
  have e : IntKind.u32.wrap (unfixedS l 4).1 = (unfixedS l 4).1 := by
    rw [wrapU32]
    have e : (256 : Nat) ^ 4 = 4294967296 := by decide
    dsimp only at this
    omega
  have e2 : some (V.tup [.d u32 (IntKind.u32.wrap (unfixedS l 4).1), .d i64 (unfixedS l 4).2]) = some (V.tup [.d u32 (unfixedS l 4).1, .d i64 (unfixedS l 4).2]) := by rw [e]
  exact e2
abbrev unfixed8C : Ctx := ⟨rows, (fun  | _ => ([], []))⟩
theorem unfixed8_ok (T : Tab) (h1 : T 59 = unfixedSp.ent) : unfixed8Sp.Ok T unfixed8C F63 := by
  rw [on_top h1]
  rintro ⟨(l : List Int), _⟩ hf _
  refine ⟨1, 0, ?_⟩
  conv => lhs; whnf
  try simp (disch := omega) only [nI64, nU64, nU32, nU8, nSubL, nAddL, nAdd, nSub, nDiv, nMod, nZ, nLit, row_3, row_5, row_16, row_26, row_42, row_58, Ty.den, dflt_it, dflt_li, dflt_kv, Int.toNat_natCast, List.take_length, List.drop_zero]
  refine br_go ?_ ?_
  focus (((repeat' first | exact rfl | exact ordB_st rfl | exact ordB_of rfl | apply band | apply tst_t | apply nt_t)  <;> (try dsimp only [Ty.den, dflt_kv]) <;> (try simp only [List.length_append, List.length_cons, List.length_nil, List.length_take, List.length_drop, List.length_replicate]) <;> (first | trivial | assumption | omega | (change (_ : Int) ≤ _; omega) | (change (_ : Int) < _; omega) | (change (_ : Nat) * 1 ≤ _; omega) | (change (_ : Nat) * 48 ≤ _; omega) | (change (_ : Nat) * 24 ≤ _; omega) | (change (_ : Nat) * 8 ≤ _; omega) | (change (_ : Nat) * 64 ≤ _; omega) | decide)); done)
  conv => lhs; whnf
  try simp (disch := omega) only [nI64, nU64, nU32, nU8, nSubL, nAddL, nAdd, nSub, nDiv, nMod, nZ, nLit, row_3, row_5, row_16, row_26, row_42, row_58, Ty.den, dflt_it, dflt_li, dflt_kv, Int.toNat_natCast, List.take_length, List.drop_zero]
  rfl
abbrev rightC : Ctx := ⟨rows, (fun  | _ => ([], []))⟩
theorem right_ok (T : Tab) : rightSp.Ok T rightC F50 := by
  rintro ⟨(l : List Int), (a : Int), (b : Int), _⟩ hf _
  obtain ⟨F, hF⟩ : ∃ F : Nat, F = 1 := ⟨_, rfl⟩
  refine ⟨F, 0, ?_⟩
  show evFn _ _ _ _ _ [.d byl l, .d u64 a, .d i64 b] [] _ = some (.d .bo (tst (Right l a b)) : V)
  conv => lhs; whnf
  try simp (disch := omega) only [nI64, nU64, nU32, nU8, nSubL, nAddL, nAdd, nSub, nDiv, nMod, nZ, nLit, row_3, row_5, row_16, row_26, row_42, row_58, Ty.den, dflt_it, dflt_li, dflt_kv, Int.toNat_natCast, List.take_length, List.drop_zero]
  repeat' (refine br_split (fun _ => ?_) (fun _ => ?_) <;> (conv => lhs; whnf) <;> (try simp (disch := omega) only [nI64, nU64, nU32, nU8, nSubL, nAddL, nAdd, nSub, nDiv, nMod, nZ, nLit, row_3, row_5, row_16, row_26, row_42, row_58, Ty.den, dflt_it, dflt_li, dflt_kv, Int.toNat_natCast, List.take_length, List.drop_zero]))
  all_goals unfold Right
  all_goals
    (first | exact bo_t (by skip; omega) | exact bo_f (by skip; omega) | exact bo_tst (by skip; omega))
end Go.Proofs.Ytdhbelpejaobdaa.Ev
