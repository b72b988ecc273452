/- Parts of the proof, joined by a program of this session: CRef2, CKv, TSmall, TBuild, TRef, TFew, EvClone, CExt, TKnown, CTake, CEqual. -/
import Derived.Test.YtkdajonmfiipkaaM5
import Derived.Test.YtkdajonmfiipkaaM4
import Derived.Lib.BytesEntry
set_option linter.unusedVariables false
set_option linter.unusedSimpArgs false
set_option linter.unusedSectionVars false
/- Keys taken apart and held against one another, by the document. -/
namespace Go.Proofs.Ytkdajonmfiipkaa.Ev
open Go Go.RowKit
set_option linter.unusedVariables false
set_option linter.unusedSimpArgs false
set_option maxRecDepth 100000
set_option maxHeartbeats 8000000
theorem rput_ok (T : Tab) : putSp.Ok T rputC F42 := by
  rintro ⟨(n : Int), _⟩ hf _
  have := fits_u64.1 hf.1
  exact ⟨Int.toNat n + 1, 0, rput_ev T n (Int.toNat n + 1) ⟨this.1, by omega⟩ (by omega)⟩
theorem rfixed_ok (T : Tab) : fixedSp.Ok T rfixedC F45 := by
  rintro ⟨(n : Int), (m : Int), _⟩ hf hp
  have hp : (0 : Int) ≤ m ∧ (m : Int) ≤ 8 := by simpa only [fixedSp, Bool.and_eq_true, tst_iff] using hp
  have := rfixed_ev T n (Int.toNat m) (Int.toNat m + 1) (Int.toNat_le.2 hp.2) (Nat.lt_succ_self _)
  rw [Int.toNat_of_nonneg hp.1] at this
  exact ⟨_, 0, this⟩
theorem runfixed_ok (T : Tab) : runfixedSp.Ok T runfixedC F57 := by
  rintro ⟨(l : List Int), (a : Int), (m : Int), _⟩ hf hp
  have hp : (((0 : Int) ≤ a ∧ 0 ≤ m) ∧ m ≤ 8) ∧ a + m ≤ (l.length : Int) := by simpa only [runfixedSp, runfixedPre, Bool.and_eq_true, tst_iff] using hp
  have hb : Bytes l := bytes_of hf.1
  have := runfixed_ev T l hb (Int.toNat a) (Int.toNat m) (Int.toNat m + 1) (Int.toNat_le.2 hp.1.2) (by omega) (fits_by.1 hf.1).1 (Nat.lt_succ_self _)
  rw [Int.toNat_of_nonneg hp.1.1.1, Int.toNat_of_nonneg hp.1.1.2] at this
  exact ⟨_, 0, this⟩
abbrev rsplitC : Ctx := ⟨rows, (fun  | _ => ([], []))⟩
theorem rsplit_ok (T : Tab) (h1 : T 57 = runfixedSp.ent) : rsplitSp.OkW T rsplitC F67 := by
  rw [on_top h1]
  rintro ⟨(l : List Int), _⟩ hf _
  have hl : l.length ≤ 140737488355328 := (fits_by.1 hf.1).1
  have hb : Bytes l := bytes_of hf.1
  obtain ⟨F, hF⟩ : ∃ F : Nat, F = 1 := ⟨_, rfl⟩
  refine ⟨F, 0, ?_⟩
  show evFn _ _ _ _ _ [.d byl l] [] _ = some (.tup [.d byl (split l).1, .d u64 (split l).2.1, .d i64 (split l).2.2.1, .d i64 (split l).2.2.2] : V)
  conv => lhs; whnf
  try simp (maxSteps := 2000000) (disch := omega) only [nI64, nU64, nU32, nU8, nSubL, nAddL, nAdd, nSub, nDiv, nMod, nZ, nLit, row_3, row_5, row_16, row_22, row_28, row_46, row_48, row_108, row_115, Ty.den, dflt_it, dflt_li, dflt_kv, Int.toNat_natCast, List.take_length, List.drop_zero]
  by_cases h1 : l.length < 8
  · refine br_go (tst_t (by omega)) ?_
    conv => lhs; whnf
    try simp (maxSteps := 2000000) (disch := omega) only [nI64, nU64, nU32, nU8, nSubL, nAddL, nAdd, nSub, nDiv, nMod, nZ, nLit, row_3, row_5, row_16, row_22, row_28, row_46, row_48, row_108, row_115, Ty.den, dflt_it, dflt_li, dflt_kv, Int.toNat_natCast, List.take_length, List.drop_zero]
    repeat (refine br_go ?_ ?_; (focus (((repeat' first | exact rfl | exact ordB_st rfl | exact ordB_of rfl | apply band | apply tst_t | apply nt_t)  <;> (try dsimp only [Ty.den, dflt_kv]) <;> (try simp only [List.length_append, List.length_cons, List.length_nil, List.length_take, List.length_drop, List.length_replicate]) <;> (first | trivial | assumption | omega | (change (_ : Int) ≤ _; omega) | (change (_ : Int) < _; omega) | (change (_ : Nat) * 1 ≤ _; omega) | (change (_ : Nat) * 48 ≤ _; omega) | (change (_ : Nat) * 24 ≤ _; omega) | (change (_ : Nat) * 8 ≤ _; omega) | (change (_ : Nat) * 64 ≤ _; omega) | decide)); done)); (conv => lhs; whnf); (try simp (maxSteps := 2000000) (disch := omega) only [nI64, nU64, nU32, nU8, nSubL, nAddL, nAdd, nSub, nDiv, nMod, nZ, nLit, row_3, row_5, row_16, row_22, row_28, row_46, row_48, row_108, row_115, Ty.den, dflt_it, dflt_li, dflt_kv, Int.toNat_natCast, List.take_length, List.drop_zero]))
    have es : split l = ([], 0, 0, 23) := if_pos (.inl h1)
    rw [es]
  · refine br_no (tst_f (by omega)) ?_
    conv => lhs; whnf
    try simp (maxSteps := 2000000) (disch := omega) only [nI64, nU64, nU32, nU8, nSubL, nAddL, nAdd, nSub, nDiv, nMod, nZ, nLit, row_3, row_5, row_16, row_22, row_28, row_46, row_48, row_108, row_115, Ty.den, dflt_it, dflt_li, dflt_kv, Int.toNat_natCast, List.take_length, List.drop_zero]
    by_cases h2 : 136 < l.length
    · refine br_go (tst_t (by omega)) ?_
      conv => lhs; whnf
      try simp (maxSteps := 2000000) (disch := omega) only [nI64, nU64, nU32, nU8, nSubL, nAddL, nAdd, nSub, nDiv, nMod, nZ, nLit, row_3, row_5, row_16, row_22, row_28, row_46, row_48, row_108, row_115, Ty.den, dflt_it, dflt_li, dflt_kv, Int.toNat_natCast, List.take_length, List.drop_zero]
      repeat (refine br_go ?_ ?_; (focus (((repeat' first | exact rfl | exact ordB_st rfl | exact ordB_of rfl | apply band | apply tst_t | apply nt_t)  <;> (try dsimp only [Ty.den, dflt_kv]) <;> (try simp only [List.length_append, List.length_cons, List.length_nil, List.length_take, List.length_drop, List.length_replicate]) <;> (first | trivial | assumption | omega | (change (_ : Int) ≤ _; omega) | (change (_ : Int) < _; omega) | (change (_ : Nat) * 1 ≤ _; omega) | (change (_ : Nat) * 48 ≤ _; omega) | (change (_ : Nat) * 24 ≤ _; omega) | (change (_ : Nat) * 8 ≤ _; omega) | (change (_ : Nat) * 64 ≤ _; omega) | decide)); done)); (conv => lhs; whnf); (try simp (maxSteps := 2000000) (disch := omega) only [nI64, nU64, nU32, nU8, nSubL, nAddL, nAdd, nSub, nDiv, nMod, nZ, nLit, row_3, row_5, row_16, row_22, row_28, row_46, row_48, row_108, row_115, Ty.den, dflt_it, dflt_li, dflt_kv, Int.toNat_natCast, List.take_length, List.drop_zero]))
      have es : split l = ([], 0, 0, 23) := if_pos (.inr h2)
      rw [es]
    · refine br_no (tst_f (by omega)) ?_
      conv => lhs; whnf
      try simp (maxSteps := 2000000) (disch := omega) only [nI64, nU64, nU32, nU8, nSubL, nAddL, nAdd, nSub, nDiv, nMod, nZ, nLit, row_3, row_5, row_16, row_22, row_28, row_46, row_48, row_108, row_115, Ty.den, dflt_it, dflt_li, dflt_kv, Int.toNat_natCast, List.take_length, List.drop_zero]
      repeat (refine br_go ?_ ?_; (focus (((repeat' first | exact rfl | exact ordB_st rfl | exact ordB_of rfl | apply band | apply tst_t | apply nt_t)  <;> (try dsimp only [Ty.den, dflt_kv]) <;> (try simp only [List.length_append, List.length_cons, List.length_nil, List.length_take, List.length_drop, List.length_replicate]) <;> (first | trivial | assumption | omega | (change (_ : Int) ≤ _; omega) | (change (_ : Int) < _; omega) | (change (_ : Nat) * 1 ≤ _; omega) | (change (_ : Nat) * 48 ≤ _; omega) | (change (_ : Nat) * 24 ≤ _; omega) | (change (_ : Nat) * 8 ≤ _; omega) | (change (_ : Nat) * 64 ≤ _; omega) | decide)); done)); (conv => lhs; whnf); (try simp (maxSteps := 2000000) (disch := omega) only [nI64, nU64, nU32, nU8, nSubL, nAddL, nAdd, nSub, nDiv, nMod, nZ, nLit, row_3, row_5, row_16, row_22, row_28, row_46, row_48, row_108, row_115, Ty.den, dflt_it, dflt_li, dflt_kv, Int.toNat_natCast, List.take_length, List.drop_zero]))
      have hr := leVal_range (hb.drop (l.length - 8))
      have ht : List.take 8 (l.drop (l.length - 8)) = l.drop (l.length - 8) := List.take_of_length_le (by rw [List.length_drop]; omega)
      rw [List.length_drop, show l.length - (l.length - 8) = 8 by omega, show (256 : Nat) ^ 8 = 18446744073709551616 by decide] at hr
      try simp (maxSteps := 2000000) (disch := omega) only [nI64, nU64, nU32, nU8, nSubL, nAddL, nAdd, nSub, nDiv, nMod, nZ, nLit, row_3, row_5, row_16, row_22, row_28, row_46, row_48, row_108, row_115, Ty.den, dflt_it, dflt_li, dflt_kv, Int.toNat_natCast, List.take_length, List.drop_zero, ht]
      by_cases h3 : leVal (l.drop (l.length - 8)) % 256 > 1
      · refine br_go (tst_t (h3)) ?_
        conv => lhs; whnf
        try simp (maxSteps := 2000000) (disch := omega) only [nI64, nU64, nU32, nU8, nSubL, nAddL, nAdd, nSub, nDiv, nMod, nZ, nLit, row_3, row_5, row_16, row_22, row_28, row_46, row_48, row_108, row_115, Ty.den, dflt_it, dflt_li, dflt_kv, Int.toNat_natCast, List.take_length, List.drop_zero]
        repeat (refine br_go ?_ ?_; (focus (((repeat' first | exact rfl | exact ordB_st rfl | exact ordB_of rfl | apply band | apply tst_t | apply nt_t)  <;> (try dsimp only [Ty.den, dflt_kv]) <;> (try simp only [List.length_append, List.length_cons, List.length_nil, List.length_take, List.length_drop, List.length_replicate]) <;> (first | trivial | assumption | omega | (change (_ : Int) ≤ _; omega) | (change (_ : Int) < _; omega) | (change (_ : Nat) * 1 ≤ _; omega) | (change (_ : Nat) * 48 ≤ _; omega) | (change (_ : Nat) * 24 ≤ _; omega) | (change (_ : Nat) * 8 ≤ _; omega) | (change (_ : Nat) * 64 ≤ _; omega) | decide)); done)); (conv => lhs; whnf); (try simp (maxSteps := 2000000) (disch := omega) only [nI64, nU64, nU32, nU8, nSubL, nAddL, nAdd, nSub, nDiv, nMod, nZ, nLit, row_3, row_5, row_16, row_22, row_28, row_46, row_48, row_108, row_115, Ty.den, dflt_it, dflt_li, dflt_kv, Int.toNat_natCast, List.take_length, List.drop_zero]))
        have es : split l = ([], 0, 0, 23) := by unfold split; rw [if_neg (by omega), if_pos h3]
        rw [es]
      · refine br_no (tst_f (h3)) ?_
        conv => lhs; whnf
        try simp (maxSteps := 2000000) (disch := omega) only [nI64, nU64, nU32, nU8, nSubL, nAddL, nAdd, nSub, nDiv, nMod, nZ, nLit, row_3, row_5, row_16, row_22, row_28, row_46, row_48, row_108, row_115, Ty.den, dflt_it, dflt_li, dflt_kv, Int.toNat_natCast, List.take_length, List.drop_zero]
        repeat (refine br_go ?_ ?_; (focus (((repeat' first | exact rfl | exact ordB_st rfl | exact ordB_of rfl | apply band | apply tst_t | apply nt_t)  <;> (try dsimp only [Ty.den, dflt_kv]) <;> (try simp only [List.length_append, List.length_cons, List.length_nil, List.length_take, List.length_drop, List.length_replicate]) <;> (first | trivial | assumption | omega | (change (_ : Int) ≤ _; omega) | (change (_ : Int) < _; omega) | (change (_ : Nat) * 1 ≤ _; omega) | (change (_ : Nat) * 48 ≤ _; omega) | (change (_ : Nat) * 24 ≤ _; omega) | (change (_ : Nat) * 8 ≤ _; omega) | (change (_ : Nat) * 64 ≤ _; omega) | decide)); done)); (conv => lhs; whnf); (try simp (maxSteps := 2000000) (disch := omega) only [nI64, nU64, nU32, nU8, nSubL, nAddL, nAdd, nSub, nDiv, nMod, nZ, nLit, row_3, row_5, row_16, row_22, row_28, row_46, row_48, row_108, row_115, Ty.den, dflt_it, dflt_li, dflt_kv, Int.toNat_natCast, List.take_length, List.drop_zero]))
        have es : split l = (l.take (l.length - 8), leVal (l.drop (l.length - 8)) / 256, leVal (l.drop (l.length - 8)) % 256, 0) := by unfold split; rw [if_neg (by omega), if_neg h3]
        rw [es]
abbrev isC : Ctx := ⟨rows, (fun  | _ => ([], []))⟩
theorem is_ok (T : Tab) (h1 : T 67 = rsplitSp.ent) : isSp.Ok T isC F76 := by
  rw [on_top h1]
  rintro ⟨(l : List Int), _⟩ hf _
  obtain ⟨F, hF⟩ : ∃ F : Nat, F = 1 := ⟨_, rfl⟩
  refine ⟨F, 0, ?_⟩
  show evFn _ _ _ _ _ [.d byl l] [] _ = some (.d .bo (tst ((split l).2.2.2 = 0)) : V)
  conv => lhs; whnf
  try simp (maxSteps := 2000000) (disch := omega) only [nI64, nU64, nU32, nU8, nSubL, nAddL, nAdd, nSub, nDiv, nMod, nZ, nLit, row_3, row_5, row_16, row_22, row_28, row_46, row_48, row_108, row_115, Ty.den, dflt_it, dflt_li, dflt_kv, Int.toNat_natCast, List.take_length, List.drop_zero]
  repeat (refine br_go ?_ ?_; (focus (((repeat' first | exact rfl | exact ordB_st rfl | exact ordB_of rfl | apply band | apply tst_t | apply nt_t)  <;> (try dsimp only [Ty.den, dflt_kv]) <;> (try simp only [List.length_append, List.length_cons, List.length_nil, List.length_take, List.length_drop, List.length_replicate]) <;> (first | trivial | assumption | omega | (change (_ : Int) ≤ _; omega) | (change (_ : Int) < _; omega) | (change (_ : Nat) * 1 ≤ _; omega) | (change (_ : Nat) * 48 ≤ _; omega) | (change (_ : Nat) * 24 ≤ _; omega) | (change (_ : Nat) * 8 ≤ _; omega) | (change (_ : Nat) * 64 ≤ _; omega) | decide)); done)); (conv => lhs; whnf); (try simp (maxSteps := 2000000) (disch := omega) only [nI64, nU64, nU32, nU8, nSubL, nAddL, nAdd, nSub, nDiv, nMod, nZ, nLit, row_3, row_5, row_16, row_22, row_28, row_46, row_48, row_108, row_115, Ty.den, dflt_it, dflt_li, dflt_kv, Int.toNat_natCast, List.take_length, List.drop_zero]))
abbrev rbytesC : Ctx := ⟨rows, (fun | 0 => ([0, 1, 5], [0, 1]) | 1 => ([], [0, 1, 5]) | 2 => ([], []) | _ => ([], []))⟩
theorem rd_cons {l : List Int} {i : Nat} (h : i < l.length) : l.drop i = l.getD i 0 :: l.drop (i + 1) := by rw [List.getD_eq_getElem?_getD, List.getElem?_eq_getElem h]; exact List.drop_eq_getElem_cons h
theorem rbytes_ok (T : Tab) : cmpBSp.Ok T rbytesC F30 := by
  rintro ⟨(a : List Int), (b : List Int), _⟩ hf _
  have ha : a.length ≤ 140737488355328 := (fits_by.1 hf.1).1
  have hb : b.length ≤ 140737488355328 := (fits_by.1 hf.2.1).1
  obtain ⟨F, hF⟩ : ∃ F : Nat, F = a.length + 1 := ⟨_, rfl⟩
  refine ⟨F, 0, ?_⟩
  show evFn _ _ _ _ _ [.d byl a, .d byl b] [] _ = some (.d i64 (cmpB a b) : V)
  conv => lhs; whnf
  try simp (maxSteps := 2000000) (disch := omega) only [nI64, nU64, nU32, nU8, nSubL, nAddL, nAdd, nSub, nDiv, nMod, nZ, nLit, row_3, row_5, row_16, row_22, row_28, row_46, row_48, row_108, row_115, Ty.den, dflt_it, dflt_li, dflt_kv, Int.toNat_natCast, List.take_length, List.drop_zero]
  refine loop_rule (α := Nat) (fun i => i ≤ a.length ∧ i ≤ b.length) (fun i => a.length - i)
    (fun i => (vB a :: vB b :: V.bad :: V.bad :: V.bad :: vI i :: V.bad :: V.bad :: V.bad :: V.bad :: V.bad :: V.bad :: V.bad :: V.bad :: V.bad :: V.bad :: V.bad :: V.bad :: V.bad :: V.bad :: V.bad :: V.bad :: V.bad :: V.bad :: V.bad :: V.bad :: V.bad :: V.bad :: V.bad :: V.bad :: V.bad :: V.bad :: V.bad :: V.bad :: V.bad :: V.bad :: V.bad :: V.bad :: V.bad :: V.bad :: V.bad :: V.bad :: V.bad :: V.bad :: V.bad :: V.bad :: V.bad :: V.bad :: [])) (fun i => [])
    (fun i => some (V.d i64 (cmpB (a.drop i) (b.drop i)))) ?_ F 0 ⟨by omega, by omega⟩ (by omega)
  rintro i K ⟨h1, h2⟩ hK
  conv => lhs; whnf
  try simp (maxSteps := 2000000) (disch := omega) only [nI64, nU64, nU32, nU8, nSubL, nAddL, nAdd, nSub, nDiv, nMod, nZ, nLit, row_3, row_5, row_16, row_22, row_28, row_46, row_48, row_108, row_115, Ty.den, dflt_it, dflt_li, dflt_kv, Int.toNat_natCast, List.take_length, List.drop_zero]
  by_cases hi : i < a.length
  · refine br_go (tst_t (by omega)) ?_
    conv => lhs; whnf
    try simp (maxSteps := 2000000) (disch := omega) only [nI64, nU64, nU32, nU8, nSubL, nAddL, nAdd, nSub, nDiv, nMod, nZ, nLit, row_3, row_5, row_16, row_22, row_28, row_46, row_48, row_108, row_115, Ty.den, dflt_it, dflt_li, dflt_kv, Int.toNat_natCast, List.take_length, List.drop_zero]
    by_cases hj : i < b.length
    · refine br_go (tst_t (by omega)) ?_
      conv => lhs; whnf
      try simp (maxSteps := 2000000) (disch := omega) only [nI64, nU64, nU32, nU8, nSubL, nAddL, nAdd, nSub, nDiv, nMod, nZ, nLit, row_3, row_5, row_16, row_22, row_28, row_46, row_48, row_108, row_115, Ty.den, dflt_it, dflt_li, dflt_kv, Int.toNat_natCast, List.take_length, List.drop_zero]
      repeat (refine br_go ?_ ?_; (focus (((repeat' first | exact rfl | exact ordB_st rfl | exact ordB_of rfl | apply band | apply tst_t | apply nt_t)  <;> (try dsimp only [Ty.den, dflt_kv]) <;> (try simp only [List.length_append, List.length_cons, List.length_nil, List.length_take, List.length_drop, List.length_replicate]) <;> (first | trivial | assumption | omega | (change (_ : Int) ≤ _; omega) | (change (_ : Int) < _; omega) | (change (_ : Nat) * 1 ≤ _; omega) | (change (_ : Nat) * 48 ≤ _; omega) | (change (_ : Nat) * 24 ≤ _; omega) | (change (_ : Nat) * 8 ≤ _; omega) | (change (_ : Nat) * 64 ≤ _; omega) | decide)); done)); (conv => lhs; whnf); (try simp (maxSteps := 2000000) (disch := omega) only [nI64, nU64, nU32, nU8, nSubL, nAddL, nAdd, nSub, nDiv, nMod, nZ, nLit, row_3, row_5, row_16, row_22, row_28, row_46, row_48, row_108, row_115, Ty.den, dflt_it, dflt_li, dflt_kv, Int.toNat_natCast, List.take_length, List.drop_zero]))
      rw [rd_cons hi, rd_cons hj]
      by_cases he : a.getD i 0 = b.getD i 0
      · refine br_no (tst_f (by simpa using he)) ?_
        conv => lhs; whnf
        try simp (maxSteps := 2000000) (disch := omega) only [nI64, nU64, nU32, nU8, nSubL, nAddL, nAdd, nSub, nDiv, nMod, nZ, nLit, row_3, row_5, row_16, row_22, row_28, row_46, row_48, row_108, row_115, Ty.den, dflt_it, dflt_li, dflt_kv, Int.toNat_natCast, List.take_length, List.drop_zero]
        refine (hK (i + 1) ⟨by omega, by omega⟩ (by omega)).trans ?_
        rw [cmpB, if_pos he]
      · refine br_go (tst_t (he)) ?_
        conv => lhs; whnf
        try simp (maxSteps := 2000000) (disch := omega) only [nI64, nU64, nU32, nU8, nSubL, nAddL, nAdd, nSub, nDiv, nMod, nZ, nLit, row_3, row_5, row_16, row_22, row_28, row_46, row_48, row_108, row_115, Ty.den, dflt_it, dflt_li, dflt_kv, Int.toNat_natCast, List.take_length, List.drop_zero]
        repeat (refine br_go ?_ ?_; (focus (((repeat' first | exact rfl | exact ordB_st rfl | exact ordB_of rfl | apply band | apply tst_t | apply nt_t)  <;> (try dsimp only [Ty.den, dflt_kv]) <;> (try simp only [List.length_append, List.length_cons, List.length_nil, List.length_take, List.length_drop, List.length_replicate]) <;> (first | trivial | assumption | omega | (change (_ : Int) ≤ _; omega) | (change (_ : Int) < _; omega) | (change (_ : Nat) * 1 ≤ _; omega) | (change (_ : Nat) * 48 ≤ _; omega) | (change (_ : Nat) * 24 ≤ _; omega) | (change (_ : Nat) * 8 ≤ _; omega) | (change (_ : Nat) * 64 ≤ _; omega) | decide)); done)); (conv => lhs; whnf); (try simp (maxSteps := 2000000) (disch := omega) only [nI64, nU64, nU32, nU8, nSubL, nAddL, nAdd, nSub, nDiv, nMod, nZ, nLit, row_3, row_5, row_16, row_22, row_28, row_46, row_48, row_108, row_115, Ty.den, dflt_it, dflt_li, dflt_kv, Int.toNat_natCast, List.take_length, List.drop_zero]))
        by_cases hl : a.getD i 0 < b.getD i 0
        · refine br_go (tst_t (hl)) ?_
          conv => lhs; whnf
          try simp (maxSteps := 2000000) (disch := omega) only [nI64, nU64, nU32, nU8, nSubL, nAddL, nAdd, nSub, nDiv, nMod, nZ, nLit, row_3, row_5, row_16, row_22, row_28, row_46, row_48, row_108, row_115, Ty.den, dflt_it, dflt_li, dflt_kv, Int.toNat_natCast, List.take_length, List.drop_zero]
          rw [cmpB, if_neg he, if_pos hl]
        · refine br_no (tst_f (hl)) ?_
          conv => lhs; whnf
          try simp (maxSteps := 2000000) (disch := omega) only [nI64, nU64, nU32, nU8, nSubL, nAddL, nAdd, nSub, nDiv, nMod, nZ, nLit, row_3, row_5, row_16, row_22, row_28, row_46, row_48, row_108, row_115, Ty.den, dflt_it, dflt_li, dflt_kv, Int.toNat_natCast, List.take_length, List.drop_zero]
          rw [cmpB, if_neg he, if_neg hl]
    · refine br_no (tst_f (by omega)) ?_
      conv => lhs; whnf
      try simp (maxSteps := 2000000) (disch := omega) only [nI64, nU64, nU32, nU8, nSubL, nAddL, nAdd, nSub, nDiv, nMod, nZ, nLit, row_3, row_5, row_16, row_22, row_28, row_46, row_48, row_108, row_115, Ty.den, dflt_it, dflt_li, dflt_kv, Int.toNat_natCast, List.take_length, List.drop_zero]
      repeat (refine br_go ?_ ?_; (focus (((repeat' first | exact rfl | exact ordB_st rfl | exact ordB_of rfl | apply band | apply tst_t | apply nt_t)  <;> (try dsimp only [Ty.den, dflt_kv]) <;> (try simp only [List.length_append, List.length_cons, List.length_nil, List.length_take, List.length_drop, List.length_replicate]) <;> (first | trivial | assumption | omega | (change (_ : Int) ≤ _; omega) | (change (_ : Int) < _; omega) | (change (_ : Nat) * 1 ≤ _; omega) | (change (_ : Nat) * 48 ≤ _; omega) | (change (_ : Nat) * 24 ≤ _; omega) | (change (_ : Nat) * 8 ≤ _; omega) | (change (_ : Nat) * 64 ≤ _; omega) | decide)); done)); (conv => lhs; whnf); (try simp (maxSteps := 2000000) (disch := omega) only [nI64, nU64, nU32, nU8, nSubL, nAddL, nAdd, nSub, nDiv, nMod, nZ, nLit, row_3, row_5, row_16, row_22, row_28, row_46, row_48, row_108, row_115, Ty.den, dflt_it, dflt_li, dflt_kv, Int.toNat_natCast, List.take_length, List.drop_zero]))
      rw [rd_cons hi, List.drop_eq_nil_of_le (by omega : b.length ≤ i)]
      by_cases hl : a.length < b.length
      · omega
      · refine br_no (tst_f (by omega)) ?_
        conv => lhs; whnf
        try simp (maxSteps := 2000000) (disch := omega) only [nI64, nU64, nU32, nU8, nSubL, nAddL, nAdd, nSub, nDiv, nMod, nZ, nLit, row_3, row_5, row_16, row_22, row_28, row_46, row_48, row_108, row_115, Ty.den, dflt_it, dflt_li, dflt_kv, Int.toNat_natCast, List.take_length, List.drop_zero]
        refine br_go (tst_t (by omega)) ?_
        conv => lhs; whnf
        try simp (maxSteps := 2000000) (disch := omega) only [nI64, nU64, nU32, nU8, nSubL, nAddL, nAdd, nSub, nDiv, nMod, nZ, nLit, row_3, row_5, row_16, row_22, row_28, row_46, row_48, row_108, row_115, Ty.den, dflt_it, dflt_li, dflt_kv, Int.toNat_natCast, List.take_length, List.drop_zero]
        rfl
  · refine br_no (tst_f (by omega)) ?_
    conv => lhs; whnf
    try simp (maxSteps := 2000000) (disch := omega) only [nI64, nU64, nU32, nU8, nSubL, nAddL, nAdd, nSub, nDiv, nMod, nZ, nLit, row_3, row_5, row_16, row_22, row_28, row_46, row_48, row_108, row_115, Ty.den, dflt_it, dflt_li, dflt_kv, Int.toNat_natCast, List.take_length, List.drop_zero]
    by_cases hl : a.length < b.length
    · refine br_go (tst_t (by omega)) ?_
      conv => lhs; whnf
      try simp (maxSteps := 2000000) (disch := omega) only [nI64, nU64, nU32, nU8, nSubL, nAddL, nAdd, nSub, nDiv, nMod, nZ, nLit, row_3, row_5, row_16, row_22, row_28, row_46, row_48, row_108, row_115, Ty.den, dflt_it, dflt_li, dflt_kv, Int.toNat_natCast, List.take_length, List.drop_zero]
      rw [List.drop_eq_nil_of_le (by omega : a.length ≤ i), rd_cons (by omega : i < b.length)]
      rfl
    · refine br_no (tst_f (by omega)) ?_
      conv => lhs; whnf
      try simp (maxSteps := 2000000) (disch := omega) only [nI64, nU64, nU32, nU8, nSubL, nAddL, nAdd, nSub, nDiv, nMod, nZ, nLit, row_3, row_5, row_16, row_22, row_28, row_46, row_48, row_108, row_115, Ty.den, dflt_it, dflt_li, dflt_kv, Int.toNat_natCast, List.take_length, List.drop_zero]
      refine br_no (tst_f (by omega)) ?_
      conv => lhs; whnf
      try simp (maxSteps := 2000000) (disch := omega) only [nI64, nU64, nU32, nU8, nSubL, nAddL, nAdd, nSub, nDiv, nMod, nZ, nLit, row_3, row_5, row_16, row_22, row_28, row_46, row_48, row_108, row_115, Ty.den, dflt_it, dflt_li, dflt_kv, Int.toNat_natCast, List.take_length, List.drop_zero]
      rw [List.drop_eq_nil_of_le (by omega : a.length ≤ i), List.drop_eq_nil_of_le (by omega : b.length ≤ i)]
      rfl
abbrev orderC : Ctx := ⟨rows, (fun | 0 => ([], []) | _ => ([], []))⟩
theorem order_ok (T : Tab) (h1 : T 67 = rsplitSp.ent) (h2 : T 30 = cmpBSp.ent) : orderSp.Ok T orderC F77 := by
  rw [on_top h1, on_top h2]
  rintro ⟨(a : List Int), (b : List Int), _⟩ hf _
  obtain ⟨F, hF⟩ : ∃ F : Nat, F = 1 := ⟨_, rfl⟩
  refine ⟨F, 0, ?_⟩
  show evFn _ _ _ _ _ [.d byl a, .d byl b] [] _ = some (.d i64 (order a b) : V)
  conv => lhs; whnf
  try simp (maxSteps := 2000000) (disch := omega) only [nI64, nU64, nU32, nU8, nSubL, nAddL, nAdd, nSub, nDiv, nMod, nZ, nLit, row_3, row_5, row_16, row_22, row_28, row_46, row_48, row_108, row_115, Ty.den, dflt_it, dflt_li, dflt_kv, Int.toNat_natCast, List.take_length, List.drop_zero]
  unfold order
  by_cases hc : cmpB (split a).1 (split b).1 ≠ 0
  · refine br_go (tst_t (hc)) ?_
    conv => lhs; whnf
    try simp (maxSteps := 2000000) (disch := omega) only [nI64, nU64, nU32, nU8, nSubL, nAddL, nAdd, nSub, nDiv, nMod, nZ, nLit, row_3, row_5, row_16, row_22, row_28, row_46, row_48, row_108, row_115, Ty.den, dflt_it, dflt_li, dflt_kv, Int.toNat_natCast, List.take_length, List.drop_zero]
    rw [if_pos hc]
  · refine br_no (tst_f (hc)) ?_
    conv => lhs; whnf
    try simp (maxSteps := 2000000) (disch := omega) only [nI64, nU64, nU32, nU8, nSubL, nAddL, nAdd, nSub, nDiv, nMod, nZ, nLit, row_3, row_5, row_16, row_22, row_28, row_46, row_48, row_108, row_115, Ty.den, dflt_it, dflt_li, dflt_kv, Int.toNat_natCast, List.take_length, List.drop_zero]
    rw [if_neg hc]
    repeat' (first | (refine br_split (fun _ => ?_) (fun _ => ?_) <;> (conv => lhs; whnf) <;> (try simp (maxSteps := 2000000) (disch := omega) only [nI64, nU64, nU32, nU8, nSubL, nAddL, nAdd, nSub, nDiv, nMod, nZ, nLit, row_3, row_5, row_16, row_22, row_28, row_46, row_48, row_108, row_115, Ty.den, dflt_it, dflt_li, dflt_kv, Int.toNat_natCast, List.take_length, List.drop_zero])) | (refine br_go ?_ ?_; (focus (((repeat' first | exact rfl | exact ordB_st rfl | exact ordB_of rfl | apply band | apply tst_t | apply nt_t)  <;> (try dsimp only [Ty.den, dflt_kv]) <;> (try simp only [List.length_append, List.length_cons, List.length_nil, List.length_take, List.length_drop, List.length_replicate]) <;> (first | trivial | assumption | omega | (change (_ : Int) ≤ _; omega) | (change (_ : Int) < _; omega) | (change (_ : Nat) * 1 ≤ _; omega) | (change (_ : Nat) * 48 ≤ _; omega) | (change (_ : Nat) * 24 ≤ _; omega) | (change (_ : Nat) * 8 ≤ _; omega) | (change (_ : Nat) * 64 ≤ _; omega) | decide)); done)); (conv => lhs; whnf); (try simp (maxSteps := 2000000) (disch := omega) only [nI64, nU64, nU32, nU8, nSubL, nAddL, nAdd, nSub, nDiv, nMod, nZ, nLit, row_3, row_5, row_16, row_22, row_28, row_46, row_48, row_108, row_115, Ty.den, dflt_it, dflt_li, dflt_kv, Int.toNat_natCast, List.take_length, List.drop_zero])))
    all_goals (first | (rw [if_pos (by omega)]; done) | (rw [if_neg (by omega), if_pos (by omega)]; done) | (rw [if_neg (by omega), if_neg (by omega)]; done) | skip)
end Go.Proofs.Ytkdajonmfiipkaa.Ev
/- Entries held against one another, copied, looked at: by the helps. -/
namespace Go.Proofs.Ytkdajonmfiipkaa.Ev
open Go Go.RowKit
set_option linter.unusedVariables false
set_option linter.unusedSimpArgs false
set_option maxRecDepth 100000
set_option maxHeartbeats 8000000
abbrev hbytesC : Ctx := ⟨rows, (fun  | _ => ([], []))⟩
theorem hbytes_ok (T : Tab) : hbytesSp.Ok T hbytesC F15 := by
  rintro ⟨(a : List Int), (b : List Int), _⟩ hf _
  obtain ⟨F, hF⟩ : ∃ F : Nat, F = 1 := ⟨_, rfl⟩
  refine ⟨F, 0, ?_⟩
  show evFn _ _ _ _ _ [vB a, vB b] [] _ = some (vT (a = b) : V)
  conv => lhs; whnf
  try simp (maxSteps := 2000000) (disch := omega) only [nI64, nU64, nU32, nU8, nSubL, nAddL, nAdd, nSub, nDiv, nMod, nZ, nLit, row_3, row_5, row_16, row_22, row_28, row_46, row_48, row_108, row_115, Ty.den, dflt_it, dflt_li, dflt_kv, Int.toNat_natCast, List.take_length, List.drop_zero]
abbrev kvsC : Ctx := ⟨rows, (fun | 0 => ([0, 1, 5], []) | 1 => ([], [0, 1, 5]) | _ => ([], []))⟩
theorem kvs_ok (T : Tab) : kvsSp.Ok T kvsC F16 := by
  rintro ⟨(a : List KV), (b : List KV), _⟩ hf _
  have ha : a.length ≤ 140737488355328 := (fits_kvl.1 hf.1).1
  have hb : b.length ≤ 140737488355328 := (fits_kvl.1 hf.2.1).1
  obtain ⟨F, hF⟩ : ∃ F : Nat, F = a.length + 1 := ⟨_, rfl⟩
  refine ⟨F, 0, ?_⟩
  show evFn _ _ _ _ _ [vK a, vK b] [] _ = some (vT (a = b) : V)
  conv => lhs; whnf
  try simp (maxSteps := 2000000) (disch := omega) only [nI64, nU64, nU32, nU8, nSubL, nAddL, nAdd, nSub, nDiv, nMod, nZ, nLit, row_3, row_5, row_16, row_22, row_28, row_46, row_48, row_108, row_115, Ty.den, dflt_it, dflt_li, dflt_kv, Int.toNat_natCast, List.take_length, List.drop_zero]
  by_cases hl : a.length = b.length
  · refine br_no (tst_f (by omega)) ?_
    conv => lhs; whnf
    try simp (maxSteps := 2000000) (disch := omega) only [nI64, nU64, nU32, nU8, nSubL, nAddL, nAdd, nSub, nDiv, nMod, nZ, nLit, row_3, row_5, row_16, row_22, row_28, row_46, row_48, row_108, row_115, Ty.den, dflt_it, dflt_li, dflt_kv, Int.toNat_natCast, List.take_length, List.drop_zero]
    refine loop_rule (α := Nat) (fun i => i ≤ a.length) (fun i => a.length - i)
      (fun i => (vK a :: vK b :: V.bad :: V.bad :: V.bad :: vI i :: V.bad :: V.bad :: V.bad :: V.bad :: V.bad :: V.bad :: V.bad :: V.bad :: V.bad :: V.bad :: V.bad :: V.bad :: V.bad :: V.bad :: V.bad :: V.bad :: V.bad :: V.bad :: V.bad :: V.bad :: V.bad :: V.bad :: V.bad :: V.bad :: V.bad :: V.bad :: V.bad :: V.bad :: V.bad :: V.bad :: V.bad :: V.bad :: V.bad :: V.bad :: V.bad :: V.bad :: V.bad :: V.bad :: V.bad :: [])) (fun i => [.gone, .gone])
      (fun i => some (vT (a.drop i = b.drop i))) ?_ F 0 (by omega) (by omega)
    rintro i K h1 hK
    conv => lhs; whnf
    try simp (maxSteps := 2000000) (disch := omega) only [nI64, nU64, nU32, nU8, nSubL, nAddL, nAdd, nSub, nDiv, nMod, nZ, nLit, row_3, row_5, row_16, row_22, row_28, row_46, row_48, row_108, row_115, Ty.den, dflt_it, dflt_li, dflt_kv, Int.toNat_natCast, List.take_length, List.drop_zero]
    by_cases hi : i < a.length
    · refine br_go (tst_t (by omega)) ?_
      conv => lhs; whnf
      try simp (maxSteps := 2000000) (disch := omega) only [nI64, nU64, nU32, nU8, nSubL, nAddL, nAdd, nSub, nDiv, nMod, nZ, nLit, row_3, row_5, row_16, row_22, row_28, row_46, row_48, row_108, row_115, Ty.den, dflt_it, dflt_li, dflt_kv, Int.toNat_natCast, List.take_length, List.drop_zero]
      repeat (refine br_go ?_ ?_; (focus (((repeat' first | exact rfl | exact ordB_st rfl | exact ordB_of rfl | apply band | apply tst_t | apply nt_t)  <;> (try dsimp only [Ty.den, dflt_kv]) <;> (try simp only [List.length_append, List.length_cons, List.length_nil, List.length_take, List.length_drop, List.length_replicate]) <;> (first | trivial | assumption | omega | (change (_ : Int) ≤ _; omega) | (change (_ : Int) < _; omega) | (change (_ : Nat) * 1 ≤ _; omega) | (change (_ : Nat) * 48 ≤ _; omega) | (change (_ : Nat) * 24 ≤ _; omega) | (change (_ : Nat) * 8 ≤ _; omega) | (change (_ : Nat) * 64 ≤ _; omega) | decide)); done)); (conv => lhs; whnf); (try simp (maxSteps := 2000000) (disch := omega) only [nI64, nU64, nU32, nU8, nSubL, nAddL, nAdd, nSub, nDiv, nMod, nZ, nLit, row_3, row_5, row_16, row_22, row_28, row_46, row_48, row_108, row_115, Ty.den, dflt_it, dflt_li, dflt_kv, Int.toNat_natCast, List.take_length, List.drop_zero]))
      have hj : i < b.length := by omega
      rw [drop_at (d := kvd) hi, drop_at (d := kvd) hj]
      by_cases h1 : (a.getD i kvd).1 = (b.getD i kvd).1
      · refine br_no (tst_f (by simpa using h1)) ?_
        conv => lhs; whnf
        try simp (maxSteps := 2000000) (disch := omega) only [nI64, nU64, nU32, nU8, nSubL, nAddL, nAdd, nSub, nDiv, nMod, nZ, nLit, row_3, row_5, row_16, row_22, row_28, row_46, row_48, row_108, row_115, Ty.den, dflt_it, dflt_li, dflt_kv, Int.toNat_natCast, List.take_length, List.drop_zero]
        repeat (refine br_go ?_ ?_; (focus (((repeat' first | exact rfl | exact ordB_st rfl | exact ordB_of rfl | apply band | apply tst_t | apply nt_t)  <;> (try dsimp only [Ty.den, dflt_kv]) <;> (try simp only [List.length_append, List.length_cons, List.length_nil, List.length_take, List.length_drop, List.length_replicate]) <;> (first | trivial | assumption | omega | (change (_ : Int) ≤ _; omega) | (change (_ : Int) < _; omega) | (change (_ : Nat) * 1 ≤ _; omega) | (change (_ : Nat) * 48 ≤ _; omega) | (change (_ : Nat) * 24 ≤ _; omega) | (change (_ : Nat) * 8 ≤ _; omega) | (change (_ : Nat) * 64 ≤ _; omega) | decide)); done)); (conv => lhs; whnf); (try simp (maxSteps := 2000000) (disch := omega) only [nI64, nU64, nU32, nU8, nSubL, nAddL, nAdd, nSub, nDiv, nMod, nZ, nLit, row_3, row_5, row_16, row_22, row_28, row_46, row_48, row_108, row_115, Ty.den, dflt_it, dflt_li, dflt_kv, Int.toNat_natCast, List.take_length, List.drop_zero]))
        by_cases h2 : (a.getD i kvd).2.1 = (b.getD i kvd).2.1
        · refine br_no (tst_f (by simpa using h2)) ?_
          conv => lhs; whnf
          try simp (maxSteps := 2000000) (disch := omega) only [nI64, nU64, nU32, nU8, nSubL, nAddL, nAdd, nSub, nDiv, nMod, nZ, nLit, row_3, row_5, row_16, row_22, row_28, row_46, row_48, row_108, row_115, Ty.den, dflt_it, dflt_li, dflt_kv, Int.toNat_natCast, List.take_length, List.drop_zero]
          refine (hK (i + 1) (by omega) (by omega)).trans ?_
          have e : a.getD i kvd = b.getD i kvd := by
            rw [Prod.ext_iff]; exact ⟨h1, by rw [Prod.ext_iff]; exact ⟨h2, rfl⟩⟩
          rw [e]
          simp only [List.cons.injEq, true_and]
        · refine br_go (tst_t (by simpa using h2)) ?_
          conv => lhs; whnf
          try simp (maxSteps := 2000000) (disch := omega) only [nI64, nU64, nU32, nU8, nSubL, nAddL, nAdd, nSub, nDiv, nMod, nZ, nLit, row_3, row_5, row_16, row_22, row_28, row_46, row_48, row_108, row_115, Ty.den, dflt_it, dflt_li, dflt_kv, Int.toNat_natCast, List.take_length, List.drop_zero]
          repeat (refine br_go ?_ ?_; (focus (((repeat' first | exact rfl | exact ordB_st rfl | exact ordB_of rfl | apply band | apply tst_t | apply nt_t)  <;> (try dsimp only [Ty.den, dflt_kv]) <;> (try simp only [List.length_append, List.length_cons, List.length_nil, List.length_take, List.length_drop, List.length_replicate]) <;> (first | trivial | assumption | omega | (change (_ : Int) ≤ _; omega) | (change (_ : Int) < _; omega) | (change (_ : Nat) * 1 ≤ _; omega) | (change (_ : Nat) * 48 ≤ _; omega) | (change (_ : Nat) * 24 ≤ _; omega) | (change (_ : Nat) * 8 ≤ _; omega) | (change (_ : Nat) * 64 ≤ _; omega) | decide)); done)); (conv => lhs; whnf); (try simp (maxSteps := 2000000) (disch := omega) only [nI64, nU64, nU32, nU8, nSubL, nAddL, nAdd, nSub, nDiv, nMod, nZ, nLit, row_3, row_5, row_16, row_22, row_28, row_46, row_48, row_108, row_115, Ty.den, dflt_it, dflt_li, dflt_kv, Int.toNat_natCast, List.take_length, List.drop_zero]))
          exact bo_f (p := _ :: _ = _ :: _) fun h => h2 (congrArg (fun x : KV => x.2.1) (List.cons.inj h).1)
      · refine br_go (tst_t (by simpa using h1)) ?_
        conv => lhs; whnf
        try simp (maxSteps := 2000000) (disch := omega) only [nI64, nU64, nU32, nU8, nSubL, nAddL, nAdd, nSub, nDiv, nMod, nZ, nLit, row_3, row_5, row_16, row_22, row_28, row_46, row_48, row_108, row_115, Ty.den, dflt_it, dflt_li, dflt_kv, Int.toNat_natCast, List.take_length, List.drop_zero]
        repeat (refine br_go ?_ ?_; (focus (((repeat' first | exact rfl | exact ordB_st rfl | exact ordB_of rfl | apply band | apply tst_t | apply nt_t)  <;> (try dsimp only [Ty.den, dflt_kv]) <;> (try simp only [List.length_append, List.length_cons, List.length_nil, List.length_take, List.length_drop, List.length_replicate]) <;> (first | trivial | assumption | omega | (change (_ : Int) ≤ _; omega) | (change (_ : Int) < _; omega) | (change (_ : Nat) * 1 ≤ _; omega) | (change (_ : Nat) * 48 ≤ _; omega) | (change (_ : Nat) * 24 ≤ _; omega) | (change (_ : Nat) * 8 ≤ _; omega) | (change (_ : Nat) * 64 ≤ _; omega) | decide)); done)); (conv => lhs; whnf); (try simp (maxSteps := 2000000) (disch := omega) only [nI64, nU64, nU32, nU8, nSubL, nAddL, nAdd, nSub, nDiv, nMod, nZ, nLit, row_3, row_5, row_16, row_22, row_28, row_46, row_48, row_108, row_115, Ty.den, dflt_it, dflt_li, dflt_kv, Int.toNat_natCast, List.take_length, List.drop_zero]))
        exact bo_f (p := _ :: _ = _ :: _) fun h => h1 (congrArg (fun x : KV => x.1) (List.cons.inj h).1)
    · refine br_no (tst_f (by omega)) ?_
      conv => lhs; whnf
      try simp (maxSteps := 2000000) (disch := omega) only [nI64, nU64, nU32, nU8, nSubL, nAddL, nAdd, nSub, nDiv, nMod, nZ, nLit, row_3, row_5, row_16, row_22, row_28, row_46, row_48, row_108, row_115, Ty.den, dflt_it, dflt_li, dflt_kv, Int.toNat_natCast, List.take_length, List.drop_zero]
      exact bo_t (by rw [List.drop_eq_nil_of_le (by omega : a.length ≤ i), List.drop_eq_nil_of_le (by omega : b.length ≤ i)])
  · refine br_go (tst_t (by omega)) ?_
    conv => lhs; whnf
    try simp (maxSteps := 2000000) (disch := omega) only [nI64, nU64, nU32, nU8, nSubL, nAddL, nAdd, nSub, nDiv, nMod, nZ, nLit, row_3, row_5, row_16, row_22, row_28, row_46, row_48, row_108, row_115, Ty.den, dflt_it, dflt_li, dflt_kv, Int.toNat_natCast, List.take_length, List.drop_zero]
    exact bo_f (fun h => hl (by rw [h]))
abbrev copyC : Ctx := ⟨rows, (fun | 0 => ([0, 3, 4], [3]) | 1 => ([], [0, 3, 4]) | _ => ([], []))⟩
theorem copy_ok (T : Tab) : copySp.Ok T copyC F12 := by
  rintro ⟨(l : List KV), _⟩ hf hp
  have hf1 : Fits kvl l := hf.1
  have hl : l.length ≤ 140737488355328 := (fits_kvl.1 hf1).1
  have hp : l.length ≤ 1048576 := tst_iff.1 hp
  obtain ⟨F, hF⟩ : ∃ F : Nat, F = l.length + 1 := ⟨_, rfl⟩
  refine ⟨F, 0, ?_⟩
  show evFn _ _ _ _ _ [vK l] [] _ = some (.own 0 kv l : V)
  conv => lhs; whnf
  try simp (maxSteps := 2000000) (disch := omega) only [nI64, nU64, nU32, nU8, nSubL, nAddL, nAdd, nSub, nDiv, nMod, nZ, nLit, row_3, row_5, row_16, row_22, row_28, row_46, row_48, row_108, row_115, Ty.den, dflt_it, dflt_li, dflt_kv, Int.toNat_natCast, List.take_length, List.drop_zero]
  refine loop_rule (α := Nat) (fun i => i ≤ l.length) (fun i => l.length - i)
    (fun i => (vK l :: V.bad :: V.bad :: V.own 1 kv (l.take i) :: vI i :: V.bad :: V.bad :: V.bad :: V.bad :: V.bad :: V.bad :: V.bad :: V.bad :: V.bad :: V.bad :: V.bad :: V.bad :: V.bad :: V.bad :: V.bad :: V.bad :: V.bad :: V.bad :: V.bad :: V.bad :: V.bad :: V.bad :: V.bad :: [])) (fun i => [.fam 0, .fam (List.length (l.take i))])
    (fun i => some (V.own 0 kv l)) ?_ F 0 (by omega) (by omega)
  rintro i K h1 hK
  conv => lhs; whnf
  try simp (maxSteps := 2000000) (disch := omega) only [nI64, nU64, nU32, nU8, nSubL, nAddL, nAdd, nSub, nDiv, nMod, nZ, nLit, row_3, row_5, row_16, row_22, row_28, row_46, row_48, row_108, row_115, Ty.den, dflt_it, dflt_li, dflt_kv, Int.toNat_natCast, List.take_length, List.drop_zero]
  by_cases hi : i < l.length
  · refine br_go (tst_t (by omega)) ?_
    conv => lhs; whnf
    try simp (maxSteps := 2000000) (disch := omega) only [nI64, nU64, nU32, nU8, nSubL, nAddL, nAdd, nSub, nDiv, nMod, nZ, nLit, row_3, row_5, row_16, row_22, row_28, row_46, row_48, row_108, row_115, Ty.den, dflt_it, dflt_li, dflt_kv, Int.toNat_natCast, List.take_length, List.drop_zero]
    have hk := getD_kv hf1 hi
    repeat (refine br_go ?_ ?_; (focus (((repeat' first | exact rfl | exact ordB_st rfl | exact ordB_of rfl | apply band | apply tst_t | apply nt_t)  <;> (try dsimp only [Ty.den, dflt_kv]) <;> (try simp only [List.length_append, List.length_cons, List.length_nil, List.length_take, List.length_drop, List.length_replicate]) <;> (first | trivial | assumption | omega | (change (_ : Int) ≤ _; omega) | (change (_ : Int) < _; omega) | (change (_ : Nat) * 1 ≤ _; omega) | (change (_ : Nat) * 48 ≤ _; omega) | (change (_ : Nat) * 24 ≤ _; omega) | (change (_ : Nat) * 8 ≤ _; omega) | (change (_ : Nat) * 64 ≤ _; omega) | decide)); done)); (conv => lhs; whnf); (try simp (maxSteps := 2000000) (disch := omega) only [nI64, nU64, nU32, nU8, nSubL, nAddL, nAdd, nSub, nDiv, nMod, nZ, nLit, row_3, row_5, row_16, row_22, row_28, row_46, row_48, row_108, row_115, Ty.den, dflt_it, dflt_li, dflt_kv, Int.toNat_natCast, List.take_length, List.drop_zero]))
    have et : l.take (i + 1) = l.take i ++ [l.getD i kvd] := take_at hi
    have := hK (i + 1) (by omega) (by omega)
    rw [et] at this
    refine Eq.trans ?_ this
    rfl
  · refine br_no (tst_f (by omega)) ?_
    conv => lhs; whnf
    try simp (maxSteps := 2000000) (disch := omega) only [nI64, nU64, nU32, nU8, nSubL, nAddL, nAdd, nSub, nDiv, nMod, nZ, nLit, row_3, row_5, row_16, row_22, row_28, row_46, row_48, row_108, row_115, Ty.den, dflt_it, dflt_li, dflt_kv, Int.toNat_natCast, List.take_length, List.drop_zero]
    repeat (refine br_go ?_ ?_; (focus (((repeat' first | exact rfl | exact ordB_st rfl | exact ordB_of rfl | apply band | apply tst_t | apply nt_t)  <;> (try dsimp only [Ty.den, dflt_kv]) <;> (try simp only [List.length_append, List.length_cons, List.length_nil, List.length_take, List.length_drop, List.length_replicate]) <;> (first | trivial | assumption | omega | (change (_ : Int) ≤ _; omega) | (change (_ : Int) < _; omega) | (change (_ : Nat) * 1 ≤ _; omega) | (change (_ : Nat) * 48 ≤ _; omega) | (change (_ : Nat) * 24 ≤ _; omega) | (change (_ : Nat) * 8 ≤ _; omega) | (change (_ : Nat) * 64 ≤ _; omega) | decide)); done)); (conv => lhs; whnf); (try simp (maxSteps := 2000000) (disch := omega) only [nI64, nU64, nU32, nU8, nSubL, nAddL, nAdd, nSub, nDiv, nMod, nZ, nLit, row_3, row_5, row_16, row_22, row_28, row_46, row_48, row_108, row_115, Ty.den, dflt_it, dflt_li, dflt_kv, Int.toNat_natCast, List.take_length, List.drop_zero]))
    have : l.take i = l := List.take_of_length_le (by omega)
    rw [this]
end Go.Proofs.Ytkdajonmfiipkaa.Ev
/- Tables: plans, sums, pieces: by the program and by the document. -/
namespace Go.Proofs.Ytkdajonmfiipkaa.Ev
open Go Go.RowKit
set_option linter.unusedVariables false
set_option linter.unusedSimpArgs false
set_option maxRecDepth 100000
set_option maxHeartbeats 8000000
abbrev planT : Ty := .co i64 (.co i64 (.co i64 (.co i64 .ue)))
noncomputable section
def checkSp : Sp := ⟨[planT], fun _ => true, fun x => vI (if planOK x.1.1 x.1.2.1 x.1.2.2.1 x.1.2.2.2.1 then 0 else 82)⟩
def sum4Sp : Sp := ⟨[byl], fun x => tst (List.length x.1 ≤ 1105199104), fun x => .own 0 by8 (sum4 x.1)⟩
def userSp : Sp := ⟨[byl], fun _ => true, fun x => .own 0 by8 (split x.1).1⟩
def ruserSp : Sp := ⟨[byl], fun x => tst (8 ≤ List.length x.1), fun x => .d byl (List.take (List.length x.1 - 8) x.1)⟩
def piecesSp : Sp := ⟨[kvl, i64], fun x => tst (few7 x.1) && tst (1 ≤ x.2.1), fun x => .own 0 kvl (pcs (Int.toNat x.2.1) [] 0 x.1)⟩
def magicSp : Sp := ⟨[], fun _ => true, fun _ => .own 0 by8 magicL⟩
def rsummedSp : Sp := ⟨[byl], fun _ => true, fun x => .own 0 by8 (fixedL (sumS x.1) 4)⟩
end
abbrev tcheckC : Ctx := ⟨rows, (fun  | _ => ([], []))⟩
theorem tcheck_ok (T : Tab) (h1 : T 47 = none) : checkSp.Ok T tcheckC F17 := by
  rw [off_top h1]
  rintro ⟨⟨(b : Int), (r : Int), (i : Int), (t : Int), u⟩, _⟩ hf _
  cases u
  obtain ⟨F, hF⟩ : ∃ F : Nat, F = 5 := ⟨_, rfl⟩
  refine ⟨F, 2, ?_⟩
  show evFn _ _ _ _ _ [.d planT (b, r, i, t, ())] [] _ = some (vI (if planOK b r i t then 0 else 82) : V)
  conv => lhs; whnf
  try simp (maxSteps := 2000000) (disch := omega) only [nI64, nU64, nU32, nU8, nSubL, nAddL, nAdd, nSub, nDiv, nMod, nZ, nLit, row_3, row_5, row_16, row_22, row_28, row_46, row_48, row_108, row_115, Ty.den, dflt_it, dflt_li, dflt_kv, Int.toNat_natCast, List.take_length, List.drop_zero]
  have b1 : (!true) = false := rfl
  have b2 : (!false) = true := rfl
  by_cases q0 : b ≥ 16
  · try simp (maxSteps := 2000000) (disch := omega) only [nI64, nU64, nU32, nU8, nSubL, nAddL, nAdd, nSub, nDiv, nMod, nZ, nLit, row_3, row_5, row_16, row_22, row_28, row_46, row_48, row_108, row_115, Ty.den, dflt_it, dflt_li, dflt_kv, Int.toNat_natCast, List.take_length, List.drop_zero, tst_t q0]
    conv => lhs; whnf
    try simp (maxSteps := 2000000) (disch := omega) only [nI64, nU64, nU32, nU8, nSubL, nAddL, nAdd, nSub, nDiv, nMod, nZ, nLit, row_3, row_5, row_16, row_22, row_28, row_46, row_48, row_108, row_115, Ty.den, dflt_it, dflt_li, dflt_kv, Int.toNat_natCast, List.take_length, List.drop_zero]
    by_cases q0 : b ≤ 65536
    · try simp (maxSteps := 2000000) (disch := omega) only [nI64, nU64, nU32, nU8, nSubL, nAddL, nAdd, nSub, nDiv, nMod, nZ, nLit, row_3, row_5, row_16, row_22, row_28, row_46, row_48, row_108, row_115, Ty.den, dflt_it, dflt_li, dflt_kv, Int.toNat_natCast, List.take_length, List.drop_zero, tst_t q0]
      conv => lhs; whnf
      try simp (maxSteps := 2000000) (disch := omega) only [nI64, nU64, nU32, nU8, nSubL, nAddL, nAdd, nSub, nDiv, nMod, nZ, nLit, row_3, row_5, row_16, row_22, row_28, row_46, row_48, row_108, row_115, Ty.den, dflt_it, dflt_li, dflt_kv, Int.toNat_natCast, List.take_length, List.drop_zero]
      by_cases q0 : r ≥ 1
      · try simp (maxSteps := 2000000) (disch := omega) only [nI64, nU64, nU32, nU8, nSubL, nAddL, nAdd, nSub, nDiv, nMod, nZ, nLit, row_3, row_5, row_16, row_22, row_28, row_46, row_48, row_108, row_115, Ty.den, dflt_it, dflt_li, dflt_kv, Int.toNat_natCast, List.take_length, List.drop_zero, tst_t q0]
        conv => lhs; whnf
        try simp (maxSteps := 2000000) (disch := omega) only [nI64, nU64, nU32, nU8, nSubL, nAddL, nAdd, nSub, nDiv, nMod, nZ, nLit, row_3, row_5, row_16, row_22, row_28, row_46, row_48, row_108, row_115, Ty.den, dflt_it, dflt_li, dflt_kv, Int.toNat_natCast, List.take_length, List.drop_zero]
        by_cases q0 : r ≤ 64
        · try simp (maxSteps := 2000000) (disch := omega) only [nI64, nU64, nU32, nU8, nSubL, nAddL, nAdd, nSub, nDiv, nMod, nZ, nLit, row_3, row_5, row_16, row_22, row_28, row_46, row_48, row_108, row_115, Ty.den, dflt_it, dflt_li, dflt_kv, Int.toNat_natCast, List.take_length, List.drop_zero, tst_t q0]
          conv => lhs; whnf
          try simp (maxSteps := 2000000) (disch := omega) only [nI64, nU64, nU32, nU8, nSubL, nAddL, nAdd, nSub, nDiv, nMod, nZ, nLit, row_3, row_5, row_16, row_22, row_28, row_46, row_48, row_108, row_115, Ty.den, dflt_it, dflt_li, dflt_kv, Int.toNat_natCast, List.take_length, List.drop_zero]
          by_cases q0 : i ≥ 1
          · try simp (maxSteps := 2000000) (disch := omega) only [nI64, nU64, nU32, nU8, nSubL, nAddL, nAdd, nSub, nDiv, nMod, nZ, nLit, row_3, row_5, row_16, row_22, row_28, row_46, row_48, row_108, row_115, Ty.den, dflt_it, dflt_li, dflt_kv, Int.toNat_natCast, List.take_length, List.drop_zero, tst_t q0]
            conv => lhs; whnf
            try simp (maxSteps := 2000000) (disch := omega) only [nI64, nU64, nU32, nU8, nSubL, nAddL, nAdd, nSub, nDiv, nMod, nZ, nLit, row_3, row_5, row_16, row_22, row_28, row_46, row_48, row_108, row_115, Ty.den, dflt_it, dflt_li, dflt_kv, Int.toNat_natCast, List.take_length, List.drop_zero]
            by_cases q0 : i ≤ 64
            · try simp (maxSteps := 2000000) (disch := omega) only [nI64, nU64, nU32, nU8, nSubL, nAddL, nAdd, nSub, nDiv, nMod, nZ, nLit, row_3, row_5, row_16, row_22, row_28, row_46, row_48, row_108, row_115, Ty.den, dflt_it, dflt_li, dflt_kv, Int.toNat_natCast, List.take_length, List.drop_zero, tst_t q0]
              conv => lhs; whnf
              try simp (maxSteps := 2000000) (disch := omega) only [nI64, nU64, nU32, nU8, nSubL, nAddL, nAdd, nSub, nDiv, nMod, nZ, nLit, row_3, row_5, row_16, row_22, row_28, row_46, row_48, row_108, row_115, Ty.den, dflt_it, dflt_li, dflt_kv, Int.toNat_natCast, List.take_length, List.drop_zero]
              by_cases q0 : t ≥ 16
              · try simp (maxSteps := 2000000) (disch := omega) only [nI64, nU64, nU32, nU8, nSubL, nAddL, nAdd, nSub, nDiv, nMod, nZ, nLit, row_3, row_5, row_16, row_22, row_28, row_46, row_48, row_108, row_115, Ty.den, dflt_it, dflt_li, dflt_kv, Int.toNat_natCast, List.take_length, List.drop_zero, tst_t q0]
                conv => lhs; whnf
                try simp (maxSteps := 2000000) (disch := omega) only [nI64, nU64, nU32, nU8, nSubL, nAddL, nAdd, nSub, nDiv, nMod, nZ, nLit, row_3, row_5, row_16, row_22, row_28, row_46, row_48, row_108, row_115, Ty.den, dflt_it, dflt_li, dflt_kv, Int.toNat_natCast, List.take_length, List.drop_zero]
                by_cases q0 : t ≤ 4194304
                · try simp (maxSteps := 2000000) (disch := omega) only [nI64, nU64, nU32, nU8, nSubL, nAddL, nAdd, nSub, nDiv, nMod, nZ, nLit, row_3, row_5, row_16, row_22, row_28, row_46, row_48, row_108, row_115, Ty.den, dflt_it, dflt_li, dflt_kv, Int.toNat_natCast, List.take_length, List.drop_zero, tst_t q0]
                  conv => lhs; whnf
                  try simp (maxSteps := 2000000) (disch := omega) only [nI64, nU64, nU32, nU8, nSubL, nAddL, nAdd, nSub, nDiv, nMod, nZ, nLit, row_3, row_5, row_16, row_22, row_28, row_46, row_48, row_108, row_115, Ty.den, dflt_it, dflt_li, dflt_kv, Int.toNat_natCast, List.take_length, List.drop_zero]
                  repeat (refine br_go ?_ ?_; (focus (((repeat' first | exact rfl | exact ordB_st rfl | exact ordB_of rfl | apply band | apply tst_t | apply nt_t)  <;> (try dsimp only [Ty.den, dflt_kv]) <;> (try simp only [List.length_append, List.length_cons, List.length_nil, List.length_take, List.length_drop, List.length_replicate]) <;> (first | trivial | assumption | omega | (change (_ : Int) ≤ _; omega) | (change (_ : Int) < _; omega) | (change (_ : Nat) * 1 ≤ _; omega) | (change (_ : Nat) * 48 ≤ _; omega) | (change (_ : Nat) * 24 ≤ _; omega) | (change (_ : Nat) * 8 ≤ _; omega) | (change (_ : Nat) * 64 ≤ _; omega) | decide)); done)); (conv => lhs; whnf); (try simp (maxSteps := 2000000) (disch := omega) only [nI64, nU64, nU32, nU8, nSubL, nAddL, nAdd, nSub, nDiv, nMod, nZ, nLit, row_3, row_5, row_16, row_22, row_28, row_46, row_48, row_108, row_115, Ty.den, dflt_it, dflt_li, dflt_kv, Int.toNat_natCast, List.take_length, List.drop_zero]))
                  try simp (maxSteps := 2000000) (disch := omega) only [nI64, nU64, nU32, nU8, nSubL, nAddL, nAdd, nSub, nDiv, nMod, nZ, nLit, row_3, row_5, row_16, row_22, row_28, row_46, row_48, row_108, row_115, Ty.den, dflt_it, dflt_li, dflt_kv, Int.toNat_natCast, List.take_length, List.drop_zero, b1, b2]
                  conv => lhs; whnf
                  try simp (maxSteps := 2000000) (disch := omega) only [nI64, nU64, nU32, nU8, nSubL, nAddL, nAdd, nSub, nDiv, nMod, nZ, nLit, row_3, row_5, row_16, row_22, row_28, row_46, row_48, row_108, row_115, Ty.den, dflt_it, dflt_li, dflt_kv, Int.toNat_natCast, List.take_length, List.drop_zero]
                  repeat (refine br_go ?_ ?_; (focus (((repeat' first | exact rfl | exact ordB_st rfl | exact ordB_of rfl | apply band | apply tst_t | apply nt_t)  <;> (try dsimp only [Ty.den, dflt_kv]) <;> (try simp only [List.length_append, List.length_cons, List.length_nil, List.length_take, List.length_drop, List.length_replicate]) <;> (first | trivial | assumption | omega | (change (_ : Int) ≤ _; omega) | (change (_ : Int) < _; omega) | (change (_ : Nat) * 1 ≤ _; omega) | (change (_ : Nat) * 48 ≤ _; omega) | (change (_ : Nat) * 24 ≤ _; omega) | (change (_ : Nat) * 8 ≤ _; omega) | (change (_ : Nat) * 64 ≤ _; omega) | decide)); done)); (conv => lhs; whnf); (try simp (maxSteps := 2000000) (disch := omega) only [nI64, nU64, nU32, nU8, nSubL, nAddL, nAdd, nSub, nDiv, nMod, nZ, nLit, row_3, row_5, row_16, row_22, row_28, row_46, row_48, row_108, row_115, Ty.den, dflt_it, dflt_li, dflt_kv, Int.toNat_natCast, List.take_length, List.drop_zero]))
                  rw [if_pos (by unfold planOK; omega)]
                · try simp (maxSteps := 2000000) (disch := omega) only [nI64, nU64, nU32, nU8, nSubL, nAddL, nAdd, nSub, nDiv, nMod, nZ, nLit, row_3, row_5, row_16, row_22, row_28, row_46, row_48, row_108, row_115, Ty.den, dflt_it, dflt_li, dflt_kv, Int.toNat_natCast, List.take_length, List.drop_zero, tst_f q0]
                  conv => lhs; whnf
                  try simp (maxSteps := 2000000) (disch := omega) only [nI64, nU64, nU32, nU8, nSubL, nAddL, nAdd, nSub, nDiv, nMod, nZ, nLit, row_3, row_5, row_16, row_22, row_28, row_46, row_48, row_108, row_115, Ty.den, dflt_it, dflt_li, dflt_kv, Int.toNat_natCast, List.take_length, List.drop_zero]
                  repeat (refine br_go ?_ ?_; (focus (((repeat' first | exact rfl | exact ordB_st rfl | exact ordB_of rfl | apply band | apply tst_t | apply nt_t)  <;> (try dsimp only [Ty.den, dflt_kv]) <;> (try simp only [List.length_append, List.length_cons, List.length_nil, List.length_take, List.length_drop, List.length_replicate]) <;> (first | trivial | assumption | omega | (change (_ : Int) ≤ _; omega) | (change (_ : Int) < _; omega) | (change (_ : Nat) * 1 ≤ _; omega) | (change (_ : Nat) * 48 ≤ _; omega) | (change (_ : Nat) * 24 ≤ _; omega) | (change (_ : Nat) * 8 ≤ _; omega) | (change (_ : Nat) * 64 ≤ _; omega) | decide)); done)); (conv => lhs; whnf); (try simp (maxSteps := 2000000) (disch := omega) only [nI64, nU64, nU32, nU8, nSubL, nAddL, nAdd, nSub, nDiv, nMod, nZ, nLit, row_3, row_5, row_16, row_22, row_28, row_46, row_48, row_108, row_115, Ty.den, dflt_it, dflt_li, dflt_kv, Int.toNat_natCast, List.take_length, List.drop_zero]))
                  try simp (maxSteps := 2000000) (disch := omega) only [nI64, nU64, nU32, nU8, nSubL, nAddL, nAdd, nSub, nDiv, nMod, nZ, nLit, row_3, row_5, row_16, row_22, row_28, row_46, row_48, row_108, row_115, Ty.den, dflt_it, dflt_li, dflt_kv, Int.toNat_natCast, List.take_length, List.drop_zero, b1, b2]
                  conv => lhs; whnf
                  try simp (maxSteps := 2000000) (disch := omega) only [nI64, nU64, nU32, nU8, nSubL, nAddL, nAdd, nSub, nDiv, nMod, nZ, nLit, row_3, row_5, row_16, row_22, row_28, row_46, row_48, row_108, row_115, Ty.den, dflt_it, dflt_li, dflt_kv, Int.toNat_natCast, List.take_length, List.drop_zero]
                  repeat (refine br_go ?_ ?_; (focus (((repeat' first | exact rfl | exact ordB_st rfl | exact ordB_of rfl | apply band | apply tst_t | apply nt_t)  <;> (try dsimp only [Ty.den, dflt_kv]) <;> (try simp only [List.length_append, List.length_cons, List.length_nil, List.length_take, List.length_drop, List.length_replicate]) <;> (first | trivial | assumption | omega | (change (_ : Int) ≤ _; omega) | (change (_ : Int) < _; omega) | (change (_ : Nat) * 1 ≤ _; omega) | (change (_ : Nat) * 48 ≤ _; omega) | (change (_ : Nat) * 24 ≤ _; omega) | (change (_ : Nat) * 8 ≤ _; omega) | (change (_ : Nat) * 64 ≤ _; omega) | decide)); done)); (conv => lhs; whnf); (try simp (maxSteps := 2000000) (disch := omega) only [nI64, nU64, nU32, nU8, nSubL, nAddL, nAdd, nSub, nDiv, nMod, nZ, nLit, row_3, row_5, row_16, row_22, row_28, row_46, row_48, row_108, row_115, Ty.den, dflt_it, dflt_li, dflt_kv, Int.toNat_natCast, List.take_length, List.drop_zero]))
                  rw [if_neg (fun hp => by unfold planOK at hp; omega)]
              · try simp (maxSteps := 2000000) (disch := omega) only [nI64, nU64, nU32, nU8, nSubL, nAddL, nAdd, nSub, nDiv, nMod, nZ, nLit, row_3, row_5, row_16, row_22, row_28, row_46, row_48, row_108, row_115, Ty.den, dflt_it, dflt_li, dflt_kv, Int.toNat_natCast, List.take_length, List.drop_zero, tst_f q0]
                conv => lhs; whnf
                try simp (maxSteps := 2000000) (disch := omega) only [nI64, nU64, nU32, nU8, nSubL, nAddL, nAdd, nSub, nDiv, nMod, nZ, nLit, row_3, row_5, row_16, row_22, row_28, row_46, row_48, row_108, row_115, Ty.den, dflt_it, dflt_li, dflt_kv, Int.toNat_natCast, List.take_length, List.drop_zero]
                repeat (refine br_go ?_ ?_; (focus (((repeat' first | exact rfl | exact ordB_st rfl | exact ordB_of rfl | apply band | apply tst_t | apply nt_t)  <;> (try dsimp only [Ty.den, dflt_kv]) <;> (try simp only [List.length_append, List.length_cons, List.length_nil, List.length_take, List.length_drop, List.length_replicate]) <;> (first | trivial | assumption | omega | (change (_ : Int) ≤ _; omega) | (change (_ : Int) < _; omega) | (change (_ : Nat) * 1 ≤ _; omega) | (change (_ : Nat) * 48 ≤ _; omega) | (change (_ : Nat) * 24 ≤ _; omega) | (change (_ : Nat) * 8 ≤ _; omega) | (change (_ : Nat) * 64 ≤ _; omega) | decide)); done)); (conv => lhs; whnf); (try simp (maxSteps := 2000000) (disch := omega) only [nI64, nU64, nU32, nU8, nSubL, nAddL, nAdd, nSub, nDiv, nMod, nZ, nLit, row_3, row_5, row_16, row_22, row_28, row_46, row_48, row_108, row_115, Ty.den, dflt_it, dflt_li, dflt_kv, Int.toNat_natCast, List.take_length, List.drop_zero]))
                try simp (maxSteps := 2000000) (disch := omega) only [nI64, nU64, nU32, nU8, nSubL, nAddL, nAdd, nSub, nDiv, nMod, nZ, nLit, row_3, row_5, row_16, row_22, row_28, row_46, row_48, row_108, row_115, Ty.den, dflt_it, dflt_li, dflt_kv, Int.toNat_natCast, List.take_length, List.drop_zero, b1, b2]
                conv => lhs; whnf
                try simp (maxSteps := 2000000) (disch := omega) only [nI64, nU64, nU32, nU8, nSubL, nAddL, nAdd, nSub, nDiv, nMod, nZ, nLit, row_3, row_5, row_16, row_22, row_28, row_46, row_48, row_108, row_115, Ty.den, dflt_it, dflt_li, dflt_kv, Int.toNat_natCast, List.take_length, List.drop_zero]
                repeat (refine br_go ?_ ?_; (focus (((repeat' first | exact rfl | exact ordB_st rfl | exact ordB_of rfl | apply band | apply tst_t | apply nt_t)  <;> (try dsimp only [Ty.den, dflt_kv]) <;> (try simp only [List.length_append, List.length_cons, List.length_nil, List.length_take, List.length_drop, List.length_replicate]) <;> (first | trivial | assumption | omega | (change (_ : Int) ≤ _; omega) | (change (_ : Int) < _; omega) | (change (_ : Nat) * 1 ≤ _; omega) | (change (_ : Nat) * 48 ≤ _; omega) | (change (_ : Nat) * 24 ≤ _; omega) | (change (_ : Nat) * 8 ≤ _; omega) | (change (_ : Nat) * 64 ≤ _; omega) | decide)); done)); (conv => lhs; whnf); (try simp (maxSteps := 2000000) (disch := omega) only [nI64, nU64, nU32, nU8, nSubL, nAddL, nAdd, nSub, nDiv, nMod, nZ, nLit, row_3, row_5, row_16, row_22, row_28, row_46, row_48, row_108, row_115, Ty.den, dflt_it, dflt_li, dflt_kv, Int.toNat_natCast, List.take_length, List.drop_zero]))
                rw [if_neg (fun hp => by unfold planOK at hp; omega)]
            · try simp (maxSteps := 2000000) (disch := omega) only [nI64, nU64, nU32, nU8, nSubL, nAddL, nAdd, nSub, nDiv, nMod, nZ, nLit, row_3, row_5, row_16, row_22, row_28, row_46, row_48, row_108, row_115, Ty.den, dflt_it, dflt_li, dflt_kv, Int.toNat_natCast, List.take_length, List.drop_zero, tst_f q0]
              conv => lhs; whnf
              try simp (maxSteps := 2000000) (disch := omega) only [nI64, nU64, nU32, nU8, nSubL, nAddL, nAdd, nSub, nDiv, nMod, nZ, nLit, row_3, row_5, row_16, row_22, row_28, row_46, row_48, row_108, row_115, Ty.den, dflt_it, dflt_li, dflt_kv, Int.toNat_natCast, List.take_length, List.drop_zero]
              repeat (refine br_go ?_ ?_; (focus (((repeat' first | exact rfl | exact ordB_st rfl | exact ordB_of rfl | apply band | apply tst_t | apply nt_t)  <;> (try dsimp only [Ty.den, dflt_kv]) <;> (try simp only [List.length_append, List.length_cons, List.length_nil, List.length_take, List.length_drop, List.length_replicate]) <;> (first | trivial | assumption | omega | (change (_ : Int) ≤ _; omega) | (change (_ : Int) < _; omega) | (change (_ : Nat) * 1 ≤ _; omega) | (change (_ : Nat) * 48 ≤ _; omega) | (change (_ : Nat) * 24 ≤ _; omega) | (change (_ : Nat) * 8 ≤ _; omega) | (change (_ : Nat) * 64 ≤ _; omega) | decide)); done)); (conv => lhs; whnf); (try simp (maxSteps := 2000000) (disch := omega) only [nI64, nU64, nU32, nU8, nSubL, nAddL, nAdd, nSub, nDiv, nMod, nZ, nLit, row_3, row_5, row_16, row_22, row_28, row_46, row_48, row_108, row_115, Ty.den, dflt_it, dflt_li, dflt_kv, Int.toNat_natCast, List.take_length, List.drop_zero]))
              try simp (maxSteps := 2000000) (disch := omega) only [nI64, nU64, nU32, nU8, nSubL, nAddL, nAdd, nSub, nDiv, nMod, nZ, nLit, row_3, row_5, row_16, row_22, row_28, row_46, row_48, row_108, row_115, Ty.den, dflt_it, dflt_li, dflt_kv, Int.toNat_natCast, List.take_length, List.drop_zero, b1, b2]
              conv => lhs; whnf
              try simp (maxSteps := 2000000) (disch := omega) only [nI64, nU64, nU32, nU8, nSubL, nAddL, nAdd, nSub, nDiv, nMod, nZ, nLit, row_3, row_5, row_16, row_22, row_28, row_46, row_48, row_108, row_115, Ty.den, dflt_it, dflt_li, dflt_kv, Int.toNat_natCast, List.take_length, List.drop_zero]
              repeat (refine br_go ?_ ?_; (focus (((repeat' first | exact rfl | exact ordB_st rfl | exact ordB_of rfl | apply band | apply tst_t | apply nt_t)  <;> (try dsimp only [Ty.den, dflt_kv]) <;> (try simp only [List.length_append, List.length_cons, List.length_nil, List.length_take, List.length_drop, List.length_replicate]) <;> (first | trivial | assumption | omega | (change (_ : Int) ≤ _; omega) | (change (_ : Int) < _; omega) | (change (_ : Nat) * 1 ≤ _; omega) | (change (_ : Nat) * 48 ≤ _; omega) | (change (_ : Nat) * 24 ≤ _; omega) | (change (_ : Nat) * 8 ≤ _; omega) | (change (_ : Nat) * 64 ≤ _; omega) | decide)); done)); (conv => lhs; whnf); (try simp (maxSteps := 2000000) (disch := omega) only [nI64, nU64, nU32, nU8, nSubL, nAddL, nAdd, nSub, nDiv, nMod, nZ, nLit, row_3, row_5, row_16, row_22, row_28, row_46, row_48, row_108, row_115, Ty.den, dflt_it, dflt_li, dflt_kv, Int.toNat_natCast, List.take_length, List.drop_zero]))
              rw [if_neg (fun hp => by unfold planOK at hp; omega)]
          · try simp (maxSteps := 2000000) (disch := omega) only [nI64, nU64, nU32, nU8, nSubL, nAddL, nAdd, nSub, nDiv, nMod, nZ, nLit, row_3, row_5, row_16, row_22, row_28, row_46, row_48, row_108, row_115, Ty.den, dflt_it, dflt_li, dflt_kv, Int.toNat_natCast, List.take_length, List.drop_zero, tst_f q0]
            conv => lhs; whnf
            try simp (maxSteps := 2000000) (disch := omega) only [nI64, nU64, nU32, nU8, nSubL, nAddL, nAdd, nSub, nDiv, nMod, nZ, nLit, row_3, row_5, row_16, row_22, row_28, row_46, row_48, row_108, row_115, Ty.den, dflt_it, dflt_li, dflt_kv, Int.toNat_natCast, List.take_length, List.drop_zero]
            repeat (refine br_go ?_ ?_; (focus (((repeat' first | exact rfl | exact ordB_st rfl | exact ordB_of rfl | apply band | apply tst_t | apply nt_t)  <;> (try dsimp only [Ty.den, dflt_kv]) <;> (try simp only [List.length_append, List.length_cons, List.length_nil, List.length_take, List.length_drop, List.length_replicate]) <;> (first | trivial | assumption | omega | (change (_ : Int) ≤ _; omega) | (change (_ : Int) < _; omega) | (change (_ : Nat) * 1 ≤ _; omega) | (change (_ : Nat) * 48 ≤ _; omega) | (change (_ : Nat) * 24 ≤ _; omega) | (change (_ : Nat) * 8 ≤ _; omega) | (change (_ : Nat) * 64 ≤ _; omega) | decide)); done)); (conv => lhs; whnf); (try simp (maxSteps := 2000000) (disch := omega) only [nI64, nU64, nU32, nU8, nSubL, nAddL, nAdd, nSub, nDiv, nMod, nZ, nLit, row_3, row_5, row_16, row_22, row_28, row_46, row_48, row_108, row_115, Ty.den, dflt_it, dflt_li, dflt_kv, Int.toNat_natCast, List.take_length, List.drop_zero]))
            try simp (maxSteps := 2000000) (disch := omega) only [nI64, nU64, nU32, nU8, nSubL, nAddL, nAdd, nSub, nDiv, nMod, nZ, nLit, row_3, row_5, row_16, row_22, row_28, row_46, row_48, row_108, row_115, Ty.den, dflt_it, dflt_li, dflt_kv, Int.toNat_natCast, List.take_length, List.drop_zero, b1, b2]
            conv => lhs; whnf
            try simp (maxSteps := 2000000) (disch := omega) only [nI64, nU64, nU32, nU8, nSubL, nAddL, nAdd, nSub, nDiv, nMod, nZ, nLit, row_3, row_5, row_16, row_22, row_28, row_46, row_48, row_108, row_115, Ty.den, dflt_it, dflt_li, dflt_kv, Int.toNat_natCast, List.take_length, List.drop_zero]
            repeat (refine br_go ?_ ?_; (focus (((repeat' first | exact rfl | exact ordB_st rfl | exact ordB_of rfl | apply band | apply tst_t | apply nt_t)  <;> (try dsimp only [Ty.den, dflt_kv]) <;> (try simp only [List.length_append, List.length_cons, List.length_nil, List.length_take, List.length_drop, List.length_replicate]) <;> (first | trivial | assumption | omega | (change (_ : Int) ≤ _; omega) | (change (_ : Int) < _; omega) | (change (_ : Nat) * 1 ≤ _; omega) | (change (_ : Nat) * 48 ≤ _; omega) | (change (_ : Nat) * 24 ≤ _; omega) | (change (_ : Nat) * 8 ≤ _; omega) | (change (_ : Nat) * 64 ≤ _; omega) | decide)); done)); (conv => lhs; whnf); (try simp (maxSteps := 2000000) (disch := omega) only [nI64, nU64, nU32, nU8, nSubL, nAddL, nAdd, nSub, nDiv, nMod, nZ, nLit, row_3, row_5, row_16, row_22, row_28, row_46, row_48, row_108, row_115, Ty.den, dflt_it, dflt_li, dflt_kv, Int.toNat_natCast, List.take_length, List.drop_zero]))
            rw [if_neg (fun hp => by unfold planOK at hp; omega)]
        · try simp (maxSteps := 2000000) (disch := omega) only [nI64, nU64, nU32, nU8, nSubL, nAddL, nAdd, nSub, nDiv, nMod, nZ, nLit, row_3, row_5, row_16, row_22, row_28, row_46, row_48, row_108, row_115, Ty.den, dflt_it, dflt_li, dflt_kv, Int.toNat_natCast, List.take_length, List.drop_zero, tst_f q0]
          conv => lhs; whnf
          try simp (maxSteps := 2000000) (disch := omega) only [nI64, nU64, nU32, nU8, nSubL, nAddL, nAdd, nSub, nDiv, nMod, nZ, nLit, row_3, row_5, row_16, row_22, row_28, row_46, row_48, row_108, row_115, Ty.den, dflt_it, dflt_li, dflt_kv, Int.toNat_natCast, List.take_length, List.drop_zero]
          repeat (refine br_go ?_ ?_; (focus (((repeat' first | exact rfl | exact ordB_st rfl | exact ordB_of rfl | apply band | apply tst_t | apply nt_t)  <;> (try dsimp only [Ty.den, dflt_kv]) <;> (try simp only [List.length_append, List.length_cons, List.length_nil, List.length_take, List.length_drop, List.length_replicate]) <;> (first | trivial | assumption | omega | (change (_ : Int) ≤ _; omega) | (change (_ : Int) < _; omega) | (change (_ : Nat) * 1 ≤ _; omega) | (change (_ : Nat) * 48 ≤ _; omega) | (change (_ : Nat) * 24 ≤ _; omega) | (change (_ : Nat) * 8 ≤ _; omega) | (change (_ : Nat) * 64 ≤ _; omega) | decide)); done)); (conv => lhs; whnf); (try simp (maxSteps := 2000000) (disch := omega) only [nI64, nU64, nU32, nU8, nSubL, nAddL, nAdd, nSub, nDiv, nMod, nZ, nLit, row_3, row_5, row_16, row_22, row_28, row_46, row_48, row_108, row_115, Ty.den, dflt_it, dflt_li, dflt_kv, Int.toNat_natCast, List.take_length, List.drop_zero]))
          try simp (maxSteps := 2000000) (disch := omega) only [nI64, nU64, nU32, nU8, nSubL, nAddL, nAdd, nSub, nDiv, nMod, nZ, nLit, row_3, row_5, row_16, row_22, row_28, row_46, row_48, row_108, row_115, Ty.den, dflt_it, dflt_li, dflt_kv, Int.toNat_natCast, List.take_length, List.drop_zero, b1, b2]
          conv => lhs; whnf
          try simp (maxSteps := 2000000) (disch := omega) only [nI64, nU64, nU32, nU8, nSubL, nAddL, nAdd, nSub, nDiv, nMod, nZ, nLit, row_3, row_5, row_16, row_22, row_28, row_46, row_48, row_108, row_115, Ty.den, dflt_it, dflt_li, dflt_kv, Int.toNat_natCast, List.take_length, List.drop_zero]
          repeat (refine br_go ?_ ?_; (focus (((repeat' first | exact rfl | exact ordB_st rfl | exact ordB_of rfl | apply band | apply tst_t | apply nt_t)  <;> (try dsimp only [Ty.den, dflt_kv]) <;> (try simp only [List.length_append, List.length_cons, List.length_nil, List.length_take, List.length_drop, List.length_replicate]) <;> (first | trivial | assumption | omega | (change (_ : Int) ≤ _; omega) | (change (_ : Int) < _; omega) | (change (_ : Nat) * 1 ≤ _; omega) | (change (_ : Nat) * 48 ≤ _; omega) | (change (_ : Nat) * 24 ≤ _; omega) | (change (_ : Nat) * 8 ≤ _; omega) | (change (_ : Nat) * 64 ≤ _; omega) | decide)); done)); (conv => lhs; whnf); (try simp (maxSteps := 2000000) (disch := omega) only [nI64, nU64, nU32, nU8, nSubL, nAddL, nAdd, nSub, nDiv, nMod, nZ, nLit, row_3, row_5, row_16, row_22, row_28, row_46, row_48, row_108, row_115, Ty.den, dflt_it, dflt_li, dflt_kv, Int.toNat_natCast, List.take_length, List.drop_zero]))
          rw [if_neg (fun hp => by unfold planOK at hp; omega)]
      · try simp (maxSteps := 2000000) (disch := omega) only [nI64, nU64, nU32, nU8, nSubL, nAddL, nAdd, nSub, nDiv, nMod, nZ, nLit, row_3, row_5, row_16, row_22, row_28, row_46, row_48, row_108, row_115, Ty.den, dflt_it, dflt_li, dflt_kv, Int.toNat_natCast, List.take_length, List.drop_zero, tst_f q0]
        conv => lhs; whnf
        try simp (maxSteps := 2000000) (disch := omega) only [nI64, nU64, nU32, nU8, nSubL, nAddL, nAdd, nSub, nDiv, nMod, nZ, nLit, row_3, row_5, row_16, row_22, row_28, row_46, row_48, row_108, row_115, Ty.den, dflt_it, dflt_li, dflt_kv, Int.toNat_natCast, List.take_length, List.drop_zero]
        repeat (refine br_go ?_ ?_; (focus (((repeat' first | exact rfl | exact ordB_st rfl | exact ordB_of rfl | apply band | apply tst_t | apply nt_t)  <;> (try dsimp only [Ty.den, dflt_kv]) <;> (try simp only [List.length_append, List.length_cons, List.length_nil, List.length_take, List.length_drop, List.length_replicate]) <;> (first | trivial | assumption | omega | (change (_ : Int) ≤ _; omega) | (change (_ : Int) < _; omega) | (change (_ : Nat) * 1 ≤ _; omega) | (change (_ : Nat) * 48 ≤ _; omega) | (change (_ : Nat) * 24 ≤ _; omega) | (change (_ : Nat) * 8 ≤ _; omega) | (change (_ : Nat) * 64 ≤ _; omega) | decide)); done)); (conv => lhs; whnf); (try simp (maxSteps := 2000000) (disch := omega) only [nI64, nU64, nU32, nU8, nSubL, nAddL, nAdd, nSub, nDiv, nMod, nZ, nLit, row_3, row_5, row_16, row_22, row_28, row_46, row_48, row_108, row_115, Ty.den, dflt_it, dflt_li, dflt_kv, Int.toNat_natCast, List.take_length, List.drop_zero]))
        try simp (maxSteps := 2000000) (disch := omega) only [nI64, nU64, nU32, nU8, nSubL, nAddL, nAdd, nSub, nDiv, nMod, nZ, nLit, row_3, row_5, row_16, row_22, row_28, row_46, row_48, row_108, row_115, Ty.den, dflt_it, dflt_li, dflt_kv, Int.toNat_natCast, List.take_length, List.drop_zero, b1, b2]
        conv => lhs; whnf
        try simp (maxSteps := 2000000) (disch := omega) only [nI64, nU64, nU32, nU8, nSubL, nAddL, nAdd, nSub, nDiv, nMod, nZ, nLit, row_3, row_5, row_16, row_22, row_28, row_46, row_48, row_108, row_115, Ty.den, dflt_it, dflt_li, dflt_kv, Int.toNat_natCast, List.take_length, List.drop_zero]
        repeat (refine br_go ?_ ?_; (focus (((repeat' first | exact rfl | exact ordB_st rfl | exact ordB_of rfl | apply band | apply tst_t | apply nt_t)  <;> (try dsimp only [Ty.den, dflt_kv]) <;> (try simp only [List.length_append, List.length_cons, List.length_nil, List.length_take, List.length_drop, List.length_replicate]) <;> (first | trivial | assumption | omega | (change (_ : Int) ≤ _; omega) | (change (_ : Int) < _; omega) | (change (_ : Nat) * 1 ≤ _; omega) | (change (_ : Nat) * 48 ≤ _; omega) | (change (_ : Nat) * 24 ≤ _; omega) | (change (_ : Nat) * 8 ≤ _; omega) | (change (_ : Nat) * 64 ≤ _; omega) | decide)); done)); (conv => lhs; whnf); (try simp (maxSteps := 2000000) (disch := omega) only [nI64, nU64, nU32, nU8, nSubL, nAddL, nAdd, nSub, nDiv, nMod, nZ, nLit, row_3, row_5, row_16, row_22, row_28, row_46, row_48, row_108, row_115, Ty.den, dflt_it, dflt_li, dflt_kv, Int.toNat_natCast, List.take_length, List.drop_zero]))
        rw [if_neg (fun hp => by unfold planOK at hp; omega)]
    · try simp (maxSteps := 2000000) (disch := omega) only [nI64, nU64, nU32, nU8, nSubL, nAddL, nAdd, nSub, nDiv, nMod, nZ, nLit, row_3, row_5, row_16, row_22, row_28, row_46, row_48, row_108, row_115, Ty.den, dflt_it, dflt_li, dflt_kv, Int.toNat_natCast, List.take_length, List.drop_zero, tst_f q0]
      conv => lhs; whnf
      try simp (maxSteps := 2000000) (disch := omega) only [nI64, nU64, nU32, nU8, nSubL, nAddL, nAdd, nSub, nDiv, nMod, nZ, nLit, row_3, row_5, row_16, row_22, row_28, row_46, row_48, row_108, row_115, Ty.den, dflt_it, dflt_li, dflt_kv, Int.toNat_natCast, List.take_length, List.drop_zero]
      repeat (refine br_go ?_ ?_; (focus (((repeat' first | exact rfl | exact ordB_st rfl | exact ordB_of rfl | apply band | apply tst_t | apply nt_t)  <;> (try dsimp only [Ty.den, dflt_kv]) <;> (try simp only [List.length_append, List.length_cons, List.length_nil, List.length_take, List.length_drop, List.length_replicate]) <;> (first | trivial | assumption | omega | (change (_ : Int) ≤ _; omega) | (change (_ : Int) < _; omega) | (change (_ : Nat) * 1 ≤ _; omega) | (change (_ : Nat) * 48 ≤ _; omega) | (change (_ : Nat) * 24 ≤ _; omega) | (change (_ : Nat) * 8 ≤ _; omega) | (change (_ : Nat) * 64 ≤ _; omega) | decide)); done)); (conv => lhs; whnf); (try simp (maxSteps := 2000000) (disch := omega) only [nI64, nU64, nU32, nU8, nSubL, nAddL, nAdd, nSub, nDiv, nMod, nZ, nLit, row_3, row_5, row_16, row_22, row_28, row_46, row_48, row_108, row_115, Ty.den, dflt_it, dflt_li, dflt_kv, Int.toNat_natCast, List.take_length, List.drop_zero]))
      try simp (maxSteps := 2000000) (disch := omega) only [nI64, nU64, nU32, nU8, nSubL, nAddL, nAdd, nSub, nDiv, nMod, nZ, nLit, row_3, row_5, row_16, row_22, row_28, row_46, row_48, row_108, row_115, Ty.den, dflt_it, dflt_li, dflt_kv, Int.toNat_natCast, List.take_length, List.drop_zero, b1, b2]
      conv => lhs; whnf
      try simp (maxSteps := 2000000) (disch := omega) only [nI64, nU64, nU32, nU8, nSubL, nAddL, nAdd, nSub, nDiv, nMod, nZ, nLit, row_3, row_5, row_16, row_22, row_28, row_46, row_48, row_108, row_115, Ty.den, dflt_it, dflt_li, dflt_kv, Int.toNat_natCast, List.take_length, List.drop_zero]
      repeat (refine br_go ?_ ?_; (focus (((repeat' first | exact rfl | exact ordB_st rfl | exact ordB_of rfl | apply band | apply tst_t | apply nt_t)  <;> (try dsimp only [Ty.den, dflt_kv]) <;> (try simp only [List.length_append, List.length_cons, List.length_nil, List.length_take, List.length_drop, List.length_replicate]) <;> (first | trivial | assumption | omega | (change (_ : Int) ≤ _; omega) | (change (_ : Int) < _; omega) | (change (_ : Nat) * 1 ≤ _; omega) | (change (_ : Nat) * 48 ≤ _; omega) | (change (_ : Nat) * 24 ≤ _; omega) | (change (_ : Nat) * 8 ≤ _; omega) | (change (_ : Nat) * 64 ≤ _; omega) | decide)); done)); (conv => lhs; whnf); (try simp (maxSteps := 2000000) (disch := omega) only [nI64, nU64, nU32, nU8, nSubL, nAddL, nAdd, nSub, nDiv, nMod, nZ, nLit, row_3, row_5, row_16, row_22, row_28, row_46, row_48, row_108, row_115, Ty.den, dflt_it, dflt_li, dflt_kv, Int.toNat_natCast, List.take_length, List.drop_zero]))
      rw [if_neg (fun hp => by unfold planOK at hp; omega)]
  · try simp (maxSteps := 2000000) (disch := omega) only [nI64, nU64, nU32, nU8, nSubL, nAddL, nAdd, nSub, nDiv, nMod, nZ, nLit, row_3, row_5, row_16, row_22, row_28, row_46, row_48, row_108, row_115, Ty.den, dflt_it, dflt_li, dflt_kv, Int.toNat_natCast, List.take_length, List.drop_zero, tst_f q0]
    conv => lhs; whnf
    try simp (maxSteps := 2000000) (disch := omega) only [nI64, nU64, nU32, nU8, nSubL, nAddL, nAdd, nSub, nDiv, nMod, nZ, nLit, row_3, row_5, row_16, row_22, row_28, row_46, row_48, row_108, row_115, Ty.den, dflt_it, dflt_li, dflt_kv, Int.toNat_natCast, List.take_length, List.drop_zero]
    repeat (refine br_go ?_ ?_; (focus (((repeat' first | exact rfl | exact ordB_st rfl | exact ordB_of rfl | apply band | apply tst_t | apply nt_t)  <;> (try dsimp only [Ty.den, dflt_kv]) <;> (try simp only [List.length_append, List.length_cons, List.length_nil, List.length_take, List.length_drop, List.length_replicate]) <;> (first | trivial | assumption | omega | (change (_ : Int) ≤ _; omega) | (change (_ : Int) < _; omega) | (change (_ : Nat) * 1 ≤ _; omega) | (change (_ : Nat) * 48 ≤ _; omega) | (change (_ : Nat) * 24 ≤ _; omega) | (change (_ : Nat) * 8 ≤ _; omega) | (change (_ : Nat) * 64 ≤ _; omega) | decide)); done)); (conv => lhs; whnf); (try simp (maxSteps := 2000000) (disch := omega) only [nI64, nU64, nU32, nU8, nSubL, nAddL, nAdd, nSub, nDiv, nMod, nZ, nLit, row_3, row_5, row_16, row_22, row_28, row_46, row_48, row_108, row_115, Ty.den, dflt_it, dflt_li, dflt_kv, Int.toNat_natCast, List.take_length, List.drop_zero]))
    try simp (maxSteps := 2000000) (disch := omega) only [nI64, nU64, nU32, nU8, nSubL, nAddL, nAdd, nSub, nDiv, nMod, nZ, nLit, row_3, row_5, row_16, row_22, row_28, row_46, row_48, row_108, row_115, Ty.den, dflt_it, dflt_li, dflt_kv, Int.toNat_natCast, List.take_length, List.drop_zero, b1, b2]
    conv => lhs; whnf
    try simp (maxSteps := 2000000) (disch := omega) only [nI64, nU64, nU32, nU8, nSubL, nAddL, nAdd, nSub, nDiv, nMod, nZ, nLit, row_3, row_5, row_16, row_22, row_28, row_46, row_48, row_108, row_115, Ty.den, dflt_it, dflt_li, dflt_kv, Int.toNat_natCast, List.take_length, List.drop_zero]
    repeat (refine br_go ?_ ?_; (focus (((repeat' first | exact rfl | exact ordB_st rfl | exact ordB_of rfl | apply band | apply tst_t | apply nt_t)  <;> (try dsimp only [Ty.den, dflt_kv]) <;> (try simp only [List.length_append, List.length_cons, List.length_nil, List.length_take, List.length_drop, List.length_replicate]) <;> (first | trivial | assumption | omega | (change (_ : Int) ≤ _; omega) | (change (_ : Int) < _; omega) | (change (_ : Nat) * 1 ≤ _; omega) | (change (_ : Nat) * 48 ≤ _; omega) | (change (_ : Nat) * 24 ≤ _; omega) | (change (_ : Nat) * 8 ≤ _; omega) | (change (_ : Nat) * 64 ≤ _; omega) | decide)); done)); (conv => lhs; whnf); (try simp (maxSteps := 2000000) (disch := omega) only [nI64, nU64, nU32, nU8, nSubL, nAddL, nAdd, nSub, nDiv, nMod, nZ, nLit, row_3, row_5, row_16, row_22, row_28, row_46, row_48, row_108, row_115, Ty.den, dflt_it, dflt_li, dflt_kv, Int.toNat_natCast, List.take_length, List.drop_zero]))
    rw [if_neg (fun hp => by unfold planOK at hp; omega)]
abbrev rcheckC : Ctx := ⟨rows, (fun  | _ => ([], []))⟩
theorem rtcheck_ok (T : Tab) : checkSp.Ok T rcheckC F18 := by
  rintro ⟨⟨(b : Int), (r : Int), (i : Int), (t : Int), u⟩, _⟩ hf _
  cases u
  obtain ⟨F, hF⟩ : ∃ F : Nat, F = 5 := ⟨_, rfl⟩
  refine ⟨F, 2, ?_⟩
  show evFn _ _ _ _ _ [.d planT (b, r, i, t, ())] [] _ = some (vI (if planOK b r i t then 0 else 82) : V)
  conv => lhs; whnf
  try simp (maxSteps := 2000000) (disch := omega) only [nI64, nU64, nU32, nU8, nSubL, nAddL, nAdd, nSub, nDiv, nMod, nZ, nLit, row_3, row_5, row_16, row_22, row_28, row_46, row_48, row_108, row_115, Ty.den, dflt_it, dflt_li, dflt_kv, Int.toNat_natCast, List.take_length, List.drop_zero]
  have b1 : (!true) = false := rfl
  have b2 : (!false) = true := rfl
  by_cases q0 : b < 16
  · try simp (maxSteps := 2000000) (disch := omega) only [nI64, nU64, nU32, nU8, nSubL, nAddL, nAdd, nSub, nDiv, nMod, nZ, nLit, row_3, row_5, row_16, row_22, row_28, row_46, row_48, row_108, row_115, Ty.den, dflt_it, dflt_li, dflt_kv, Int.toNat_natCast, List.take_length, List.drop_zero, tst_t q0]
    conv => lhs; whnf
    try simp (maxSteps := 2000000) (disch := omega) only [nI64, nU64, nU32, nU8, nSubL, nAddL, nAdd, nSub, nDiv, nMod, nZ, nLit, row_3, row_5, row_16, row_22, row_28, row_46, row_48, row_108, row_115, Ty.den, dflt_it, dflt_li, dflt_kv, Int.toNat_natCast, List.take_length, List.drop_zero]
    repeat (refine br_go ?_ ?_; (focus (((repeat' first | exact rfl | exact ordB_st rfl | exact ordB_of rfl | apply band | apply tst_t | apply nt_t)  <;> (try dsimp only [Ty.den, dflt_kv]) <;> (try simp only [List.length_append, List.length_cons, List.length_nil, List.length_take, List.length_drop, List.length_replicate]) <;> (first | trivial | assumption | omega | (change (_ : Int) ≤ _; omega) | (change (_ : Int) < _; omega) | (change (_ : Nat) * 1 ≤ _; omega) | (change (_ : Nat) * 48 ≤ _; omega) | (change (_ : Nat) * 24 ≤ _; omega) | (change (_ : Nat) * 8 ≤ _; omega) | (change (_ : Nat) * 64 ≤ _; omega) | decide)); done)); (conv => lhs; whnf); (try simp (maxSteps := 2000000) (disch := omega) only [nI64, nU64, nU32, nU8, nSubL, nAddL, nAdd, nSub, nDiv, nMod, nZ, nLit, row_3, row_5, row_16, row_22, row_28, row_46, row_48, row_108, row_115, Ty.den, dflt_it, dflt_li, dflt_kv, Int.toNat_natCast, List.take_length, List.drop_zero]))
    try simp (maxSteps := 2000000) (disch := omega) only [nI64, nU64, nU32, nU8, nSubL, nAddL, nAdd, nSub, nDiv, nMod, nZ, nLit, row_3, row_5, row_16, row_22, row_28, row_46, row_48, row_108, row_115, Ty.den, dflt_it, dflt_li, dflt_kv, Int.toNat_natCast, List.take_length, List.drop_zero, b1, b2]
    conv => lhs; whnf
    try simp (maxSteps := 2000000) (disch := omega) only [nI64, nU64, nU32, nU8, nSubL, nAddL, nAdd, nSub, nDiv, nMod, nZ, nLit, row_3, row_5, row_16, row_22, row_28, row_46, row_48, row_108, row_115, Ty.den, dflt_it, dflt_li, dflt_kv, Int.toNat_natCast, List.take_length, List.drop_zero]
    repeat (refine br_go ?_ ?_; (focus (((repeat' first | exact rfl | exact ordB_st rfl | exact ordB_of rfl | apply band | apply tst_t | apply nt_t)  <;> (try dsimp only [Ty.den, dflt_kv]) <;> (try simp only [List.length_append, List.length_cons, List.length_nil, List.length_take, List.length_drop, List.length_replicate]) <;> (first | trivial | assumption | omega | (change (_ : Int) ≤ _; omega) | (change (_ : Int) < _; omega) | (change (_ : Nat) * 1 ≤ _; omega) | (change (_ : Nat) * 48 ≤ _; omega) | (change (_ : Nat) * 24 ≤ _; omega) | (change (_ : Nat) * 8 ≤ _; omega) | (change (_ : Nat) * 64 ≤ _; omega) | decide)); done)); (conv => lhs; whnf); (try simp (maxSteps := 2000000) (disch := omega) only [nI64, nU64, nU32, nU8, nSubL, nAddL, nAdd, nSub, nDiv, nMod, nZ, nLit, row_3, row_5, row_16, row_22, row_28, row_46, row_48, row_108, row_115, Ty.den, dflt_it, dflt_li, dflt_kv, Int.toNat_natCast, List.take_length, List.drop_zero]))
    rw [if_neg (fun hp => by unfold planOK at hp; omega)]
  · try simp (maxSteps := 2000000) (disch := omega) only [nI64, nU64, nU32, nU8, nSubL, nAddL, nAdd, nSub, nDiv, nMod, nZ, nLit, row_3, row_5, row_16, row_22, row_28, row_46, row_48, row_108, row_115, Ty.den, dflt_it, dflt_li, dflt_kv, Int.toNat_natCast, List.take_length, List.drop_zero, tst_f q0]
    conv => lhs; whnf
    try simp (maxSteps := 2000000) (disch := omega) only [nI64, nU64, nU32, nU8, nSubL, nAddL, nAdd, nSub, nDiv, nMod, nZ, nLit, row_3, row_5, row_16, row_22, row_28, row_46, row_48, row_108, row_115, Ty.den, dflt_it, dflt_li, dflt_kv, Int.toNat_natCast, List.take_length, List.drop_zero]
    by_cases q1 : b > 65536
    · try simp (maxSteps := 2000000) (disch := omega) only [nI64, nU64, nU32, nU8, nSubL, nAddL, nAdd, nSub, nDiv, nMod, nZ, nLit, row_3, row_5, row_16, row_22, row_28, row_46, row_48, row_108, row_115, Ty.den, dflt_it, dflt_li, dflt_kv, Int.toNat_natCast, List.take_length, List.drop_zero, tst_t q1]
      conv => lhs; whnf
      try simp (maxSteps := 2000000) (disch := omega) only [nI64, nU64, nU32, nU8, nSubL, nAddL, nAdd, nSub, nDiv, nMod, nZ, nLit, row_3, row_5, row_16, row_22, row_28, row_46, row_48, row_108, row_115, Ty.den, dflt_it, dflt_li, dflt_kv, Int.toNat_natCast, List.take_length, List.drop_zero]
      repeat (refine br_go ?_ ?_; (focus (((repeat' first | exact rfl | exact ordB_st rfl | exact ordB_of rfl | apply band | apply tst_t | apply nt_t)  <;> (try dsimp only [Ty.den, dflt_kv]) <;> (try simp only [List.length_append, List.length_cons, List.length_nil, List.length_take, List.length_drop, List.length_replicate]) <;> (first | trivial | assumption | omega | (change (_ : Int) ≤ _; omega) | (change (_ : Int) < _; omega) | (change (_ : Nat) * 1 ≤ _; omega) | (change (_ : Nat) * 48 ≤ _; omega) | (change (_ : Nat) * 24 ≤ _; omega) | (change (_ : Nat) * 8 ≤ _; omega) | (change (_ : Nat) * 64 ≤ _; omega) | decide)); done)); (conv => lhs; whnf); (try simp (maxSteps := 2000000) (disch := omega) only [nI64, nU64, nU32, nU8, nSubL, nAddL, nAdd, nSub, nDiv, nMod, nZ, nLit, row_3, row_5, row_16, row_22, row_28, row_46, row_48, row_108, row_115, Ty.den, dflt_it, dflt_li, dflt_kv, Int.toNat_natCast, List.take_length, List.drop_zero]))
      try simp (maxSteps := 2000000) (disch := omega) only [nI64, nU64, nU32, nU8, nSubL, nAddL, nAdd, nSub, nDiv, nMod, nZ, nLit, row_3, row_5, row_16, row_22, row_28, row_46, row_48, row_108, row_115, Ty.den, dflt_it, dflt_li, dflt_kv, Int.toNat_natCast, List.take_length, List.drop_zero, b1, b2]
      conv => lhs; whnf
      try simp (maxSteps := 2000000) (disch := omega) only [nI64, nU64, nU32, nU8, nSubL, nAddL, nAdd, nSub, nDiv, nMod, nZ, nLit, row_3, row_5, row_16, row_22, row_28, row_46, row_48, row_108, row_115, Ty.den, dflt_it, dflt_li, dflt_kv, Int.toNat_natCast, List.take_length, List.drop_zero]
      repeat (refine br_go ?_ ?_; (focus (((repeat' first | exact rfl | exact ordB_st rfl | exact ordB_of rfl | apply band | apply tst_t | apply nt_t)  <;> (try dsimp only [Ty.den, dflt_kv]) <;> (try simp only [List.length_append, List.length_cons, List.length_nil, List.length_take, List.length_drop, List.length_replicate]) <;> (first | trivial | assumption | omega | (change (_ : Int) ≤ _; omega) | (change (_ : Int) < _; omega) | (change (_ : Nat) * 1 ≤ _; omega) | (change (_ : Nat) * 48 ≤ _; omega) | (change (_ : Nat) * 24 ≤ _; omega) | (change (_ : Nat) * 8 ≤ _; omega) | (change (_ : Nat) * 64 ≤ _; omega) | decide)); done)); (conv => lhs; whnf); (try simp (maxSteps := 2000000) (disch := omega) only [nI64, nU64, nU32, nU8, nSubL, nAddL, nAdd, nSub, nDiv, nMod, nZ, nLit, row_3, row_5, row_16, row_22, row_28, row_46, row_48, row_108, row_115, Ty.den, dflt_it, dflt_li, dflt_kv, Int.toNat_natCast, List.take_length, List.drop_zero]))
      rw [if_neg (fun hp => by unfold planOK at hp; omega)]
    · try simp (maxSteps := 2000000) (disch := omega) only [nI64, nU64, nU32, nU8, nSubL, nAddL, nAdd, nSub, nDiv, nMod, nZ, nLit, row_3, row_5, row_16, row_22, row_28, row_46, row_48, row_108, row_115, Ty.den, dflt_it, dflt_li, dflt_kv, Int.toNat_natCast, List.take_length, List.drop_zero, tst_f q1]
      conv => lhs; whnf
      try simp (maxSteps := 2000000) (disch := omega) only [nI64, nU64, nU32, nU8, nSubL, nAddL, nAdd, nSub, nDiv, nMod, nZ, nLit, row_3, row_5, row_16, row_22, row_28, row_46, row_48, row_108, row_115, Ty.den, dflt_it, dflt_li, dflt_kv, Int.toNat_natCast, List.take_length, List.drop_zero]
      by_cases q2 : r < 1
      · try simp (maxSteps := 2000000) (disch := omega) only [nI64, nU64, nU32, nU8, nSubL, nAddL, nAdd, nSub, nDiv, nMod, nZ, nLit, row_3, row_5, row_16, row_22, row_28, row_46, row_48, row_108, row_115, Ty.den, dflt_it, dflt_li, dflt_kv, Int.toNat_natCast, List.take_length, List.drop_zero, tst_t q2]
        conv => lhs; whnf
        try simp (maxSteps := 2000000) (disch := omega) only [nI64, nU64, nU32, nU8, nSubL, nAddL, nAdd, nSub, nDiv, nMod, nZ, nLit, row_3, row_5, row_16, row_22, row_28, row_46, row_48, row_108, row_115, Ty.den, dflt_it, dflt_li, dflt_kv, Int.toNat_natCast, List.take_length, List.drop_zero]
        repeat (refine br_go ?_ ?_; (focus (((repeat' first | exact rfl | exact ordB_st rfl | exact ordB_of rfl | apply band | apply tst_t | apply nt_t)  <;> (try dsimp only [Ty.den, dflt_kv]) <;> (try simp only [List.length_append, List.length_cons, List.length_nil, List.length_take, List.length_drop, List.length_replicate]) <;> (first | trivial | assumption | omega | (change (_ : Int) ≤ _; omega) | (change (_ : Int) < _; omega) | (change (_ : Nat) * 1 ≤ _; omega) | (change (_ : Nat) * 48 ≤ _; omega) | (change (_ : Nat) * 24 ≤ _; omega) | (change (_ : Nat) * 8 ≤ _; omega) | (change (_ : Nat) * 64 ≤ _; omega) | decide)); done)); (conv => lhs; whnf); (try simp (maxSteps := 2000000) (disch := omega) only [nI64, nU64, nU32, nU8, nSubL, nAddL, nAdd, nSub, nDiv, nMod, nZ, nLit, row_3, row_5, row_16, row_22, row_28, row_46, row_48, row_108, row_115, Ty.den, dflt_it, dflt_li, dflt_kv, Int.toNat_natCast, List.take_length, List.drop_zero]))
        try simp (maxSteps := 2000000) (disch := omega) only [nI64, nU64, nU32, nU8, nSubL, nAddL, nAdd, nSub, nDiv, nMod, nZ, nLit, row_3, row_5, row_16, row_22, row_28, row_46, row_48, row_108, row_115, Ty.den, dflt_it, dflt_li, dflt_kv, Int.toNat_natCast, List.take_length, List.drop_zero, b1, b2]
        conv => lhs; whnf
        try simp (maxSteps := 2000000) (disch := omega) only [nI64, nU64, nU32, nU8, nSubL, nAddL, nAdd, nSub, nDiv, nMod, nZ, nLit, row_3, row_5, row_16, row_22, row_28, row_46, row_48, row_108, row_115, Ty.den, dflt_it, dflt_li, dflt_kv, Int.toNat_natCast, List.take_length, List.drop_zero]
        repeat (refine br_go ?_ ?_; (focus (((repeat' first | exact rfl | exact ordB_st rfl | exact ordB_of rfl | apply band | apply tst_t | apply nt_t)  <;> (try dsimp only [Ty.den, dflt_kv]) <;> (try simp only [List.length_append, List.length_cons, List.length_nil, List.length_take, List.length_drop, List.length_replicate]) <;> (first | trivial | assumption | omega | (change (_ : Int) ≤ _; omega) | (change (_ : Int) < _; omega) | (change (_ : Nat) * 1 ≤ _; omega) | (change (_ : Nat) * 48 ≤ _; omega) | (change (_ : Nat) * 24 ≤ _; omega) | (change (_ : Nat) * 8 ≤ _; omega) | (change (_ : Nat) * 64 ≤ _; omega) | decide)); done)); (conv => lhs; whnf); (try simp (maxSteps := 2000000) (disch := omega) only [nI64, nU64, nU32, nU8, nSubL, nAddL, nAdd, nSub, nDiv, nMod, nZ, nLit, row_3, row_5, row_16, row_22, row_28, row_46, row_48, row_108, row_115, Ty.den, dflt_it, dflt_li, dflt_kv, Int.toNat_natCast, List.take_length, List.drop_zero]))
        rw [if_neg (fun hp => by unfold planOK at hp; omega)]
      · try simp (maxSteps := 2000000) (disch := omega) only [nI64, nU64, nU32, nU8, nSubL, nAddL, nAdd, nSub, nDiv, nMod, nZ, nLit, row_3, row_5, row_16, row_22, row_28, row_46, row_48, row_108, row_115, Ty.den, dflt_it, dflt_li, dflt_kv, Int.toNat_natCast, List.take_length, List.drop_zero, tst_f q2]
        conv => lhs; whnf
        try simp (maxSteps := 2000000) (disch := omega) only [nI64, nU64, nU32, nU8, nSubL, nAddL, nAdd, nSub, nDiv, nMod, nZ, nLit, row_3, row_5, row_16, row_22, row_28, row_46, row_48, row_108, row_115, Ty.den, dflt_it, dflt_li, dflt_kv, Int.toNat_natCast, List.take_length, List.drop_zero]
        by_cases q3 : r > 64
        · try simp (maxSteps := 2000000) (disch := omega) only [nI64, nU64, nU32, nU8, nSubL, nAddL, nAdd, nSub, nDiv, nMod, nZ, nLit, row_3, row_5, row_16, row_22, row_28, row_46, row_48, row_108, row_115, Ty.den, dflt_it, dflt_li, dflt_kv, Int.toNat_natCast, List.take_length, List.drop_zero, tst_t q3]
          conv => lhs; whnf
          try simp (maxSteps := 2000000) (disch := omega) only [nI64, nU64, nU32, nU8, nSubL, nAddL, nAdd, nSub, nDiv, nMod, nZ, nLit, row_3, row_5, row_16, row_22, row_28, row_46, row_48, row_108, row_115, Ty.den, dflt_it, dflt_li, dflt_kv, Int.toNat_natCast, List.take_length, List.drop_zero]
          repeat (refine br_go ?_ ?_; (focus (((repeat' first | exact rfl | exact ordB_st rfl | exact ordB_of rfl | apply band | apply tst_t | apply nt_t)  <;> (try dsimp only [Ty.den, dflt_kv]) <;> (try simp only [List.length_append, List.length_cons, List.length_nil, List.length_take, List.length_drop, List.length_replicate]) <;> (first | trivial | assumption | omega | (change (_ : Int) ≤ _; omega) | (change (_ : Int) < _; omega) | (change (_ : Nat) * 1 ≤ _; omega) | (change (_ : Nat) * 48 ≤ _; omega) | (change (_ : Nat) * 24 ≤ _; omega) | (change (_ : Nat) * 8 ≤ _; omega) | (change (_ : Nat) * 64 ≤ _; omega) | decide)); done)); (conv => lhs; whnf); (try simp (maxSteps := 2000000) (disch := omega) only [nI64, nU64, nU32, nU8, nSubL, nAddL, nAdd, nSub, nDiv, nMod, nZ, nLit, row_3, row_5, row_16, row_22, row_28, row_46, row_48, row_108, row_115, Ty.den, dflt_it, dflt_li, dflt_kv, Int.toNat_natCast, List.take_length, List.drop_zero]))
          try simp (maxSteps := 2000000) (disch := omega) only [nI64, nU64, nU32, nU8, nSubL, nAddL, nAdd, nSub, nDiv, nMod, nZ, nLit, row_3, row_5, row_16, row_22, row_28, row_46, row_48, row_108, row_115, Ty.den, dflt_it, dflt_li, dflt_kv, Int.toNat_natCast, List.take_length, List.drop_zero, b1, b2]
          conv => lhs; whnf
          try simp (maxSteps := 2000000) (disch := omega) only [nI64, nU64, nU32, nU8, nSubL, nAddL, nAdd, nSub, nDiv, nMod, nZ, nLit, row_3, row_5, row_16, row_22, row_28, row_46, row_48, row_108, row_115, Ty.den, dflt_it, dflt_li, dflt_kv, Int.toNat_natCast, List.take_length, List.drop_zero]
          repeat (refine br_go ?_ ?_; (focus (((repeat' first | exact rfl | exact ordB_st rfl | exact ordB_of rfl | apply band | apply tst_t | apply nt_t)  <;> (try dsimp only [Ty.den, dflt_kv]) <;> (try simp only [List.length_append, List.length_cons, List.length_nil, List.length_take, List.length_drop, List.length_replicate]) <;> (first | trivial | assumption | omega | (change (_ : Int) ≤ _; omega) | (change (_ : Int) < _; omega) | (change (_ : Nat) * 1 ≤ _; omega) | (change (_ : Nat) * 48 ≤ _; omega) | (change (_ : Nat) * 24 ≤ _; omega) | (change (_ : Nat) * 8 ≤ _; omega) | (change (_ : Nat) * 64 ≤ _; omega) | decide)); done)); (conv => lhs; whnf); (try simp (maxSteps := 2000000) (disch := omega) only [nI64, nU64, nU32, nU8, nSubL, nAddL, nAdd, nSub, nDiv, nMod, nZ, nLit, row_3, row_5, row_16, row_22, row_28, row_46, row_48, row_108, row_115, Ty.den, dflt_it, dflt_li, dflt_kv, Int.toNat_natCast, List.take_length, List.drop_zero]))
          rw [if_neg (fun hp => by unfold planOK at hp; omega)]
        · try simp (maxSteps := 2000000) (disch := omega) only [nI64, nU64, nU32, nU8, nSubL, nAddL, nAdd, nSub, nDiv, nMod, nZ, nLit, row_3, row_5, row_16, row_22, row_28, row_46, row_48, row_108, row_115, Ty.den, dflt_it, dflt_li, dflt_kv, Int.toNat_natCast, List.take_length, List.drop_zero, tst_f q3]
          conv => lhs; whnf
          try simp (maxSteps := 2000000) (disch := omega) only [nI64, nU64, nU32, nU8, nSubL, nAddL, nAdd, nSub, nDiv, nMod, nZ, nLit, row_3, row_5, row_16, row_22, row_28, row_46, row_48, row_108, row_115, Ty.den, dflt_it, dflt_li, dflt_kv, Int.toNat_natCast, List.take_length, List.drop_zero]
          by_cases q4 : i < 1
          · try simp (maxSteps := 2000000) (disch := omega) only [nI64, nU64, nU32, nU8, nSubL, nAddL, nAdd, nSub, nDiv, nMod, nZ, nLit, row_3, row_5, row_16, row_22, row_28, row_46, row_48, row_108, row_115, Ty.den, dflt_it, dflt_li, dflt_kv, Int.toNat_natCast, List.take_length, List.drop_zero, tst_t q4]
            conv => lhs; whnf
            try simp (maxSteps := 2000000) (disch := omega) only [nI64, nU64, nU32, nU8, nSubL, nAddL, nAdd, nSub, nDiv, nMod, nZ, nLit, row_3, row_5, row_16, row_22, row_28, row_46, row_48, row_108, row_115, Ty.den, dflt_it, dflt_li, dflt_kv, Int.toNat_natCast, List.take_length, List.drop_zero]
            repeat (refine br_go ?_ ?_; (focus (((repeat' first | exact rfl | exact ordB_st rfl | exact ordB_of rfl | apply band | apply tst_t | apply nt_t)  <;> (try dsimp only [Ty.den, dflt_kv]) <;> (try simp only [List.length_append, List.length_cons, List.length_nil, List.length_take, List.length_drop, List.length_replicate]) <;> (first | trivial | assumption | omega | (change (_ : Int) ≤ _; omega) | (change (_ : Int) < _; omega) | (change (_ : Nat) * 1 ≤ _; omega) | (change (_ : Nat) * 48 ≤ _; omega) | (change (_ : Nat) * 24 ≤ _; omega) | (change (_ : Nat) * 8 ≤ _; omega) | (change (_ : Nat) * 64 ≤ _; omega) | decide)); done)); (conv => lhs; whnf); (try simp (maxSteps := 2000000) (disch := omega) only [nI64, nU64, nU32, nU8, nSubL, nAddL, nAdd, nSub, nDiv, nMod, nZ, nLit, row_3, row_5, row_16, row_22, row_28, row_46, row_48, row_108, row_115, Ty.den, dflt_it, dflt_li, dflt_kv, Int.toNat_natCast, List.take_length, List.drop_zero]))
            try simp (maxSteps := 2000000) (disch := omega) only [nI64, nU64, nU32, nU8, nSubL, nAddL, nAdd, nSub, nDiv, nMod, nZ, nLit, row_3, row_5, row_16, row_22, row_28, row_46, row_48, row_108, row_115, Ty.den, dflt_it, dflt_li, dflt_kv, Int.toNat_natCast, List.take_length, List.drop_zero, b1, b2]
            conv => lhs; whnf
            try simp (maxSteps := 2000000) (disch := omega) only [nI64, nU64, nU32, nU8, nSubL, nAddL, nAdd, nSub, nDiv, nMod, nZ, nLit, row_3, row_5, row_16, row_22, row_28, row_46, row_48, row_108, row_115, Ty.den, dflt_it, dflt_li, dflt_kv, Int.toNat_natCast, List.take_length, List.drop_zero]
            repeat (refine br_go ?_ ?_; (focus (((repeat' first | exact rfl | exact ordB_st rfl | exact ordB_of rfl | apply band | apply tst_t | apply nt_t)  <;> (try dsimp only [Ty.den, dflt_kv]) <;> (try simp only [List.length_append, List.length_cons, List.length_nil, List.length_take, List.length_drop, List.length_replicate]) <;> (first | trivial | assumption | omega | (change (_ : Int) ≤ _; omega) | (change (_ : Int) < _; omega) | (change (_ : Nat) * 1 ≤ _; omega) | (change (_ : Nat) * 48 ≤ _; omega) | (change (_ : Nat) * 24 ≤ _; omega) | (change (_ : Nat) * 8 ≤ _; omega) | (change (_ : Nat) * 64 ≤ _; omega) | decide)); done)); (conv => lhs; whnf); (try simp (maxSteps := 2000000) (disch := omega) only [nI64, nU64, nU32, nU8, nSubL, nAddL, nAdd, nSub, nDiv, nMod, nZ, nLit, row_3, row_5, row_16, row_22, row_28, row_46, row_48, row_108, row_115, Ty.den, dflt_it, dflt_li, dflt_kv, Int.toNat_natCast, List.take_length, List.drop_zero]))
            rw [if_neg (fun hp => by unfold planOK at hp; omega)]
          · try simp (maxSteps := 2000000) (disch := omega) only [nI64, nU64, nU32, nU8, nSubL, nAddL, nAdd, nSub, nDiv, nMod, nZ, nLit, row_3, row_5, row_16, row_22, row_28, row_46, row_48, row_108, row_115, Ty.den, dflt_it, dflt_li, dflt_kv, Int.toNat_natCast, List.take_length, List.drop_zero, tst_f q4]
            conv => lhs; whnf
            try simp (maxSteps := 2000000) (disch := omega) only [nI64, nU64, nU32, nU8, nSubL, nAddL, nAdd, nSub, nDiv, nMod, nZ, nLit, row_3, row_5, row_16, row_22, row_28, row_46, row_48, row_108, row_115, Ty.den, dflt_it, dflt_li, dflt_kv, Int.toNat_natCast, List.take_length, List.drop_zero]
            by_cases q5 : i > 64
            · try simp (maxSteps := 2000000) (disch := omega) only [nI64, nU64, nU32, nU8, nSubL, nAddL, nAdd, nSub, nDiv, nMod, nZ, nLit, row_3, row_5, row_16, row_22, row_28, row_46, row_48, row_108, row_115, Ty.den, dflt_it, dflt_li, dflt_kv, Int.toNat_natCast, List.take_length, List.drop_zero, tst_t q5]
              conv => lhs; whnf
              try simp (maxSteps := 2000000) (disch := omega) only [nI64, nU64, nU32, nU8, nSubL, nAddL, nAdd, nSub, nDiv, nMod, nZ, nLit, row_3, row_5, row_16, row_22, row_28, row_46, row_48, row_108, row_115, Ty.den, dflt_it, dflt_li, dflt_kv, Int.toNat_natCast, List.take_length, List.drop_zero]
              repeat (refine br_go ?_ ?_; (focus (((repeat' first | exact rfl | exact ordB_st rfl | exact ordB_of rfl | apply band | apply tst_t | apply nt_t)  <;> (try dsimp only [Ty.den, dflt_kv]) <;> (try simp only [List.length_append, List.length_cons, List.length_nil, List.length_take, List.length_drop, List.length_replicate]) <;> (first | trivial | assumption | omega | (change (_ : Int) ≤ _; omega) | (change (_ : Int) < _; omega) | (change (_ : Nat) * 1 ≤ _; omega) | (change (_ : Nat) * 48 ≤ _; omega) | (change (_ : Nat) * 24 ≤ _; omega) | (change (_ : Nat) * 8 ≤ _; omega) | (change (_ : Nat) * 64 ≤ _; omega) | decide)); done)); (conv => lhs; whnf); (try simp (maxSteps := 2000000) (disch := omega) only [nI64, nU64, nU32, nU8, nSubL, nAddL, nAdd, nSub, nDiv, nMod, nZ, nLit, row_3, row_5, row_16, row_22, row_28, row_46, row_48, row_108, row_115, Ty.den, dflt_it, dflt_li, dflt_kv, Int.toNat_natCast, List.take_length, List.drop_zero]))
              try simp (maxSteps := 2000000) (disch := omega) only [nI64, nU64, nU32, nU8, nSubL, nAddL, nAdd, nSub, nDiv, nMod, nZ, nLit, row_3, row_5, row_16, row_22, row_28, row_46, row_48, row_108, row_115, Ty.den, dflt_it, dflt_li, dflt_kv, Int.toNat_natCast, List.take_length, List.drop_zero, b1, b2]
              conv => lhs; whnf
              try simp (maxSteps := 2000000) (disch := omega) only [nI64, nU64, nU32, nU8, nSubL, nAddL, nAdd, nSub, nDiv, nMod, nZ, nLit, row_3, row_5, row_16, row_22, row_28, row_46, row_48, row_108, row_115, Ty.den, dflt_it, dflt_li, dflt_kv, Int.toNat_natCast, List.take_length, List.drop_zero]
              repeat (refine br_go ?_ ?_; (focus (((repeat' first | exact rfl | exact ordB_st rfl | exact ordB_of rfl | apply band | apply tst_t | apply nt_t)  <;> (try dsimp only [Ty.den, dflt_kv]) <;> (try simp only [List.length_append, List.length_cons, List.length_nil, List.length_take, List.length_drop, List.length_replicate]) <;> (first | trivial | assumption | omega | (change (_ : Int) ≤ _; omega) | (change (_ : Int) < _; omega) | (change (_ : Nat) * 1 ≤ _; omega) | (change (_ : Nat) * 48 ≤ _; omega) | (change (_ : Nat) * 24 ≤ _; omega) | (change (_ : Nat) * 8 ≤ _; omega) | (change (_ : Nat) * 64 ≤ _; omega) | decide)); done)); (conv => lhs; whnf); (try simp (maxSteps := 2000000) (disch := omega) only [nI64, nU64, nU32, nU8, nSubL, nAddL, nAdd, nSub, nDiv, nMod, nZ, nLit, row_3, row_5, row_16, row_22, row_28, row_46, row_48, row_108, row_115, Ty.den, dflt_it, dflt_li, dflt_kv, Int.toNat_natCast, List.take_length, List.drop_zero]))
              rw [if_neg (fun hp => by unfold planOK at hp; omega)]
            · try simp (maxSteps := 2000000) (disch := omega) only [nI64, nU64, nU32, nU8, nSubL, nAddL, nAdd, nSub, nDiv, nMod, nZ, nLit, row_3, row_5, row_16, row_22, row_28, row_46, row_48, row_108, row_115, Ty.den, dflt_it, dflt_li, dflt_kv, Int.toNat_natCast, List.take_length, List.drop_zero, tst_f q5]
              conv => lhs; whnf
              try simp (maxSteps := 2000000) (disch := omega) only [nI64, nU64, nU32, nU8, nSubL, nAddL, nAdd, nSub, nDiv, nMod, nZ, nLit, row_3, row_5, row_16, row_22, row_28, row_46, row_48, row_108, row_115, Ty.den, dflt_it, dflt_li, dflt_kv, Int.toNat_natCast, List.take_length, List.drop_zero]
              by_cases q6 : t < 16
              · try simp (maxSteps := 2000000) (disch := omega) only [nI64, nU64, nU32, nU8, nSubL, nAddL, nAdd, nSub, nDiv, nMod, nZ, nLit, row_3, row_5, row_16, row_22, row_28, row_46, row_48, row_108, row_115, Ty.den, dflt_it, dflt_li, dflt_kv, Int.toNat_natCast, List.take_length, List.drop_zero, tst_t q6]
                conv => lhs; whnf
                try simp (maxSteps := 2000000) (disch := omega) only [nI64, nU64, nU32, nU8, nSubL, nAddL, nAdd, nSub, nDiv, nMod, nZ, nLit, row_3, row_5, row_16, row_22, row_28, row_46, row_48, row_108, row_115, Ty.den, dflt_it, dflt_li, dflt_kv, Int.toNat_natCast, List.take_length, List.drop_zero]
                repeat (refine br_go ?_ ?_; (focus (((repeat' first | exact rfl | exact ordB_st rfl | exact ordB_of rfl | apply band | apply tst_t | apply nt_t)  <;> (try dsimp only [Ty.den, dflt_kv]) <;> (try simp only [List.length_append, List.length_cons, List.length_nil, List.length_take, List.length_drop, List.length_replicate]) <;> (first | trivial | assumption | omega | (change (_ : Int) ≤ _; omega) | (change (_ : Int) < _; omega) | (change (_ : Nat) * 1 ≤ _; omega) | (change (_ : Nat) * 48 ≤ _; omega) | (change (_ : Nat) * 24 ≤ _; omega) | (change (_ : Nat) * 8 ≤ _; omega) | (change (_ : Nat) * 64 ≤ _; omega) | decide)); done)); (conv => lhs; whnf); (try simp (maxSteps := 2000000) (disch := omega) only [nI64, nU64, nU32, nU8, nSubL, nAddL, nAdd, nSub, nDiv, nMod, nZ, nLit, row_3, row_5, row_16, row_22, row_28, row_46, row_48, row_108, row_115, Ty.den, dflt_it, dflt_li, dflt_kv, Int.toNat_natCast, List.take_length, List.drop_zero]))
                try simp (maxSteps := 2000000) (disch := omega) only [nI64, nU64, nU32, nU8, nSubL, nAddL, nAdd, nSub, nDiv, nMod, nZ, nLit, row_3, row_5, row_16, row_22, row_28, row_46, row_48, row_108, row_115, Ty.den, dflt_it, dflt_li, dflt_kv, Int.toNat_natCast, List.take_length, List.drop_zero, b1, b2]
                conv => lhs; whnf
                try simp (maxSteps := 2000000) (disch := omega) only [nI64, nU64, nU32, nU8, nSubL, nAddL, nAdd, nSub, nDiv, nMod, nZ, nLit, row_3, row_5, row_16, row_22, row_28, row_46, row_48, row_108, row_115, Ty.den, dflt_it, dflt_li, dflt_kv, Int.toNat_natCast, List.take_length, List.drop_zero]
                repeat (refine br_go ?_ ?_; (focus (((repeat' first | exact rfl | exact ordB_st rfl | exact ordB_of rfl | apply band | apply tst_t | apply nt_t)  <;> (try dsimp only [Ty.den, dflt_kv]) <;> (try simp only [List.length_append, List.length_cons, List.length_nil, List.length_take, List.length_drop, List.length_replicate]) <;> (first | trivial | assumption | omega | (change (_ : Int) ≤ _; omega) | (change (_ : Int) < _; omega) | (change (_ : Nat) * 1 ≤ _; omega) | (change (_ : Nat) * 48 ≤ _; omega) | (change (_ : Nat) * 24 ≤ _; omega) | (change (_ : Nat) * 8 ≤ _; omega) | (change (_ : Nat) * 64 ≤ _; omega) | decide)); done)); (conv => lhs; whnf); (try simp (maxSteps := 2000000) (disch := omega) only [nI64, nU64, nU32, nU8, nSubL, nAddL, nAdd, nSub, nDiv, nMod, nZ, nLit, row_3, row_5, row_16, row_22, row_28, row_46, row_48, row_108, row_115, Ty.den, dflt_it, dflt_li, dflt_kv, Int.toNat_natCast, List.take_length, List.drop_zero]))
                rw [if_neg (fun hp => by unfold planOK at hp; omega)]
              · try simp (maxSteps := 2000000) (disch := omega) only [nI64, nU64, nU32, nU8, nSubL, nAddL, nAdd, nSub, nDiv, nMod, nZ, nLit, row_3, row_5, row_16, row_22, row_28, row_46, row_48, row_108, row_115, Ty.den, dflt_it, dflt_li, dflt_kv, Int.toNat_natCast, List.take_length, List.drop_zero, tst_f q6]
                conv => lhs; whnf
                try simp (maxSteps := 2000000) (disch := omega) only [nI64, nU64, nU32, nU8, nSubL, nAddL, nAdd, nSub, nDiv, nMod, nZ, nLit, row_3, row_5, row_16, row_22, row_28, row_46, row_48, row_108, row_115, Ty.den, dflt_it, dflt_li, dflt_kv, Int.toNat_natCast, List.take_length, List.drop_zero]
                by_cases q7 : t > 4194304
                · try simp (maxSteps := 2000000) (disch := omega) only [nI64, nU64, nU32, nU8, nSubL, nAddL, nAdd, nSub, nDiv, nMod, nZ, nLit, row_3, row_5, row_16, row_22, row_28, row_46, row_48, row_108, row_115, Ty.den, dflt_it, dflt_li, dflt_kv, Int.toNat_natCast, List.take_length, List.drop_zero, tst_t q7]
                  conv => lhs; whnf
                  try simp (maxSteps := 2000000) (disch := omega) only [nI64, nU64, nU32, nU8, nSubL, nAddL, nAdd, nSub, nDiv, nMod, nZ, nLit, row_3, row_5, row_16, row_22, row_28, row_46, row_48, row_108, row_115, Ty.den, dflt_it, dflt_li, dflt_kv, Int.toNat_natCast, List.take_length, List.drop_zero]
                  repeat (refine br_go ?_ ?_; (focus (((repeat' first | exact rfl | exact ordB_st rfl | exact ordB_of rfl | apply band | apply tst_t | apply nt_t)  <;> (try dsimp only [Ty.den, dflt_kv]) <;> (try simp only [List.length_append, List.length_cons, List.length_nil, List.length_take, List.length_drop, List.length_replicate]) <;> (first | trivial | assumption | omega | (change (_ : Int) ≤ _; omega) | (change (_ : Int) < _; omega) | (change (_ : Nat) * 1 ≤ _; omega) | (change (_ : Nat) * 48 ≤ _; omega) | (change (_ : Nat) * 24 ≤ _; omega) | (change (_ : Nat) * 8 ≤ _; omega) | (change (_ : Nat) * 64 ≤ _; omega) | decide)); done)); (conv => lhs; whnf); (try simp (maxSteps := 2000000) (disch := omega) only [nI64, nU64, nU32, nU8, nSubL, nAddL, nAdd, nSub, nDiv, nMod, nZ, nLit, row_3, row_5, row_16, row_22, row_28, row_46, row_48, row_108, row_115, Ty.den, dflt_it, dflt_li, dflt_kv, Int.toNat_natCast, List.take_length, List.drop_zero]))
                  try simp (maxSteps := 2000000) (disch := omega) only [nI64, nU64, nU32, nU8, nSubL, nAddL, nAdd, nSub, nDiv, nMod, nZ, nLit, row_3, row_5, row_16, row_22, row_28, row_46, row_48, row_108, row_115, Ty.den, dflt_it, dflt_li, dflt_kv, Int.toNat_natCast, List.take_length, List.drop_zero, b1, b2]
                  conv => lhs; whnf
                  try simp (maxSteps := 2000000) (disch := omega) only [nI64, nU64, nU32, nU8, nSubL, nAddL, nAdd, nSub, nDiv, nMod, nZ, nLit, row_3, row_5, row_16, row_22, row_28, row_46, row_48, row_108, row_115, Ty.den, dflt_it, dflt_li, dflt_kv, Int.toNat_natCast, List.take_length, List.drop_zero]
                  repeat (refine br_go ?_ ?_; (focus (((repeat' first | exact rfl | exact ordB_st rfl | exact ordB_of rfl | apply band | apply tst_t | apply nt_t)  <;> (try dsimp only [Ty.den, dflt_kv]) <;> (try simp only [List.length_append, List.length_cons, List.length_nil, List.length_take, List.length_drop, List.length_replicate]) <;> (first | trivial | assumption | omega | (change (_ : Int) ≤ _; omega) | (change (_ : Int) < _; omega) | (change (_ : Nat) * 1 ≤ _; omega) | (change (_ : Nat) * 48 ≤ _; omega) | (change (_ : Nat) * 24 ≤ _; omega) | (change (_ : Nat) * 8 ≤ _; omega) | (change (_ : Nat) * 64 ≤ _; omega) | decide)); done)); (conv => lhs; whnf); (try simp (maxSteps := 2000000) (disch := omega) only [nI64, nU64, nU32, nU8, nSubL, nAddL, nAdd, nSub, nDiv, nMod, nZ, nLit, row_3, row_5, row_16, row_22, row_28, row_46, row_48, row_108, row_115, Ty.den, dflt_it, dflt_li, dflt_kv, Int.toNat_natCast, List.take_length, List.drop_zero]))
                  rw [if_neg (fun hp => by unfold planOK at hp; omega)]
                · try simp (maxSteps := 2000000) (disch := omega) only [nI64, nU64, nU32, nU8, nSubL, nAddL, nAdd, nSub, nDiv, nMod, nZ, nLit, row_3, row_5, row_16, row_22, row_28, row_46, row_48, row_108, row_115, Ty.den, dflt_it, dflt_li, dflt_kv, Int.toNat_natCast, List.take_length, List.drop_zero, tst_f q7]
                  conv => lhs; whnf
                  try simp (maxSteps := 2000000) (disch := omega) only [nI64, nU64, nU32, nU8, nSubL, nAddL, nAdd, nSub, nDiv, nMod, nZ, nLit, row_3, row_5, row_16, row_22, row_28, row_46, row_48, row_108, row_115, Ty.den, dflt_it, dflt_li, dflt_kv, Int.toNat_natCast, List.take_length, List.drop_zero]
                  repeat (refine br_go ?_ ?_; (focus (((repeat' first | exact rfl | exact ordB_st rfl | exact ordB_of rfl | apply band | apply tst_t | apply nt_t)  <;> (try dsimp only [Ty.den, dflt_kv]) <;> (try simp only [List.length_append, List.length_cons, List.length_nil, List.length_take, List.length_drop, List.length_replicate]) <;> (first | trivial | assumption | omega | (change (_ : Int) ≤ _; omega) | (change (_ : Int) < _; omega) | (change (_ : Nat) * 1 ≤ _; omega) | (change (_ : Nat) * 48 ≤ _; omega) | (change (_ : Nat) * 24 ≤ _; omega) | (change (_ : Nat) * 8 ≤ _; omega) | (change (_ : Nat) * 64 ≤ _; omega) | decide)); done)); (conv => lhs; whnf); (try simp (maxSteps := 2000000) (disch := omega) only [nI64, nU64, nU32, nU8, nSubL, nAddL, nAdd, nSub, nDiv, nMod, nZ, nLit, row_3, row_5, row_16, row_22, row_28, row_46, row_48, row_108, row_115, Ty.den, dflt_it, dflt_li, dflt_kv, Int.toNat_natCast, List.take_length, List.drop_zero]))
                  try simp (maxSteps := 2000000) (disch := omega) only [nI64, nU64, nU32, nU8, nSubL, nAddL, nAdd, nSub, nDiv, nMod, nZ, nLit, row_3, row_5, row_16, row_22, row_28, row_46, row_48, row_108, row_115, Ty.den, dflt_it, dflt_li, dflt_kv, Int.toNat_natCast, List.take_length, List.drop_zero, b1, b2]
                  conv => lhs; whnf
                  try simp (maxSteps := 2000000) (disch := omega) only [nI64, nU64, nU32, nU8, nSubL, nAddL, nAdd, nSub, nDiv, nMod, nZ, nLit, row_3, row_5, row_16, row_22, row_28, row_46, row_48, row_108, row_115, Ty.den, dflt_it, dflt_li, dflt_kv, Int.toNat_natCast, List.take_length, List.drop_zero]
                  repeat (refine br_go ?_ ?_; (focus (((repeat' first | exact rfl | exact ordB_st rfl | exact ordB_of rfl | apply band | apply tst_t | apply nt_t)  <;> (try dsimp only [Ty.den, dflt_kv]) <;> (try simp only [List.length_append, List.length_cons, List.length_nil, List.length_take, List.length_drop, List.length_replicate]) <;> (first | trivial | assumption | omega | (change (_ : Int) ≤ _; omega) | (change (_ : Int) < _; omega) | (change (_ : Nat) * 1 ≤ _; omega) | (change (_ : Nat) * 48 ≤ _; omega) | (change (_ : Nat) * 24 ≤ _; omega) | (change (_ : Nat) * 8 ≤ _; omega) | (change (_ : Nat) * 64 ≤ _; omega) | decide)); done)); (conv => lhs; whnf); (try simp (maxSteps := 2000000) (disch := omega) only [nI64, nU64, nU32, nU8, nSubL, nAddL, nAdd, nSub, nDiv, nMod, nZ, nLit, row_3, row_5, row_16, row_22, row_28, row_46, row_48, row_108, row_115, Ty.den, dflt_it, dflt_li, dflt_kv, Int.toNat_natCast, List.take_length, List.drop_zero]))
                  rw [if_pos (by unfold planOK; omega)]
abbrev sum4C : Ctx := ⟨rows, (fun  | _ => ([], []))⟩
theorem sum4_ok (T : Tab) (h1 : T 51 = cloneSp.ent) (h2 : T 72 = sumSp.ent) (h3 : T 71 = fixed4Sp.ent) : sum4Sp.Ok T sum4C F34 := by
  rw [on_top h1, on_top h2, on_top h3]
  rintro ⟨(l : List Int), _⟩ hf hp
  have hl : l.length ≤ 1105199104 := tst_iff.1 hp
  have hq : (fixedL (sumS l) 4).length = 4 := fixedL_length _ _
  obtain ⟨F, hF⟩ : ∃ F : Nat, F = 5 := ⟨_, rfl⟩
  refine ⟨F, 0, ?_⟩
  show evFn _ _ _ _ _ [vB l] [] _ = some (vO 0 (sum4 l) : V)
  conv => lhs; whnf
  try simp (maxSteps := 2000000) (disch := omega) only [nI64, nU64, nU32, nU8, nSubL, nAddL, nAdd, nSub, nDiv, nMod, nZ, nLit, row_3, row_5, row_16, row_22, row_28, row_46, row_48, row_108, row_115, Ty.den, dflt_it, dflt_li, dflt_kv, Int.toNat_natCast, List.take_length, List.drop_zero]
  repeat (refine br_go ?_ ?_; (focus (((repeat' first | exact rfl | exact ordB_st rfl | exact ordB_of rfl | apply band | apply tst_t | apply nt_t)  <;> (try dsimp only [Ty.den, dflt_kv]) <;> (try simp only [List.length_append, List.length_cons, List.length_nil, List.length_take, List.length_drop, List.length_replicate]) <;> (first | trivial | assumption | omega | (change (_ : Int) ≤ _; omega) | (change (_ : Int) < _; omega) | (change (_ : Nat) * 1 ≤ _; omega) | (change (_ : Nat) * 48 ≤ _; omega) | (change (_ : Nat) * 24 ≤ _; omega) | (change (_ : Nat) * 8 ≤ _; omega) | (change (_ : Nat) * 64 ≤ _; omega) | decide)); done)); (conv => lhs; whnf); (try simp (maxSteps := 2000000) (disch := omega) only [nI64, nU64, nU32, nU8, nSubL, nAddL, nAdd, nSub, nDiv, nMod, nZ, nLit, row_3, row_5, row_16, row_22, row_28, row_46, row_48, row_108, row_115, Ty.den, dflt_it, dflt_li, dflt_kv, Int.toNat_natCast, List.take_length, List.drop_zero]))
  rfl
abbrev tuserC : Ctx := ⟨rows, (fun  | _ => ([], []))⟩
theorem tuser_ok (T : Tab) (h1 : T 66 = splitSp.ent) : userSp.Ok T tuserC F35 := by
  rw [on_top h1]
  rintro ⟨(l : List Int), _⟩ hf _
  obtain ⟨F, hF⟩ : ∃ F : Nat, F = 5 := ⟨_, rfl⟩
  refine ⟨F, 0, ?_⟩
  show evFn _ _ _ _ _ [vB l] [] _ = some (vO 0 (split l).1 : V)
  conv => lhs; whnf
  try simp (maxSteps := 2000000) (disch := omega) only [nI64, nU64, nU32, nU8, nSubL, nAddL, nAdd, nSub, nDiv, nMod, nZ, nLit, row_3, row_5, row_16, row_22, row_28, row_46, row_48, row_108, row_115, Ty.den, dflt_it, dflt_li, dflt_kv, Int.toNat_natCast, List.take_length, List.drop_zero]
  repeat (refine br_go ?_ ?_; (focus (((repeat' first | exact rfl | exact ordB_st rfl | exact ordB_of rfl | apply band | apply tst_t | apply nt_t)  <;> (try dsimp only [Ty.den, dflt_kv]) <;> (try simp only [List.length_append, List.length_cons, List.length_nil, List.length_take, List.length_drop, List.length_replicate]) <;> (first | trivial | assumption | omega | (change (_ : Int) ≤ _; omega) | (change (_ : Int) < _; omega) | (change (_ : Nat) * 1 ≤ _; omega) | (change (_ : Nat) * 48 ≤ _; omega) | (change (_ : Nat) * 24 ≤ _; omega) | (change (_ : Nat) * 8 ≤ _; omega) | (change (_ : Nat) * 64 ≤ _; omega) | decide)); done)); (conv => lhs; whnf); (try simp (maxSteps := 2000000) (disch := omega) only [nI64, nU64, nU32, nU8, nSubL, nAddL, nAdd, nSub, nDiv, nMod, nZ, nLit, row_3, row_5, row_16, row_22, row_28, row_46, row_48, row_108, row_115, Ty.den, dflt_it, dflt_li, dflt_kv, Int.toNat_natCast, List.take_length, List.drop_zero]))
abbrev ruserC : Ctx := ⟨rows, (fun  | _ => ([], []))⟩
theorem ruser_ok (T : Tab) : ruserSp.OkW T ruserC F40 := by
  rintro ⟨(l : List Int), _⟩ hf hp
  have hl : 8 ≤ l.length := tst_iff.1 hp
  have hl2 : l.length ≤ 140737488355328 := (fits_by.1 hf.1).1
  obtain ⟨F, hF⟩ : ∃ F : Nat, F = 5 := ⟨_, rfl⟩
  refine ⟨F, 0, ?_⟩
  show evFn _ _ _ _ _ [vB l] [] _ = some (vB (l.take (l.length - 8)) : V)
  conv => lhs; whnf
  try simp (maxSteps := 2000000) (disch := omega) only [nI64, nU64, nU32, nU8, nSubL, nAddL, nAdd, nSub, nDiv, nMod, nZ, nLit, row_3, row_5, row_16, row_22, row_28, row_46, row_48, row_108, row_115, Ty.den, dflt_it, dflt_li, dflt_kv, Int.toNat_natCast, List.take_length, List.drop_zero]
  repeat (refine br_go ?_ ?_; (focus (((repeat' first | exact rfl | exact ordB_st rfl | exact ordB_of rfl | apply band | apply tst_t | apply nt_t)  <;> (try dsimp only [Ty.den, dflt_kv]) <;> (try simp only [List.length_append, List.length_cons, List.length_nil, List.length_take, List.length_drop, List.length_replicate]) <;> (first | trivial | assumption | omega | (change (_ : Int) ≤ _; omega) | (change (_ : Int) < _; omega) | (change (_ : Nat) * 1 ≤ _; omega) | (change (_ : Nat) * 48 ≤ _; omega) | (change (_ : Nat) * 24 ≤ _; omega) | (change (_ : Nat) * 8 ≤ _; omega) | (change (_ : Nat) * 64 ≤ _; omega) | decide)); done)); (conv => lhs; whnf); (try simp (maxSteps := 2000000) (disch := omega) only [nI64, nU64, nU32, nU8, nSubL, nAddL, nAdd, nSub, nDiv, nMod, nZ, nLit, row_3, row_5, row_16, row_22, row_28, row_46, row_48, row_108, row_115, Ty.den, dflt_it, dflt_li, dflt_kv, Int.toNat_natCast, List.take_length, List.drop_zero]))
abbrev magicC : Ctx := ⟨rows, (fun  | _ => ([], []))⟩
theorem magic_ok (T : Tab) : magicSp.Ok T magicC F46 := by
  rintro _ hf _
  refine ⟨5, 0, ?_⟩
  show evFn _ _ _ _ _ [] [] _ = some (vO 0 magicL)
  conv => lhs; whnf
  try simp (maxSteps := 2000000) (disch := omega) only [nI64, nU64, nU32, nU8, nSubL, nAddL, nAdd, nSub, nDiv, nMod, nZ, nLit, row_3, row_5, row_16, row_22, row_28, row_46, row_48, row_108, row_115, Ty.den, dflt_it, dflt_li, dflt_kv, Int.toNat_natCast, List.take_length, List.drop_zero]
  repeat (refine br_go ?_ ?_; (focus (((repeat' first | exact rfl | exact ordB_st rfl | exact ordB_of rfl | apply band | apply tst_t | apply nt_t)  <;> (try dsimp only [Ty.den, dflt_kv]) <;> (try simp only [List.length_append, List.length_cons, List.length_nil, List.length_take, List.length_drop, List.length_replicate]) <;> (first | trivial | assumption | omega | (change (_ : Int) ≤ _; omega) | (change (_ : Int) < _; omega) | (change (_ : Nat) * 1 ≤ _; omega) | (change (_ : Nat) * 48 ≤ _; omega) | (change (_ : Nat) * 24 ≤ _; omega) | (change (_ : Nat) * 8 ≤ _; omega) | (change (_ : Nat) * 64 ≤ _; omega) | decide)); done)); (conv => lhs; whnf); (try simp (maxSteps := 2000000) (disch := omega) only [nI64, nU64, nU32, nU8, nSubL, nAddL, nAdd, nSub, nDiv, nMod, nZ, nLit, row_3, row_5, row_16, row_22, row_28, row_46, row_48, row_108, row_115, Ty.den, dflt_it, dflt_li, dflt_kv, Int.toNat_natCast, List.take_length, List.drop_zero]))
  rfl
abbrev rsummedC : Ctx := ⟨rows, (fun  | _ => ([], []))⟩
theorem rsummed_ok (T : Tab) (h1 : T 79 = sumSp.ent) (h2 : T 45 = fixedSp.ent) : rsummedSp.Ok T rsummedC F43 := by
  rw [on_top h1, on_top h2]
  rintro ⟨(l : List Int), _⟩ hf _
  have hs := sumS_lt l
  obtain ⟨F, hF⟩ : ∃ F : Nat, F = 5 := ⟨_, rfl⟩
  refine ⟨F, 0, ?_⟩
  show evFn _ _ _ _ _ [vB l] [] _ = some (vO 0 (fixedL (sumS l) 4) : V)
  conv => lhs; whnf
  try simp (maxSteps := 2000000) (disch := omega) only [nI64, nU64, nU32, nU8, nSubL, nAddL, nAdd, nSub, nDiv, nMod, nZ, nLit, row_3, row_5, row_16, row_22, row_28, row_46, row_48, row_108, row_115, Ty.den, dflt_it, dflt_li, dflt_kv, Int.toNat_natCast, List.take_length, List.drop_zero]
  repeat (refine br_go ?_ ?_; (focus (((repeat' first | exact rfl | exact ordB_st rfl | exact ordB_of rfl | apply band | apply tst_t | apply nt_t)  <;> (try dsimp only [Ty.den, dflt_kv]) <;> (try simp only [List.length_append, List.length_cons, List.length_nil, List.length_take, List.length_drop, List.length_replicate]) <;> (first | trivial | assumption | omega | (change (_ : Int) ≤ _; omega) | (change (_ : Int) < _; omega) | (change (_ : Nat) * 1 ≤ _; omega) | (change (_ : Nat) * 48 ≤ _; omega) | (change (_ : Nat) * 24 ≤ _; omega) | (change (_ : Nat) * 8 ≤ _; omega) | (change (_ : Nat) * 64 ≤ _; omega) | decide)); done)); (conv => lhs; whnf); (try simp (maxSteps := 2000000) (disch := omega) only [nI64, nU64, nU32, nU8, nSubL, nAddL, nAdd, nSub, nDiv, nMod, nZ, nLit, row_3, row_5, row_16, row_22, row_28, row_46, row_48, row_108, row_115, Ty.den, dflt_it, dflt_li, dflt_kv, Int.toNat_natCast, List.take_length, List.drop_zero]))
abbrev piecesC : Ctx := ⟨rows, (fun | 0 => ([0, 1, 5, 6, 7, 10, 11, 12], [0, 5, 6]) | 1 => ([], [0, 1, 5, 6, 7, 10, 11, 12]) | _ => ([], []))⟩
theorem pieces_ok (T : Tab) : piecesSp.Ok T piecesC F32 := by
  rintro ⟨(l : List KV), (z : Int), _⟩ hf hp
  have hf1 : Fits kvl l := hf.1
  have hp : few7 l ∧ 1 ≤ z := by simpa only [piecesSp, Bool.and_eq_true, tst_iff] using hp
  obtain ⟨⟨hl, ht⟩, hz⟩ := hp
  obtain ⟨m, rfl⟩ : ∃ m : Nat, z = m := ⟨z.toNat, by omega⟩
  obtain ⟨F, hF⟩ : ∃ F : Nat, F = l.length + 5 := ⟨_, rfl⟩
  refine ⟨F, 0, ?_⟩
  show evFn _ _ _ _ _ [vK l, vI m] [] _ = some (.own 0 kvl (pcs m [] 0 l) : V)
  conv => lhs; whnf
  try simp (maxSteps := 2000000) (disch := omega) only [nI64, nU64, nU32, nU8, nSubL, nAddL, nAdd, nSub, nDiv, nMod, nZ, nLit, row_3, row_5, row_16, row_22, row_28, row_46, row_48, row_108, row_115, Ty.den, dflt_it, dflt_li, dflt_kv, Int.toNat_natCast, List.take_length, List.drop_zero]
  refine loop_rule (α := Nat × List (List KV) × Nat × Nat) (fun s => s.1 ≤ l.length ∧ s.2.2.1 ≤ s.1 ∧ s.2.2.2 + total (l.drop s.1) ≤ 5000 ∧ s.2.1.length ≤ s.1 ∧ s.2.1 ++ pcs m ((l.take s.1).drop s.2.2.1) s.2.2.2 (l.drop s.1) = pcs m [] 0 l) (fun s => l.length - s.1)
    (fun s => (vK l :: vI m :: V.bad :: V.bad :: V.bad :: V.own 1 kvl s.2.1 :: vI s.2.2.1 :: vI s.2.2.2 :: V.bad :: V.bad :: vK l :: vI l.length :: vI s.1 :: V.bad :: V.bad :: V.bad :: V.bad :: V.bad :: V.bad :: V.bad :: V.bad :: V.bad :: V.bad :: V.bad :: V.bad :: V.bad :: V.bad :: V.bad :: V.bad :: V.bad :: V.bad :: V.bad :: V.bad :: V.bad :: V.bad :: V.bad :: V.bad :: V.bad :: V.bad :: V.bad :: V.bad :: V.bad :: V.bad :: V.bad :: []))
    (fun s => [.fam 0, .fam s.2.1.length, .gone]) (fun s => some (V.own 0 kvl (pcs m [] 0 l))) ?_ F (0, [], 0, 0) ⟨Nat.zero_le _, Nat.le_refl _, by show 0 + total l ≤ 5000; omega, Nat.le_refl _, rfl⟩ (by show l.length - 0 < F; omega)
  rintro ⟨i, out, fr, n⟩ K ⟨k1, k2, k3, k4, k5⟩ hK
  simp only at k1 k2 k3 k4 k5 hK ⊢
  conv => lhs; whnf
  try simp (maxSteps := 2000000) (disch := omega) only [nI64, nU64, nU32, nU8, nSubL, nAddL, nAdd, nSub, nDiv, nMod, nZ, nLit, row_3, row_5, row_16, row_22, row_28, row_46, row_48, row_108, row_115, Ty.den, dflt_it, dflt_li, dflt_kv, Int.toNat_natCast, List.take_length, List.drop_zero]
  by_cases hi : i < l.length
  · refine br_go (tst_t (by omega)) ?_
    conv => lhs; whnf
    try simp (maxSteps := 2000000) (disch := omega) only [nI64, nU64, nU32, nU8, nSubL, nAddL, nAdd, nSub, nDiv, nMod, nZ, nLit, row_3, row_5, row_16, row_22, row_28, row_46, row_48, row_108, row_115, Ty.den, dflt_it, dflt_li, dflt_kv, Int.toNat_natCast, List.take_length, List.drop_zero]
    have hd := drop_at (d := kvd) hi
    have htk := take_at (d := kvd) hi
    rw [hd, total_cons] at k3
    rw [hd, pcs] at k5
    repeat (refine br_go ?_ ?_; (focus (((repeat' first | exact rfl | exact ordB_st rfl | exact ordB_of rfl | apply band | apply tst_t | apply nt_t)  <;> (try dsimp only [Ty.den, dflt_kv]) <;> (try simp only [List.length_append, List.length_cons, List.length_nil, List.length_take, List.length_drop, List.length_replicate]) <;> (first | trivial | assumption | omega | (change (_ : Int) ≤ _; omega) | (change (_ : Int) < _; omega) | (change (_ : Nat) * 1 ≤ _; omega) | (change (_ : Nat) * 48 ≤ _; omega) | (change (_ : Nat) * 24 ≤ _; omega) | (change (_ : Nat) * 8 ≤ _; omega) | (change (_ : Nat) * 64 ≤ _; omega) | decide)); done)); (conv => lhs; whnf); (try simp (maxSteps := 2000000) (disch := omega) only [nI64, nU64, nU32, nU8, nSubL, nAddL, nAdd, nSub, nDiv, nMod, nZ, nLit, row_3, row_5, row_16, row_22, row_28, row_46, row_48, row_108, row_115, Ty.den, dflt_it, dflt_li, dflt_kv, Int.toNat_natCast, List.take_length, List.drop_zero]))
    by_cases hn : n ≥ m
    · rw [if_pos hn] at k5
      refine br_go (tst_t (by omega)) ?_
      conv => lhs; whnf
      try simp (maxSteps := 2000000) (disch := omega) only [nI64, nU64, nU32, nU8, nSubL, nAddL, nAdd, nSub, nDiv, nMod, nZ, nLit, row_3, row_5, row_16, row_22, row_28, row_46, row_48, row_108, row_115, Ty.den, dflt_it, dflt_li, dflt_kv, Int.toNat_natCast, List.take_length, List.drop_zero]
      repeat (refine br_go ?_ ?_; (focus (((repeat' first | exact rfl | exact ordB_st rfl | exact ordB_of rfl | apply band | apply tst_t | apply nt_t)  <;> (try dsimp only [Ty.den, dflt_kv]) <;> (try simp only [List.length_append, List.length_cons, List.length_nil, List.length_take, List.length_drop, List.length_replicate]) <;> (first | trivial | assumption | omega | (change (_ : Int) ≤ _; omega) | (change (_ : Int) < _; omega) | (change (_ : Nat) * 1 ≤ _; omega) | (change (_ : Nat) * 48 ≤ _; omega) | (change (_ : Nat) * 24 ≤ _; omega) | (change (_ : Nat) * 8 ≤ _; omega) | (change (_ : Nat) * 64 ≤ _; omega) | decide)); done)); (conv => lhs; whnf); (try simp (maxSteps := 2000000) (disch := omega) only [nI64, nU64, nU32, nU8, nSubL, nAddL, nAdd, nSub, nDiv, nMod, nZ, nLit, row_3, row_5, row_16, row_22, row_28, row_46, row_48, row_108, row_115, Ty.den, dflt_it, dflt_li, dflt_kv, Int.toNat_natCast, List.take_length, List.drop_zero]))
      have e : (0 + (((l.getD i kvd).1.length : Int) + ((l.getD i kvd).2.1.length : Int))) = ((szKV (l.getD i kvd) : Nat) : Int) := by unfold szKV; omega
      rw [e]
      refine hK (i + 1, out ++ [List.drop fr (List.take i l)], i, szKV (l.getD i kvd)) ⟨by show i + 1 ≤ l.length; omega, by show i ≤ i + 1; omega, by show szKV _ + total (l.drop (i + 1)) ≤ 5000; unfold szKV; omega, by show (out ++ _).length ≤ i + 1; rw [List.length_append]; simp; omega, ?_⟩ (by show l.length - (i + 1) < l.length - i; omega)
      show out ++ [List.drop fr (List.take i l)] ++ pcs m ((l.take (i + 1)).drop i) (szKV (l.getD i kvd)) (l.drop (i + 1)) = _
      rw [htk, List.drop_left' (by rw [List.length_take]; omega), List.append_assoc, ← k5]
      rfl
    · rw [if_neg hn] at k5
      refine br_no (tst_f (by omega)) ?_
      conv => lhs; whnf
      try simp (maxSteps := 2000000) (disch := omega) only [nI64, nU64, nU32, nU8, nSubL, nAddL, nAdd, nSub, nDiv, nMod, nZ, nLit, row_3, row_5, row_16, row_22, row_28, row_46, row_48, row_108, row_115, Ty.den, dflt_it, dflt_li, dflt_kv, Int.toNat_natCast, List.take_length, List.drop_zero]
      repeat (refine br_go ?_ ?_; (focus (((repeat' first | exact rfl | exact ordB_st rfl | exact ordB_of rfl | apply band | apply tst_t | apply nt_t)  <;> (try dsimp only [Ty.den, dflt_kv]) <;> (try simp only [List.length_append, List.length_cons, List.length_nil, List.length_take, List.length_drop, List.length_replicate]) <;> (first | trivial | assumption | omega | (change (_ : Int) ≤ _; omega) | (change (_ : Int) < _; omega) | (change (_ : Nat) * 1 ≤ _; omega) | (change (_ : Nat) * 48 ≤ _; omega) | (change (_ : Nat) * 24 ≤ _; omega) | (change (_ : Nat) * 8 ≤ _; omega) | (change (_ : Nat) * 64 ≤ _; omega) | decide)); done)); (conv => lhs; whnf); (try simp (maxSteps := 2000000) (disch := omega) only [nI64, nU64, nU32, nU8, nSubL, nAddL, nAdd, nSub, nDiv, nMod, nZ, nLit, row_3, row_5, row_16, row_22, row_28, row_46, row_48, row_108, row_115, Ty.den, dflt_it, dflt_li, dflt_kv, Int.toNat_natCast, List.take_length, List.drop_zero]))
      have e : ((n : Int) + (((l.getD i kvd).1.length : Int) + ((l.getD i kvd).2.1.length : Int))) = ((n + szKV (l.getD i kvd) : Nat) : Int) := by unfold szKV; omega
      rw [e]
      refine hK (i + 1, out, fr, n + szKV (l.getD i kvd)) ⟨by show i + 1 ≤ l.length; omega, by show fr ≤ i + 1; omega, by show n + szKV _ + total (l.drop (i + 1)) ≤ 5000; unfold szKV; omega, by show out.length ≤ i + 1; omega, ?_⟩ (by show l.length - (i + 1) < l.length - i; omega)
      show out ++ pcs m ((l.take (i + 1)).drop fr) (n + szKV (l.getD i kvd)) (l.drop (i + 1)) = _
      rw [htk, List.drop_append_of_le_length (by rw [List.length_take]; omega), ← k5]
  · refine br_no (tst_f (by omega)) ?_
    conv => lhs; whnf
    try simp (maxSteps := 2000000) (disch := omega) only [nI64, nU64, nU32, nU8, nSubL, nAddL, nAdd, nSub, nDiv, nMod, nZ, nLit, row_3, row_5, row_16, row_22, row_28, row_46, row_48, row_108, row_115, Ty.den, dflt_it, dflt_li, dflt_kv, Int.toNat_natCast, List.take_length, List.drop_zero]
    rw [List.take_of_length_le (show l.length ≤ i by omega), List.drop_eq_nil_of_le (show l.length ≤ i by omega), pcs] at k5
    repeat (refine br_go ?_ ?_; (focus (((repeat' first | exact rfl | exact ordB_st rfl | exact ordB_of rfl | apply band | apply tst_t | apply nt_t)  <;> (try dsimp only [Ty.den, dflt_kv]) <;> (try simp only [List.length_append, List.length_cons, List.length_nil, List.length_take, List.length_drop, List.length_replicate]) <;> (first | trivial | assumption | omega | (change (_ : Int) ≤ _; omega) | (change (_ : Int) < _; omega) | (change (_ : Nat) * 1 ≤ _; omega) | (change (_ : Nat) * 48 ≤ _; omega) | (change (_ : Nat) * 24 ≤ _; omega) | (change (_ : Nat) * 8 ≤ _; omega) | (change (_ : Nat) * 64 ≤ _; omega) | decide)); done)); (conv => lhs; whnf); (try simp (maxSteps := 2000000) (disch := omega) only [nI64, nU64, nU32, nU8, nSubL, nAddL, nAdd, nSub, nDiv, nMod, nZ, nLit, row_3, row_5, row_16, row_22, row_28, row_46, row_48, row_108, row_115, Ty.den, dflt_it, dflt_li, dflt_kv, Int.toNat_natCast, List.take_length, List.drop_zero]))
    rw [← k5]
end Go.Proofs.Ytkdajonmfiipkaa.Ev
/- Tables: built by the program. -/
namespace Go.Proofs.Ytkdajonmfiipkaa.Ev
open Go Go.RowKit
set_option linter.unusedVariables false
set_option linter.unusedSimpArgs false
set_option maxRecDepth 100000
set_option maxHeartbeats 8000000
--safe fixedL_length, sum4_len
theorem sum4_len (x : List Int) : (sum4 x).length = x.length + 4 := by unfold sum4; rw [List.length_append, fixedL_length]
theorem builtGo_len (r : Nat) : ∀ (l : List KV) (p : List Int) (i : Nat) (out tail : List Int) (n : Nat), total l ≤ 1000000 → (builtGo r p i l out tail n).length ≤ out.length + tail.length + total l + 34 * l.length + 4
  | [], p, i, out, tail, n, h => by
    rw [builtGo, List.length_append, List.length_append, fixedL_length]; simp
  | x :: l, p, i, out, tail, n, h => by
    rw [total_cons] at h ⊢
    rw [builtGo, List.length_cons]
    split
    · have h1 := builtGo_len r l x.1 (i + 1) (out ++ entB 0 x) (tail ++ fixedL out.length 4) (n + 1) (by omega)
      have h2 := entB_length (k := 0) (x := x) (by omega) (by omega) (by omega)
      rw [List.length_append, List.length_append, fixedL_length] at h1
      omega
    · have h1 := builtGo_len r l x.1 (i + 1) (out ++ entB (sharedL p x.1) x) tail n (by omega)
      have h2 := entB_length (k := sharedL p x.1) (x := x) (by omega) (by omega) (sharedL_right p x.1)
      rw [List.length_append] at h1
      omega
theorem built_len {l : List KV} {r : Nat} (h : total l ≤ 1000000) : (built l r).length ≤ total l + 34 * l.length + 4 := by
  have := builtGo_len r l [] 0 [] [] 0 h
  simpa [built] using this
theorem foldl_len {α : Type} (f : List Int → α → List Int) (h : ∀ b x, (f b x).length = b.length) : ∀ (l : List α) (b : List Int), (l.foldl f b).length = b.length
  | [], b => rfl
  | x :: l, b => by rw [List.foldl_cons, foldl_len f h l, h]
theorem keyB_len (m k : Int) (b x : List Int) : (keyB m k b x).length = b.length := foldl_len bitB bitB_len _ _
theorem filterS_len {l : List (List Int)} {many E : Int} (h1 : 1 ≤ many) (h2 : many ≤ 64) (hl : l.length ≤ 1000) : (filterS l many E).1.length ≤ 8002 := by
  obtain ⟨q, n, _, _, hn, _, _, _, hn2⟩ := fil_nums l (by omega : ¬ many < 1) (by omega : ¬ many > 64) hl
  unfold filterS
  rw [if_neg (by omega)]
  show (_ ++ [_]).length ≤ 8002
  rw [List.length_append, foldl_len _ (keyB_len _ _), List.length_replicate, List.length_singleton]
  omega
noncomputable def tabSp : Sp := ⟨[kvl, planT], fun x => tst (few7 x.1), fun x => .tup [.own 0 by8 (tabR x.1 x.2.1.1 x.2.1.2.1 x.2.1.2.2.1 x.2.1.2.2.2.1).1, vI (tabR x.1 x.2.1.1 x.2.1.2.1 x.2.1.2.2.1 x.2.1.2.2.2.1).2]⟩
abbrev tbuildC : Ctx := ⟨rows, (fun | 0 => ([0, 3, 9, 10, 46, 47, 48], [0, 3, 9, 10]) | 1 => ([], [0, 3, 9, 10, 46, 47, 48]) | 2 => ([3, 9, 10, 16, 85, 86, 87], [3, 9, 10, 16]) | 3 => ([], [3, 9, 10, 16, 85, 86, 87]) | 4 => ([9, 24, 127, 128], [9, 24]) | 5 => ([], [9, 24, 127, 128]) | _ => ([], []))⟩
theorem tbuild_ok (T : Tab) (h1 : T 17 = checkSp.ent) (h2 : T 31 = buildSp.ent) (h3 : T 32 = piecesSp.ent) (h4 : T 33 = putSp.ent) (h5 : T 34 = sum4Sp.ent) (h6 : T 35 = userSp.ent) (h7 : T 36 = equalSp.ent) (h8 : T 37 = filterSp.ent) (h9 : T 38 = fixed8Sp.ent) : tabSp.Ok T tbuildC F13 := by
  rw [on_top h1, on_top h2, on_top h3, on_top h4, on_top h5, on_top h6, on_top h7, on_top h8, on_top h9]
  rintro ⟨(l : List KV), ⟨(b : Int), (r : Int), (ib : Int), (t : Int), u⟩, _⟩ hf hp
  cases u
  have hf1 : Fits kvl l := hf.1
  have hw : few7 l := tst_iff.1 hp
  obtain ⟨hl, ht⟩ := hw
  obtain ⟨F, hF⟩ : ∃ F : Nat, F = 3 * l.length + 20 := ⟨_, rfl⟩
  refine ⟨F, 0, ?_⟩
  show evFn _ _ _ _ _ [vK l, .d planT (b, r, ib, t, ())] [] _ = some (.tup [.own 0 by8 (tabR l b r ib t).1, vI (tabR l b r ib t).2] : V)
  conv => lhs; whnf
  try simp (maxSteps := 2000000) (disch := omega) only [nI64, nU64, nU32, nU8, nSubL, nAddL, nAdd, nSub, nDiv, nMod, nZ, nLit, row_3, row_5, row_16, row_22, row_28, row_46, row_48, row_108, row_115, Ty.den, dflt_it, dflt_li, dflt_kv, Int.toNat_natCast, List.take_length, List.drop_zero]
  unfold tabR
  by_cases c1 : planOK b r ib t
  · rw [if_neg (show ¬ ¬ planOK b r ib t from fun h => h c1)]
    try simp (maxSteps := 2000000) (disch := omega) only [nI64, nU64, nU32, nU8, nSubL, nAddL, nAdd, nSub, nDiv, nMod, nZ, nLit, row_3, row_5, row_16, row_22, row_28, row_46, row_48, row_108, row_115, Ty.den, dflt_it, dflt_li, dflt_kv, Int.toNat_natCast, List.take_length, List.drop_zero, if_pos c1]
    repeat (refine br_go ?_ ?_; (focus (((repeat' first | exact rfl | exact ordB_st rfl | exact ordB_of rfl | apply band | apply tst_t | apply nt_t)  <;> (try dsimp only [Ty.den, dflt_kv]) <;> (try simp only [List.length_append, List.length_cons, List.length_nil, List.length_take, List.length_drop, List.length_replicate, fixedL_length, sum4_len]) <;> (first | trivial | assumption | omega | (change (_ : Int) ≤ _; omega) | (change (_ : Int) < _; omega) | (change (_ : Nat) * 1 ≤ _; omega) | (change (_ : Nat) * 48 ≤ _; omega) | (change (_ : Nat) * 24 ≤ _; omega) | (change (_ : Nat) * 8 ≤ _; omega) | (change (_ : Nat) * 64 ≤ _; omega) | decide)); done)); (conv => lhs; whnf); (try simp (maxSteps := 2000000) (disch := omega) only [nI64, nU64, nU32, nU8, nSubL, nAddL, nAdd, nSub, nDiv, nMod, nZ, nLit, row_3, row_5, row_16, row_22, row_28, row_46, row_48, row_108, row_115, Ty.den, dflt_it, dflt_li, dflt_kv, Int.toNat_natCast, List.take_length, List.drop_zero]))
    refine br_no (tst_f ((by decide))) ?_
    conv => lhs; whnf
    try simp (maxSteps := 2000000) (disch := omega) only [nI64, nU64, nU32, nU8, nSubL, nAddL, nAdd, nSub, nDiv, nMod, nZ, nLit, row_3, row_5, row_16, row_22, row_28, row_46, row_48, row_108, row_115, Ty.den, dflt_it, dflt_li, dflt_kv, Int.toNat_natCast, List.take_length, List.drop_zero]
    repeat (refine br_go ?_ ?_; (focus (((repeat' first | exact rfl | exact ordB_st rfl | exact ordB_of rfl | apply band | apply tst_t | apply nt_t)  <;> (try dsimp only [Ty.den, dflt_kv]) <;> (try simp only [List.length_append, List.length_cons, List.length_nil, List.length_take, List.length_drop, List.length_replicate, fixedL_length, sum4_len]) <;> (first | trivial | assumption | omega | (change (_ : Int) ≤ _; omega) | (change (_ : Int) < _; omega) | (change (_ : Nat) * 1 ≤ _; omega) | (change (_ : Nat) * 48 ≤ _; omega) | (change (_ : Nat) * 24 ≤ _; omega) | (change (_ : Nat) * 8 ≤ _; omega) | (change (_ : Nat) * 64 ≤ _; omega) | decide)); done)); (conv => lhs; whnf); (try simp (maxSteps := 2000000) (disch := omega) only [nI64, nU64, nU32, nU8, nSubL, nAddL, nAdd, nSub, nDiv, nMod, nZ, nLit, row_3, row_5, row_16, row_22, row_28, row_46, row_48, row_108, row_115, Ty.den, dflt_it, dflt_li, dflt_kv, Int.toNat_natCast, List.take_length, List.drop_zero]))
    by_cases c2 : l.length = 0
    · rw [if_pos c2]
      refine br_go (tst_t (by omega)) ?_
      conv => lhs; whnf
      try simp (maxSteps := 2000000) (disch := omega) only [nI64, nU64, nU32, nU8, nSubL, nAddL, nAdd, nSub, nDiv, nMod, nZ, nLit, row_3, row_5, row_16, row_22, row_28, row_46, row_48, row_108, row_115, Ty.den, dflt_it, dflt_li, dflt_kv, Int.toNat_natCast, List.take_length, List.drop_zero]
      repeat (refine br_go ?_ ?_; (focus (((repeat' first | exact rfl | exact ordB_st rfl | exact ordB_of rfl | apply band | apply tst_t | apply nt_t)  <;> (try dsimp only [Ty.den, dflt_kv]) <;> (try simp only [List.length_append, List.length_cons, List.length_nil, List.length_take, List.length_drop, List.length_replicate, fixedL_length, sum4_len]) <;> (first | trivial | assumption | omega | (change (_ : Int) ≤ _; omega) | (change (_ : Int) < _; omega) | (change (_ : Nat) * 1 ≤ _; omega) | (change (_ : Nat) * 48 ≤ _; omega) | (change (_ : Nat) * 24 ≤ _; omega) | (change (_ : Nat) * 8 ≤ _; omega) | (change (_ : Nat) * 64 ≤ _; omega) | decide)); done)); (conv => lhs; whnf); (try simp (maxSteps := 2000000) (disch := omega) only [nI64, nU64, nU32, nU8, nSubL, nAddL, nAdd, nSub, nDiv, nMod, nZ, nLit, row_3, row_5, row_16, row_22, row_28, row_46, row_48, row_108, row_115, Ty.den, dflt_it, dflt_li, dflt_kv, Int.toNat_natCast, List.take_length, List.drop_zero]))
    · rw [if_neg c2]
      refine br_no (tst_f (by omega)) ?_
      conv => lhs; whnf
      try simp (maxSteps := 2000000) (disch := omega) only [nI64, nU64, nU32, nU8, nSubL, nAddL, nAdd, nSub, nDiv, nMod, nZ, nLit, row_3, row_5, row_16, row_22, row_28, row_46, row_48, row_108, row_115, Ty.den, dflt_it, dflt_li, dflt_kv, Int.toNat_natCast, List.take_length, List.drop_zero]
      have hfair : Fair l := ⟨by omega, by omega⟩
      repeat (refine br_go ?_ ?_; (focus (((repeat' first | exact rfl | exact ordB_st rfl | exact ordB_of rfl | apply band | apply tst_t | apply nt_t)  <;> (try dsimp only [Ty.den, dflt_kv]) <;> (try simp only [List.length_append, List.length_cons, List.length_nil, List.length_take, List.length_drop, List.length_replicate, fixedL_length, sum4_len]) <;> (first | trivial | assumption | omega | (change (_ : Int) ≤ _; omega) | (change (_ : Int) < _; omega) | (change (_ : Nat) * 1 ≤ _; omega) | (change (_ : Nat) * 48 ≤ _; omega) | (change (_ : Nat) * 24 ≤ _; omega) | (change (_ : Nat) * 8 ≤ _; omega) | (change (_ : Nat) * 64 ≤ _; omega) | decide)); done)); (conv => lhs; whnf); (try simp (maxSteps := 2000000) (disch := omega) only [nI64, nU64, nU32, nU8, nSubL, nAddL, nAdd, nSub, nDiv, nMod, nZ, nLit, row_3, row_5, row_16, row_22, row_28, row_46, row_48, row_108, row_115, Ty.den, dflt_it, dflt_li, dflt_kv, Int.toNat_natCast, List.take_length, List.drop_zero]))
      by_cases c3 : Rises l
      · have eb : buildS l 1 71 70 = (built l 1, 0) := by unfold buildS; rw [if_neg (by omega), if_pos c3]; rfl
        rw [if_neg (show ¬ ¬ Rises l from fun h => h c3)]
        try simp (maxSteps := 2000000) (disch := omega) only [nI64, nU64, nU32, nU8, nSubL, nAddL, nAdd, nSub, nDiv, nMod, nZ, nLit, row_3, row_5, row_16, row_22, row_28, row_46, row_48, row_108, row_115, Ty.den, dflt_it, dflt_li, dflt_kv, Int.toNat_natCast, List.take_length, List.drop_zero, eb]
        refine br_no (tst_f ((by decide))) ?_
        conv => lhs; whnf
        try simp (maxSteps := 2000000) (disch := omega) only [nI64, nU64, nU32, nU8, nSubL, nAddL, nAdd, nSub, nDiv, nMod, nZ, nLit, row_3, row_5, row_16, row_22, row_28, row_46, row_48, row_108, row_115, Ty.den, dflt_it, dflt_li, dflt_kv, Int.toNat_natCast, List.take_length, List.drop_zero]
        repeat (refine br_go ?_ ?_; (focus (((repeat' first | exact rfl | exact ordB_st rfl | exact ordB_of rfl | apply band | apply tst_t | apply nt_t)  <;> (try dsimp only [Ty.den, dflt_kv]) <;> (try simp only [List.length_append, List.length_cons, List.length_nil, List.length_take, List.length_drop, List.length_replicate, fixedL_length, sum4_len]) <;> (first | trivial | assumption | omega | (change (_ : Int) ≤ _; omega) | (change (_ : Int) < _; omega) | (change (_ : Nat) * 1 ≤ _; omega) | (change (_ : Nat) * 48 ≤ _; omega) | (change (_ : Nat) * 24 ≤ _; omega) | (change (_ : Nat) * 8 ≤ _; omega) | (change (_ : Nat) * 64 ≤ _; omega) | decide)); done)); (conv => lhs; whnf); (try simp (maxSteps := 2000000) (disch := omega) only [nI64, nU64, nU32, nU8, nSubL, nAddL, nAdd, nSub, nDiv, nMod, nZ, nLit, row_3, row_5, row_16, row_22, row_28, row_46, row_48, row_108, row_115, Ty.den, dflt_it, dflt_li, dflt_kv, Int.toNat_natCast, List.take_length, List.drop_zero]))
        have c1' := c1
        unfold planOK at c1'
        have hp2 : piecesSp.pre (l, b, ()) = true := by
          show (tst (few7 l) && tst (1 ≤ b)) = true
          rw [tst_t (show few7 l from ⟨hl, ht⟩), tst_t (by omega)]; rfl
        refine br_go (hp2) ?_
        conv => lhs; whnf
        try simp (maxSteps := 2000000) (disch := omega) only [nI64, nU64, nU32, nU8, nSubL, nAddL, nAdd, nSub, nDiv, nMod, nZ, nLit, row_3, row_5, row_16, row_22, row_28, row_46, row_48, row_108, row_115, Ty.den, dflt_it, dflt_li, dflt_kv, Int.toNat_natCast, List.take_length, List.drop_zero]
        repeat (refine br_go ?_ ?_; (focus (((repeat' first | exact rfl | exact ordB_st rfl | exact ordB_of rfl | apply band | apply tst_t | apply nt_t)  <;> (try dsimp only [Ty.den, dflt_kv]) <;> (try simp only [List.length_append, List.length_cons, List.length_nil, List.length_take, List.length_drop, List.length_replicate, fixedL_length, sum4_len]) <;> (first | trivial | assumption | omega | (change (_ : Int) ≤ _; omega) | (change (_ : Int) < _; omega) | (change (_ : Nat) * 1 ≤ _; omega) | (change (_ : Nat) * 48 ≤ _; omega) | (change (_ : Nat) * 24 ≤ _; omega) | (change (_ : Nat) * 8 ≤ _; omega) | (change (_ : Nat) * 64 ≤ _; omega) | decide)); done)); (conv => lhs; whnf); (try simp (maxSteps := 2000000) (disch := omega) only [nI64, nU64, nU32, nU8, nSubL, nAddL, nAdd, nSub, nDiv, nMod, nZ, nLit, row_3, row_5, row_16, row_22, row_28, row_46, row_48, row_108, row_115, Ty.den, dflt_it, dflt_li, dflt_kv, Int.toNat_natCast, List.take_length, List.drop_zero]))
        have hb0 : 0 < b.toNat := by omega
        have hlne : l ≠ [] := fun h => c2 (by rw [h]; rfl)
        have hPr : ∀ p ∈ pcs b.toNat [] 0 l, (p ≠ [] ∧ Rises p) ∧ total p ≤ 5000 ∧ p.length ≤ 60 := fun p hp => by
          have h1 := total_mem hp
          rw [pcs_flat, List.nil_append] at h1
          exact ⟨⟨pcs_ne0 hb0 hlne p hp, pc_rises c3 hp⟩, by omega, by omega⟩
        have hPl := pcs_len b.toNat l [] 0
        have hRr := tab_rises c3 hb0 hlne r.toNat
        unfold tabS
        generalize hP : pcs b.toNat [] 0 l = P at *
        generalize hR : P.foldl (tabStep r.toNat) ([], []) = R at *
        refine loop_rule (α := Nat × List Int × List KV) (fun s => s.1 ≤ P.length ∧ (P.drop s.1).foldl (tabStep r.toNat) (s.2.1, s.2.2) = R ∧ s.2.1.length ≤ 8000 * s.1 ∧ s.2.2.length = s.1 ∧ total s.2.2 ≤ 5030 * s.1) (fun s => P.length - s.1)
          (fun s => (vK l :: V.bad :: V.bad :: V.p 0 0 :: V.bad :: V.bad :: V.bad :: V.bad :: V.bad :: vO 6 s.2.1 :: V.own 7 kv s.2.2 :: V.bad :: V.bad :: V.bad :: V.bad :: V.bad :: V.bad :: V.bad :: V.bad :: V.bad :: V.bad :: V.bad :: V.bad :: V.bad :: V.bad :: V.bad :: V.bad :: V.bad :: V.bad :: V.bad :: V.bad :: V.bad :: V.bad :: V.bad :: V.bad :: V.bad :: V.bad :: V.bad :: V.bad :: V.bad :: V.bad :: V.bad :: V.bad :: V.bad :: V.bad :: V.bad :: V.own 8 kvl P :: vI P.length :: vI s.1 :: V.bad :: V.bad :: V.bad :: V.bad :: V.bad :: V.bad :: V.bad :: V.bad :: V.bad :: V.bad :: V.bad :: V.bad :: V.bad :: V.bad :: V.bad :: V.bad :: V.bad :: V.bad :: V.bad :: V.bad :: V.bad :: V.bad :: V.bad :: V.bad :: V.bad :: V.bad :: V.bad :: V.bad :: V.bad :: V.bad :: V.bad :: V.bad :: V.bad :: V.bad :: V.bad :: V.bad :: V.bad :: V.bad :: V.bad :: V.bad :: V.bad :: V.bad :: V.bad :: V.bad :: V.bad :: V.bad :: V.bad :: V.bad :: V.bad :: V.bad :: V.bad :: V.bad :: V.bad :: V.bad :: V.bad :: V.bad :: V.bad :: V.bad :: V.bad :: V.bad :: V.bad :: V.bad :: V.bad :: V.bad :: V.bad :: V.bad :: V.bad :: V.bad :: V.bad :: V.bad :: V.bad :: V.bad :: V.bad :: V.bad :: V.bad :: V.bad :: V.bad :: V.bad :: V.bad :: V.bad :: V.bad :: V.bad :: V.bad :: V.bad :: V.bad :: V.bad :: V.bad :: V.bad :: V.bad :: V.bad :: V.bad :: V.bad :: V.bad :: V.bad :: V.bad :: V.bad :: V.bad :: V.bad :: V.bad :: V.bad :: V.bad :: V.bad :: V.bad :: []))
          (fun s => [.obj (flatT planT (b, r, ib, t, ())), .fam 0, .gone, .gone, .fam (built l 1).length, .gone, .fam s.2.1.length, .fam s.2.2.length, .fam P.length, .gone])
          (fun _ => some (V.tup [vO 0 (tabEnd R (filterS (usersGo none l) ib 71).1), vI 0])) ?_ F (0, [], []) ⟨Nat.zero_le _, hR, Nat.zero_le _, rfl, Nat.zero_le _⟩ (by show P.length - 0 < F; omega)
        rintro ⟨i, out, ix⟩ K ⟨k1, k2, k3, k4, k5⟩ hK
        simp only at k1 k2 k3 k4 k5 hK ⊢
        conv => lhs; whnf
        try simp (maxSteps := 2000000) (disch := omega) only [nI64, nU64, nU32, nU8, nSubL, nAddL, nAdd, nSub, nDiv, nMod, nZ, nLit, row_3, row_5, row_16, row_22, row_28, row_46, row_48, row_108, row_115, Ty.den, dflt_it, dflt_li, dflt_kv, Int.toNat_natCast, List.take_length, List.drop_zero]
        by_cases hi : i < P.length
        · refine br_go (tst_t (by omega)) ?_
          conv => lhs; whnf
          try simp (maxSteps := 2000000) (disch := omega) only [nI64, nU64, nU32, nU8, nSubL, nAddL, nAdd, nSub, nDiv, nMod, nZ, nLit, row_3, row_5, row_16, row_22, row_28, row_46, row_48, row_108, row_115, Ty.den, dflt_it, dflt_li, dflt_kv, Int.toNat_natCast, List.take_length, List.drop_zero]
          have hpm := hPr (P.getD i []) (by rw [getD_at hi]; exact List.getElem_mem hi)
          obtain ⟨⟨p1, p2⟩, p3, p4⟩ := hpm
          have hp0 : 0 < (P.getD i []).length := List.length_pos_iff.2 p1
          have ep : buildS (P.getD i []) r 71 70 = (built (P.getD i []) r.toNat, 0) := by unfold buildS; rw [if_neg (by omega), if_pos p2]
          have hd := drop_at (d := ([] : List KV)) hi
          rw [hd, List.foldl_cons] at k2
          have hbl := built_len (l := P.getD i []) (r := r.toNat) (by omega)
          have q1 := putS_len10 (n := out.length) (by omega)
          have q2 := putS_len10 (n := (built (P.getD i []) r.toNat).length) (by omega)
          have q4 := fixedL_length (sumS (built (P.getD i []) r.toNat)) 4
          have hfp : Fair (P.getD i []) := ⟨by omega, by omega⟩
          repeat (refine br_go ?_ ?_; (focus (((repeat' first | exact rfl | exact ordB_st rfl | exact ordB_of rfl | apply band | apply tst_t | apply nt_t)  <;> (try dsimp only [Ty.den, dflt_kv]) <;> (try simp only [List.length_append, List.length_cons, List.length_nil, List.length_take, List.length_drop, List.length_replicate, fixedL_length, sum4_len]) <;> (first | trivial | assumption | omega | (change (_ : Int) ≤ _; omega) | (change (_ : Int) < _; omega) | (change (_ : Nat) * 1 ≤ _; omega) | (change (_ : Nat) * 48 ≤ _; omega) | (change (_ : Nat) * 24 ≤ _; omega) | (change (_ : Nat) * 8 ≤ _; omega) | (change (_ : Nat) * 64 ≤ _; omega) | decide)); done)); (conv => lhs; whnf); (try simp (maxSteps := 2000000) (disch := omega) only [nI64, nU64, nU32, nU8, nSubL, nAddL, nAdd, nSub, nDiv, nMod, nZ, nLit, row_3, row_5, row_16, row_22, row_28, row_46, row_48, row_108, row_115, Ty.den, dflt_it, dflt_li, dflt_kv, Int.toNat_natCast, List.take_length, List.drop_zero]))
          have hs4 : (sum4 (built (P.getD i []) r.toNat)).length = (built (P.getD i []) r.toNat).length + 4 := by unfold sum4; rw [List.length_append, q4]
          try simp (maxSteps := 2000000) (disch := omega) only [nI64, nU64, nU32, nU8, nSubL, nAddL, nAdd, nSub, nDiv, nMod, nZ, nLit, row_3, row_5, row_16, row_22, row_28, row_46, row_48, row_108, row_115, Ty.den, dflt_it, dflt_li, dflt_kv, Int.toNat_natCast, List.take_length, List.drop_zero, ep]
          repeat (refine br_go ?_ ?_; (focus (((repeat' first | exact rfl | exact ordB_st rfl | exact ordB_of rfl | apply band | apply tst_t | apply nt_t)  <;> (try dsimp only [Ty.den, dflt_kv]) <;> (try simp only [List.length_append, List.length_cons, List.length_nil, List.length_take, List.length_drop, List.length_replicate, fixedL_length, sum4_len]) <;> (first | trivial | assumption | omega | (change (_ : Int) ≤ _; omega) | (change (_ : Int) < _; omega) | (change (_ : Nat) * 1 ≤ _; omega) | (change (_ : Nat) * 48 ≤ _; omega) | (change (_ : Nat) * 24 ≤ _; omega) | (change (_ : Nat) * 8 ≤ _; omega) | (change (_ : Nat) * 64 ≤ _; omega) | decide)); done)); (conv => lhs; whnf); (try simp (maxSteps := 2000000) (disch := omega) only [nI64, nU64, nU32, nU8, nSubL, nAddL, nAdd, nSub, nDiv, nMod, nZ, nLit, row_3, row_5, row_16, row_22, row_28, row_46, row_48, row_108, row_115, Ty.den, dflt_it, dflt_li, dflt_kv, Int.toNat_natCast, List.take_length, List.drop_zero]))
          have hkl : ((P.getD i []).getD ((P.getD i []).length - 1) kvd).1.length ≤ 5000 := by
            have h0 : ∀ (q : List KV), 0 < q.length → q.getD (q.length - 1) kvd ∈ q := fun q hq => by rw [getD_at (by omega)]; exact List.getElem_mem _
            have h1 := h0 _ hp0
            have h2 : ∀ (q : List KV) (x : KV), x ∈ q → x.1.length ≤ total q := fun q x hx => by
              induction q with
              | nil => cases hx
              | cons y q ih =>
                rw [total_cons]
                rcases List.mem_cons.1 hx with rfl | hx
                · omega
                · have := ih hx; omega
            have := h2 _ _ h1; omega
          refine hK (i + 1, out ++ sum4 (built (P.getD i []) r.toNat), ix ++ [(((P.getD i []).getD ((P.getD i []).length - 1) kvd).1, putS out.length ++ putS (built (P.getD i []) r.toNat).length, ())]) ⟨by show i + 1 ≤ _; omega, k2, by show (out ++ _).length ≤ 8000 * (i + 1); rw [List.length_append]; omega, by show (ix ++ _).length = i + 1; rw [List.length_append, k4]; rfl, ?_⟩ (by show P.length - (i + 1) < P.length - i; omega)
          show total (ix ++ _) ≤ 5030 * (i + 1)
          rw [total_app, total_cons]
          show total ix + ((((P.getD i []).getD ((P.getD i []).length - 1) kvd).1.length) + (putS out.length ++ putS (built (P.getD i []) r.toNat).length).length + 0) ≤ _
          rw [List.length_append]
          omega
        · refine br_no (tst_f (by omega)) ?_
          conv => lhs; whnf
          try simp (maxSteps := 2000000) (disch := omega) only [nI64, nU64, nU32, nU8, nSubL, nAddL, nAdd, nSub, nDiv, nMod, nZ, nLit, row_3, row_5, row_16, row_22, row_28, row_46, row_48, row_108, row_115, Ty.den, dflt_it, dflt_li, dflt_kv, Int.toNat_natCast, List.take_length, List.drop_zero]
          repeat (refine br_go ?_ ?_; (focus (((repeat' first | exact rfl | exact ordB_st rfl | exact ordB_of rfl | apply band | apply tst_t | apply nt_t)  <;> (try dsimp only [Ty.den, dflt_kv]) <;> (try simp only [List.length_append, List.length_cons, List.length_nil, List.length_take, List.length_drop, List.length_replicate, fixedL_length, sum4_len]) <;> (first | trivial | assumption | omega | (change (_ : Int) ≤ _; omega) | (change (_ : Int) < _; omega) | (change (_ : Nat) * 1 ≤ _; omega) | (change (_ : Nat) * 48 ≤ _; omega) | (change (_ : Nat) * 24 ≤ _; omega) | (change (_ : Nat) * 8 ≤ _; omega) | (change (_ : Nat) * 64 ≤ _; omega) | decide)); done)); (conv => lhs; whnf); (try simp (maxSteps := 2000000) (disch := omega) only [nI64, nU64, nU32, nU8, nSubL, nAddL, nAdd, nSub, nDiv, nMod, nZ, nLit, row_3, row_5, row_16, row_22, row_28, row_46, row_48, row_108, row_115, Ty.den, dflt_it, dflt_li, dflt_kv, Int.toNat_natCast, List.take_length, List.drop_zero]))
          have k2' : (out, ix) = R := by
            rw [List.drop_eq_nil_of_le (by omega)] at k2
            exact k2
          subst k2'
          refine loop_rule (α := Nat × List (List Int)) (fun s => s.1 ≤ l.length ∧ s.2 ++ usersGo (if s.1 = 0 then none else some (split (l.getD (s.1 - 1) kvd).1).1) (l.drop s.1) = usersGo none l ∧ s.2.length ≤ s.1 ∧ (0 < s.1 → 0 < s.2.length ∧ s.2.getD (s.2.length - 1) [] = (split (l.getD (s.1 - 1) kvd).1).1)) (fun s => l.length - s.1)
            (fun s => (V.bad :: V.bad :: V.bad :: V.p 0 0 :: V.bad :: V.bad :: V.bad :: V.bad :: V.bad :: vO 6 out :: V.own 7 kv ix :: V.bad :: V.bad :: V.bad :: V.bad :: V.bad :: V.own 10 byl s.2 :: V.bad :: V.bad :: V.bad :: V.bad :: V.bad :: V.bad :: V.bad :: V.bad :: V.bad :: V.bad :: V.bad :: V.bad :: V.bad :: V.bad :: V.bad :: V.bad :: V.bad :: V.bad :: V.bad :: V.bad :: V.bad :: V.bad :: V.bad :: V.bad :: V.bad :: V.bad :: V.bad :: V.bad :: V.bad :: V.bad :: V.bad :: V.bad :: V.bad :: V.bad :: V.bad :: V.bad :: V.bad :: V.bad :: V.bad :: V.bad :: V.bad :: V.bad :: V.bad :: V.bad :: V.bad :: V.bad :: V.bad :: V.bad :: V.bad :: V.bad :: V.bad :: V.bad :: V.bad :: V.bad :: V.bad :: V.bad :: V.bad :: V.bad :: V.bad :: V.bad :: V.bad :: V.bad :: V.bad :: V.bad :: V.bad :: V.bad :: V.bad :: V.bad :: vK l :: vI l.length :: vI s.1 :: V.bad :: V.bad :: V.bad :: V.bad :: V.bad :: V.bad :: V.bad :: V.bad :: V.bad :: V.bad :: V.bad :: V.bad :: V.bad :: V.bad :: V.bad :: V.bad :: V.bad :: V.bad :: V.bad :: V.bad :: V.bad :: V.bad :: V.bad :: V.bad :: V.bad :: V.bad :: V.bad :: V.bad :: V.bad :: V.bad :: V.bad :: V.bad :: V.bad :: V.bad :: V.bad :: V.bad :: V.bad :: V.bad :: V.bad :: V.bad :: V.bad :: V.bad :: V.bad :: V.bad :: V.bad :: V.bad :: V.bad :: V.bad :: V.bad :: V.bad :: V.bad :: V.bad :: V.bad :: V.bad :: V.bad :: V.bad :: V.bad :: V.bad :: V.bad :: V.bad :: V.bad :: V.bad :: V.bad :: V.bad :: []))
            (fun s => [.obj (flatT planT (b, r, ib, t, ())), .fam 0, .gone, .gone, .fam (built l 1).length, .gone, .fam out.length, .fam ix.length, .fam P.length, .gone, .fam s.2.length, .gone])
            (fun _ => some (V.tup [vO 0 (tabEnd (out, ix) (filterS (usersGo none l) ib 71).1), vI 0])) ?_ F (0, []) ⟨Nat.zero_le _, rfl, Nat.le_refl _, fun h => absurd h (by omega)⟩ (by show l.length - 0 < F; omega)
          rintro ⟨j, us⟩ K2 ⟨u1, u2, u3, u4⟩ hK2
          simp only at u1 u2 u3 u4 hK2 ⊢
          conv => lhs; whnf
          try simp (maxSteps := 2000000) (disch := omega) only [nI64, nU64, nU32, nU8, nSubL, nAddL, nAdd, nSub, nDiv, nMod, nZ, nLit, row_3, row_5, row_16, row_22, row_28, row_46, row_48, row_108, row_115, Ty.den, dflt_it, dflt_li, dflt_kv, Int.toNat_natCast, List.take_length, List.drop_zero]
          by_cases hj : j < l.length
          · refine br_go (tst_t (by omega)) ?_
            conv => lhs; whnf
            try simp (maxSteps := 2000000) (disch := omega) only [nI64, nU64, nU32, nU8, nSubL, nAddL, nAdd, nSub, nDiv, nMod, nZ, nLit, row_3, row_5, row_16, row_22, row_28, row_46, row_48, row_108, row_115, Ty.den, dflt_it, dflt_li, dflt_kv, Int.toNat_natCast, List.take_length, List.drop_zero]
            have hdj := drop_at (d := kvd) hj
            rw [hdj, usersGo] at u2
            repeat (refine br_go ?_ ?_; (focus (((repeat' first | exact rfl | exact ordB_st rfl | exact ordB_of rfl | apply band | apply tst_t | apply nt_t)  <;> (try dsimp only [Ty.den, dflt_kv]) <;> (try simp only [List.length_append, List.length_cons, List.length_nil, List.length_take, List.length_drop, List.length_replicate, fixedL_length, sum4_len]) <;> (first | trivial | assumption | omega | (change (_ : Int) ≤ _; omega) | (change (_ : Int) < _; omega) | (change (_ : Nat) * 1 ≤ _; omega) | (change (_ : Nat) * 48 ≤ _; omega) | (change (_ : Nat) * 24 ≤ _; omega) | (change (_ : Nat) * 8 ≤ _; omega) | (change (_ : Nat) * 64 ≤ _; omega) | decide)); done)); (conv => lhs; whnf); (try simp (maxSteps := 2000000) (disch := omega) only [nI64, nU64, nU32, nU8, nSubL, nAddL, nAdd, nSub, nDiv, nMod, nZ, nLit, row_3, row_5, row_16, row_22, row_28, row_46, row_48, row_108, row_115, Ty.den, dflt_it, dflt_li, dflt_kv, Int.toNat_natCast, List.take_length, List.drop_zero]))
            by_cases hz : j = 0
            · have c0 : tst ((j : Int) = 0) = true := tst_t (by omega)
              try simp (maxSteps := 2000000) (disch := omega) only [nI64, nU64, nU32, nU8, nSubL, nAddL, nAdd, nSub, nDiv, nMod, nZ, nLit, row_3, row_5, row_16, row_22, row_28, row_46, row_48, row_108, row_115, Ty.den, dflt_it, dflt_li, dflt_kv, Int.toNat_natCast, List.take_length, List.drop_zero, c0]
              conv => lhs; whnf
              try simp (maxSteps := 2000000) (disch := omega) only [nI64, nU64, nU32, nU8, nSubL, nAddL, nAdd, nSub, nDiv, nMod, nZ, nLit, row_3, row_5, row_16, row_22, row_28, row_46, row_48, row_108, row_115, Ty.den, dflt_it, dflt_li, dflt_kv, Int.toNat_natCast, List.take_length, List.drop_zero]
              repeat (refine br_go ?_ ?_; (focus (((repeat' first | exact rfl | exact ordB_st rfl | exact ordB_of rfl | apply band | apply tst_t | apply nt_t)  <;> (try dsimp only [Ty.den, dflt_kv]) <;> (try simp only [List.length_append, List.length_cons, List.length_nil, List.length_take, List.length_drop, List.length_replicate, fixedL_length, sum4_len]) <;> (first | trivial | assumption | omega | (change (_ : Int) ≤ _; omega) | (change (_ : Int) < _; omega) | (change (_ : Nat) * 1 ≤ _; omega) | (change (_ : Nat) * 48 ≤ _; omega) | (change (_ : Nat) * 24 ≤ _; omega) | (change (_ : Nat) * 8 ≤ _; omega) | (change (_ : Nat) * 64 ≤ _; omega) | decide)); done)); (conv => lhs; whnf); (try simp (maxSteps := 2000000) (disch := omega) only [nI64, nU64, nU32, nU8, nSubL, nAddL, nAdd, nSub, nDiv, nMod, nZ, nLit, row_3, row_5, row_16, row_22, row_28, row_46, row_48, row_108, row_115, Ty.den, dflt_it, dflt_li, dflt_kv, Int.toNat_natCast, List.take_length, List.drop_zero]))
              rw [if_pos hz, if_neg (by simp)] at u2
              refine hK2 (j + 1, us ++ [(split (l.getD j kvd).1).1]) ⟨by show j + 1 ≤ _; omega, ?_, by show (us ++ _).length ≤ j + 1; rw [List.length_append]; simp; omega, fun _ => ⟨by show 0 < (us ++ _).length; rw [List.length_append]; simp, ?_⟩⟩ (by show l.length - (j + 1) < l.length - j; omega)
              · show (us ++ _) ++ usersGo (if j + 1 = 0 then none else some (split (l.getD (j + 1 - 1) kvd).1).1) (l.drop (j + 1)) = _
                rw [if_neg (by omega), Nat.add_sub_cancel, ← u2, List.append_assoc]; rfl
              · show (us ++ [_]).getD ((us ++ [_]).length - 1) [] = _
                rw [List.length_append, Nat.add_sub_cancel]
                simp [List.getD_eq_getElem?_getD]
            · have c0 : tst ((j : Int) = 0) = false := tst_f (by omega)
              try simp (maxSteps := 2000000) (disch := omega) only [nI64, nU64, nU32, nU8, nSubL, nAddL, nAdd, nSub, nDiv, nMod, nZ, nLit, row_3, row_5, row_16, row_22, row_28, row_46, row_48, row_108, row_115, Ty.den, dflt_it, dflt_li, dflt_kv, Int.toNat_natCast, List.take_length, List.drop_zero, c0]
              conv => lhs; whnf
              try simp (maxSteps := 2000000) (disch := omega) only [nI64, nU64, nU32, nU8, nSubL, nAddL, nAdd, nSub, nDiv, nMod, nZ, nLit, row_3, row_5, row_16, row_22, row_28, row_46, row_48, row_108, row_115, Ty.den, dflt_it, dflt_li, dflt_kv, Int.toNat_natCast, List.take_length, List.drop_zero]
              obtain ⟨u5, u6⟩ := u4 (by omega)
              rw [if_neg hz] at u2
              repeat (refine br_go ?_ ?_; (focus (((repeat' first | exact rfl | exact ordB_st rfl | exact ordB_of rfl | apply band | apply tst_t | apply nt_t)  <;> (try dsimp only [Ty.den, dflt_kv]) <;> (try simp only [List.length_append, List.length_cons, List.length_nil, List.length_take, List.length_drop, List.length_replicate, fixedL_length, sum4_len]) <;> (first | trivial | assumption | omega | (change (_ : Int) ≤ _; omega) | (change (_ : Int) < _; omega) | (change (_ : Nat) * 1 ≤ _; omega) | (change (_ : Nat) * 48 ≤ _; omega) | (change (_ : Nat) * 24 ≤ _; omega) | (change (_ : Nat) * 8 ≤ _; omega) | (change (_ : Nat) * 64 ≤ _; omega) | decide)); done)); (conv => lhs; whnf); (try simp (maxSteps := 2000000) (disch := omega) only [nI64, nU64, nU32, nU8, nSubL, nAddL, nAdd, nSub, nDiv, nMod, nZ, nLit, row_3, row_5, row_16, row_22, row_28, row_46, row_48, row_108, row_115, Ty.den, dflt_it, dflt_li, dflt_kv, Int.toNat_natCast, List.take_length, List.drop_zero]))
              try simp (maxSteps := 2000000) (disch := omega) only [nI64, nU64, nU32, nU8, nSubL, nAddL, nAdd, nSub, nDiv, nMod, nZ, nLit, row_3, row_5, row_16, row_22, row_28, row_46, row_48, row_108, row_115, Ty.den, dflt_it, dflt_li, dflt_kv, Int.toNat_natCast, List.take_length, List.drop_zero, u6]
              by_cases hq : (split (l.getD j kvd).1).1 = (split (l.getD (j - 1) kvd).1).1
              · rw [if_pos (by rw [hq])] at u2
                refine br_no (nt_f hq) ?_
                conv => lhs; whnf
                try simp (maxSteps := 2000000) (disch := omega) only [nI64, nU64, nU32, nU8, nSubL, nAddL, nAdd, nSub, nDiv, nMod, nZ, nLit, row_3, row_5, row_16, row_22, row_28, row_46, row_48, row_108, row_115, Ty.den, dflt_it, dflt_li, dflt_kv, Int.toNat_natCast, List.take_length, List.drop_zero]
                repeat (refine br_go ?_ ?_; (focus (((repeat' first | exact rfl | exact ordB_st rfl | exact ordB_of rfl | apply band | apply tst_t | apply nt_t)  <;> (try dsimp only [Ty.den, dflt_kv]) <;> (try simp only [List.length_append, List.length_cons, List.length_nil, List.length_take, List.length_drop, List.length_replicate, fixedL_length, sum4_len]) <;> (first | trivial | assumption | omega | (change (_ : Int) ≤ _; omega) | (change (_ : Int) < _; omega) | (change (_ : Nat) * 1 ≤ _; omega) | (change (_ : Nat) * 48 ≤ _; omega) | (change (_ : Nat) * 24 ≤ _; omega) | (change (_ : Nat) * 8 ≤ _; omega) | (change (_ : Nat) * 64 ≤ _; omega) | decide)); done)); (conv => lhs; whnf); (try simp (maxSteps := 2000000) (disch := omega) only [nI64, nU64, nU32, nU8, nSubL, nAddL, nAdd, nSub, nDiv, nMod, nZ, nLit, row_3, row_5, row_16, row_22, row_28, row_46, row_48, row_108, row_115, Ty.den, dflt_it, dflt_li, dflt_kv, Int.toNat_natCast, List.take_length, List.drop_zero]))
                refine hK2 (j + 1, us) ⟨by show j + 1 ≤ _; omega, ?_, by show us.length ≤ j + 1; omega, fun _ => ⟨u5, ?_⟩⟩ (by show l.length - (j + 1) < l.length - j; omega)
                · show us ++ usersGo (if j + 1 = 0 then none else some (split (l.getD (j + 1 - 1) kvd).1).1) (l.drop (j + 1)) = _
                  rw [if_neg (by omega), Nat.add_sub_cancel, hq]; exact u2
                · show us.getD (us.length - 1) [] = (split (l.getD (j + 1 - 1) kvd).1).1
                  rw [Nat.add_sub_cancel, hq]; exact u6
              · rw [if_neg (fun h => hq (Option.some.inj h).symm)] at u2
                refine br_go (nt_t hq) ?_
                conv => lhs; whnf
                try simp (maxSteps := 2000000) (disch := omega) only [nI64, nU64, nU32, nU8, nSubL, nAddL, nAdd, nSub, nDiv, nMod, nZ, nLit, row_3, row_5, row_16, row_22, row_28, row_46, row_48, row_108, row_115, Ty.den, dflt_it, dflt_li, dflt_kv, Int.toNat_natCast, List.take_length, List.drop_zero]
                repeat (refine br_go ?_ ?_; (focus (((repeat' first | exact rfl | exact ordB_st rfl | exact ordB_of rfl | apply band | apply tst_t | apply nt_t)  <;> (try dsimp only [Ty.den, dflt_kv]) <;> (try simp only [List.length_append, List.length_cons, List.length_nil, List.length_take, List.length_drop, List.length_replicate, fixedL_length, sum4_len]) <;> (first | trivial | assumption | omega | (change (_ : Int) ≤ _; omega) | (change (_ : Int) < _; omega) | (change (_ : Nat) * 1 ≤ _; omega) | (change (_ : Nat) * 48 ≤ _; omega) | (change (_ : Nat) * 24 ≤ _; omega) | (change (_ : Nat) * 8 ≤ _; omega) | (change (_ : Nat) * 64 ≤ _; omega) | decide)); done)); (conv => lhs; whnf); (try simp (maxSteps := 2000000) (disch := omega) only [nI64, nU64, nU32, nU8, nSubL, nAddL, nAdd, nSub, nDiv, nMod, nZ, nLit, row_3, row_5, row_16, row_22, row_28, row_46, row_48, row_108, row_115, Ty.den, dflt_it, dflt_li, dflt_kv, Int.toNat_natCast, List.take_length, List.drop_zero]))
                refine hK2 (j + 1, us ++ [(split (l.getD j kvd).1).1]) ⟨by show j + 1 ≤ _; omega, ?_, by show (us ++ _).length ≤ j + 1; rw [List.length_append]; simp; omega, fun _ => ⟨by show 0 < (us ++ _).length; rw [List.length_append]; simp, ?_⟩⟩ (by show l.length - (j + 1) < l.length - j; omega)
                · show (us ++ _) ++ usersGo (if j + 1 = 0 then none else some (split (l.getD (j + 1 - 1) kvd).1).1) (l.drop (j + 1)) = _
                  rw [if_neg (by omega), Nat.add_sub_cancel, ← u2, List.append_assoc]; rfl
                · show (us ++ [_]).getD ((us ++ [_]).length - 1) [] = _
                  rw [List.length_append, Nat.add_sub_cancel]
                  simp [List.getD_eq_getElem?_getD]
          · refine br_no (tst_f (by omega)) ?_
            conv => lhs; whnf
            try simp (maxSteps := 2000000) (disch := omega) only [nI64, nU64, nU32, nU8, nSubL, nAddL, nAdd, nSub, nDiv, nMod, nZ, nLit, row_3, row_5, row_16, row_22, row_28, row_46, row_48, row_108, row_115, Ty.den, dflt_it, dflt_li, dflt_kv, Int.toNat_natCast, List.take_length, List.drop_zero]
            rw [List.drop_eq_nil_of_le (show l.length ≤ j by omega), usersGo, List.append_nil] at u2
            subst u2
            have efl : filterS (usersGo none l) ib 71 = ((filterS (usersGo none l) ib 71).1, 0) := by unfold filterS; rw [if_neg (by omega)]
            have eix : buildS ix 1 71 70 = (built ix 1, 0) := by unfold buildS; rw [if_neg (by omega), if_pos hRr]; rfl
            have hp3 : buildSp.pre (ix, 1, ()) = true := tst_t (show Fair ix from ⟨by omega, by omega⟩)
            have hxl := built_len (l := ix) (r := 1) (by omega)
            have hul := usersGo_len l none
            have hfl := filterS_len (l := usersGo none l) (many := ib) (E := 71) (by omega) (by omega) (by omega)
            generalize (filterS (usersGo none l) ib 71).1 = fl at *
            repeat (refine br_go ?_ ?_; (focus (((repeat' first | exact rfl | exact ordB_st rfl | exact ordB_of rfl | apply band | apply tst_t | apply nt_t)  <;> (try dsimp only [Ty.den, dflt_kv]) <;> (try simp only [List.length_append, List.length_cons, List.length_nil, List.length_take, List.length_drop, List.length_replicate, fixedL_length, sum4_len]) <;> (first | trivial | assumption | omega | (change (_ : Int) ≤ _; omega) | (change (_ : Int) < _; omega) | (change (_ : Nat) * 1 ≤ _; omega) | (change (_ : Nat) * 48 ≤ _; omega) | (change (_ : Nat) * 24 ≤ _; omega) | (change (_ : Nat) * 8 ≤ _; omega) | (change (_ : Nat) * 64 ≤ _; omega) | decide)); done)); (conv => lhs; whnf); (try simp (maxSteps := 2000000) (disch := omega) only [nI64, nU64, nU32, nU8, nSubL, nAddL, nAdd, nSub, nDiv, nMod, nZ, nLit, row_3, row_5, row_16, row_22, row_28, row_46, row_48, row_108, row_115, Ty.den, dflt_it, dflt_li, dflt_kv, Int.toNat_natCast, List.take_length, List.drop_zero]))
            try simp (maxSteps := 2000000) (disch := omega) only [nI64, nU64, nU32, nU8, nSubL, nAddL, nAdd, nSub, nDiv, nMod, nZ, nLit, row_3, row_5, row_16, row_22, row_28, row_46, row_48, row_108, row_115, Ty.den, dflt_it, dflt_li, dflt_kv, Int.toNat_natCast, List.take_length, List.drop_zero, efl]
            repeat (refine br_go ?_ ?_; (focus (((repeat' first | exact rfl | exact ordB_st rfl | exact ordB_of rfl | apply band | apply tst_t | apply nt_t)  <;> (try dsimp only [Ty.den, dflt_kv]) <;> (try simp only [List.length_append, List.length_cons, List.length_nil, List.length_take, List.length_drop, List.length_replicate, fixedL_length, sum4_len]) <;> (first | trivial | assumption | omega | (change (_ : Int) ≤ _; omega) | (change (_ : Int) < _; omega) | (change (_ : Nat) * 1 ≤ _; omega) | (change (_ : Nat) * 48 ≤ _; omega) | (change (_ : Nat) * 24 ≤ _; omega) | (change (_ : Nat) * 8 ≤ _; omega) | (change (_ : Nat) * 64 ≤ _; omega) | decide)); done)); (conv => lhs; whnf); (try simp (maxSteps := 2000000) (disch := omega) only [nI64, nU64, nU32, nU8, nSubL, nAddL, nAdd, nSub, nDiv, nMod, nZ, nLit, row_3, row_5, row_16, row_22, row_28, row_46, row_48, row_108, row_115, Ty.den, dflt_it, dflt_li, dflt_kv, Int.toNat_natCast, List.take_length, List.drop_zero]))
            refine br_go (hp3) ?_
            conv => lhs; whnf
            try simp (maxSteps := 2000000) (disch := omega) only [nI64, nU64, nU32, nU8, nSubL, nAddL, nAdd, nSub, nDiv, nMod, nZ, nLit, row_3, row_5, row_16, row_22, row_28, row_46, row_48, row_108, row_115, Ty.den, dflt_it, dflt_li, dflt_kv, Int.toNat_natCast, List.take_length, List.drop_zero]
            try simp (maxSteps := 2000000) (disch := omega) only [nI64, nU64, nU32, nU8, nSubL, nAddL, nAdd, nSub, nDiv, nMod, nZ, nLit, row_3, row_5, row_16, row_22, row_28, row_46, row_48, row_108, row_115, Ty.den, dflt_it, dflt_li, dflt_kv, Int.toNat_natCast, List.take_length, List.drop_zero, eix]
            repeat (refine br_go ?_ ?_; (focus (((repeat' first | exact rfl | exact ordB_st rfl | exact ordB_of rfl | apply band | apply tst_t | apply nt_t)  <;> (try dsimp only [Ty.den, dflt_kv]) <;> (try simp only [List.length_append, List.length_cons, List.length_nil, List.length_take, List.length_drop, List.length_replicate, fixedL_length, sum4_len]) <;> (first | trivial | assumption | omega | (change (_ : Int) ≤ _; omega) | (change (_ : Int) < _; omega) | (change (_ : Nat) * 1 ≤ _; omega) | (change (_ : Nat) * 48 ≤ _; omega) | (change (_ : Nat) * 24 ≤ _; omega) | (change (_ : Nat) * 8 ≤ _; omega) | (change (_ : Nat) * 64 ≤ _; omega) | decide)); done)); (conv => lhs; whnf); (try simp (maxSteps := 2000000) (disch := omega) only [nI64, nU64, nU32, nU8, nSubL, nAddL, nAdd, nSub, nDiv, nMod, nZ, nLit, row_3, row_5, row_16, row_22, row_28, row_46, row_48, row_108, row_115, Ty.den, dflt_it, dflt_li, dflt_kv, Int.toNat_natCast, List.take_length, List.drop_zero]))
            refine loop_more (by omega) ?_
            conv => lhs; whnf
            try simp (maxSteps := 2000000) (disch := omega) only [nI64, nU64, nU32, nU8, nSubL, nAddL, nAdd, nSub, nDiv, nMod, nZ, nLit, row_3, row_5, row_16, row_22, row_28, row_46, row_48, row_108, row_115, Ty.den, dflt_it, dflt_li, dflt_kv, Int.toNat_natCast, List.take_length, List.drop_zero]
            repeat (refine br_go ?_ ?_; (focus (((repeat' first | exact rfl | exact ordB_st rfl | exact ordB_of rfl | apply band | apply tst_t | apply nt_t)  <;> (try dsimp only [Ty.den, dflt_kv]) <;> (try simp only [List.length_append, List.length_cons, List.length_nil, List.length_take, List.length_drop, List.length_replicate, fixedL_length, sum4_len]) <;> (first | trivial | assumption | omega | (change (_ : Int) ≤ _; omega) | (change (_ : Int) < _; omega) | (change (_ : Nat) * 1 ≤ _; omega) | (change (_ : Nat) * 48 ≤ _; omega) | (change (_ : Nat) * 24 ≤ _; omega) | (change (_ : Nat) * 8 ≤ _; omega) | (change (_ : Nat) * 64 ≤ _; omega) | decide)); done)); (conv => lhs; whnf); (try simp (maxSteps := 2000000) (disch := omega) only [nI64, nU64, nU32, nU8, nSubL, nAddL, nAdd, nSub, nDiv, nMod, nZ, nLit, row_3, row_5, row_16, row_22, row_28, row_46, row_48, row_108, row_115, Ty.den, dflt_it, dflt_li, dflt_kv, Int.toNat_natCast, List.take_length, List.drop_zero]))
            refine loop_more (by omega) ?_
            conv => lhs; whnf
            try simp (maxSteps := 2000000) (disch := omega) only [nI64, nU64, nU32, nU8, nSubL, nAddL, nAdd, nSub, nDiv, nMod, nZ, nLit, row_3, row_5, row_16, row_22, row_28, row_46, row_48, row_108, row_115, Ty.den, dflt_it, dflt_li, dflt_kv, Int.toNat_natCast, List.take_length, List.drop_zero]
            repeat (refine br_go ?_ ?_; (focus (((repeat' first | exact rfl | exact ordB_st rfl | exact ordB_of rfl | apply band | apply tst_t | apply nt_t)  <;> (try dsimp only [Ty.den, dflt_kv]) <;> (try simp only [List.length_append, List.length_cons, List.length_nil, List.length_take, List.length_drop, List.length_replicate, fixedL_length, sum4_len]) <;> (first | trivial | assumption | omega | (change (_ : Int) ≤ _; omega) | (change (_ : Int) < _; omega) | (change (_ : Nat) * 1 ≤ _; omega) | (change (_ : Nat) * 48 ≤ _; omega) | (change (_ : Nat) * 24 ≤ _; omega) | (change (_ : Nat) * 8 ≤ _; omega) | (change (_ : Nat) * 64 ≤ _; omega) | decide)); done)); (conv => lhs; whnf); (try simp (maxSteps := 2000000) (disch := omega) only [nI64, nU64, nU32, nU8, nSubL, nAddL, nAdd, nSub, nDiv, nMod, nZ, nLit, row_3, row_5, row_16, row_22, row_28, row_46, row_48, row_108, row_115, Ty.den, dflt_it, dflt_li, dflt_kv, Int.toNat_natCast, List.take_length, List.drop_zero]))
            refine loop_more (by omega) ?_
            conv => lhs; whnf
            try simp (maxSteps := 2000000) (disch := omega) only [nI64, nU64, nU32, nU8, nSubL, nAddL, nAdd, nSub, nDiv, nMod, nZ, nLit, row_3, row_5, row_16, row_22, row_28, row_46, row_48, row_108, row_115, Ty.den, dflt_it, dflt_li, dflt_kv, Int.toNat_natCast, List.take_length, List.drop_zero]
            refine br_no (tst_f (by omega)) ?_
            conv => lhs; whnf
            try simp (maxSteps := 2000000) (disch := omega) only [nI64, nU64, nU32, nU8, nSubL, nAddL, nAdd, nSub, nDiv, nMod, nZ, nLit, row_3, row_5, row_16, row_22, row_28, row_46, row_48, row_108, row_115, Ty.den, dflt_it, dflt_li, dflt_kv, Int.toNat_natCast, List.take_length, List.drop_zero]
            repeat (refine br_go ?_ ?_; (focus (((repeat' first | exact rfl | exact ordB_st rfl | exact ordB_of rfl | apply band | apply tst_t | apply nt_t)  <;> (try dsimp only [Ty.den, dflt_kv]) <;> (try simp only [List.length_append, List.length_cons, List.length_nil, List.length_take, List.length_drop, List.length_replicate, fixedL_length, sum4_len]) <;> (first | trivial | assumption | omega | (change (_ : Int) ≤ _; omega) | (change (_ : Int) < _; omega) | (change (_ : Nat) * 1 ≤ _; omega) | (change (_ : Nat) * 48 ≤ _; omega) | (change (_ : Nat) * 24 ≤ _; omega) | (change (_ : Nat) * 8 ≤ _; omega) | (change (_ : Nat) * 64 ≤ _; omega) | decide)); done)); (conv => lhs; whnf); (try simp (maxSteps := 2000000) (disch := omega) only [nI64, nU64, nU32, nU8, nSubL, nAddL, nAdd, nSub, nDiv, nMod, nZ, nLit, row_3, row_5, row_16, row_22, row_28, row_46, row_48, row_108, row_115, Ty.den, dflt_it, dflt_li, dflt_kv, Int.toNat_natCast, List.take_length, List.drop_zero]))
            have hstr : strInts { data := #[109, 111, 114, 97, 105, 110, 101, 49] } = magicL := by decide +kernel
            have hml : magicL.length = 8 := rfl
            have e0 : IntKind.u64.wrap ((out ++ sum4 fl).length : Int) = ((out.length + fl.length + 4 : Nat) : Int) := by
              rw [List.length_append, sum4_len, nU64 (by omega) (by omega)]; congr 1
            try simp (maxSteps := 2000000) (disch := omega) only [nI64, nU64, nU32, nU8, nSubL, nAddL, nAdd, nSub, nDiv, nMod, nZ, nLit, row_3, row_5, row_16, row_22, row_28, row_46, row_48, row_108, row_115, Ty.den, dflt_it, dflt_li, dflt_kv, Int.toNat_natCast, List.take_length, List.drop_zero, hstr, e0]
            refine br_go (band (band rfl (tst_t trivial)) (tst_t (by simp only [List.length_append, sum4_len, fixedL_length, hml, List.length_nil]; omega))) ?_
            conv => lhs; whnf
            try simp (maxSteps := 2000000) (disch := omega) only [nI64, nU64, nU32, nU8, nSubL, nAddL, nAdd, nSub, nDiv, nMod, nZ, nLit, row_3, row_5, row_16, row_22, row_28, row_46, row_48, row_108, row_115, Ty.den, dflt_it, dflt_li, dflt_kv, Int.toNat_natCast, List.take_length, List.drop_zero]
            repeat (refine br_go ?_ ?_; (focus (((repeat' first | exact rfl | exact ordB_st rfl | exact ordB_of rfl | apply band | apply tst_t | apply nt_t)  <;> (try dsimp only [Ty.den, dflt_kv]) <;> (try simp only [List.length_append, List.length_cons, List.length_nil, List.length_take, List.length_drop, List.length_replicate, fixedL_length, sum4_len]) <;> (first | trivial | assumption | omega | (change (_ : Int) ≤ _; omega) | (change (_ : Int) < _; omega) | (change (_ : Nat) * 1 ≤ _; omega) | (change (_ : Nat) * 48 ≤ _; omega) | (change (_ : Nat) * 24 ≤ _; omega) | (change (_ : Nat) * 8 ≤ _; omega) | (change (_ : Nat) * 64 ≤ _; omega) | decide)); done)); (conv => lhs; whnf); (try simp (maxSteps := 2000000) (disch := omega) only [nI64, nU64, nU32, nU8, nSubL, nAddL, nAdd, nSub, nDiv, nMod, nZ, nLit, row_3, row_5, row_16, row_22, row_28, row_46, row_48, row_108, row_115, Ty.den, dflt_it, dflt_li, dflt_kv, Int.toNat_natCast, List.take_length, List.drop_zero]))
            rfl
      · have eb : buildS l 1 71 70 = ([], 70) := by unfold buildS; rw [if_neg (by omega), if_neg c3]
        rw [if_pos c3]
        try simp (maxSteps := 2000000) (disch := omega) only [nI64, nU64, nU32, nU8, nSubL, nAddL, nAdd, nSub, nDiv, nMod, nZ, nLit, row_3, row_5, row_16, row_22, row_28, row_46, row_48, row_108, row_115, Ty.den, dflt_it, dflt_li, dflt_kv, Int.toNat_natCast, List.take_length, List.drop_zero, eb]
        refine br_go (tst_t ((by decide))) ?_
        conv => lhs; whnf
        try simp (maxSteps := 2000000) (disch := omega) only [nI64, nU64, nU32, nU8, nSubL, nAddL, nAdd, nSub, nDiv, nMod, nZ, nLit, row_3, row_5, row_16, row_22, row_28, row_46, row_48, row_108, row_115, Ty.den, dflt_it, dflt_li, dflt_kv, Int.toNat_natCast, List.take_length, List.drop_zero]
        repeat (refine br_go ?_ ?_; (focus (((repeat' first | exact rfl | exact ordB_st rfl | exact ordB_of rfl | apply band | apply tst_t | apply nt_t)  <;> (try dsimp only [Ty.den, dflt_kv]) <;> (try simp only [List.length_append, List.length_cons, List.length_nil, List.length_take, List.length_drop, List.length_replicate, fixedL_length, sum4_len]) <;> (first | trivial | assumption | omega | (change (_ : Int) ≤ _; omega) | (change (_ : Int) < _; omega) | (change (_ : Nat) * 1 ≤ _; omega) | (change (_ : Nat) * 48 ≤ _; omega) | (change (_ : Nat) * 24 ≤ _; omega) | (change (_ : Nat) * 8 ≤ _; omega) | (change (_ : Nat) * 64 ≤ _; omega) | decide)); done)); (conv => lhs; whnf); (try simp (maxSteps := 2000000) (disch := omega) only [nI64, nU64, nU32, nU8, nSubL, nAddL, nAdd, nSub, nDiv, nMod, nZ, nLit, row_3, row_5, row_16, row_22, row_28, row_46, row_48, row_108, row_115, Ty.den, dflt_it, dflt_li, dflt_kv, Int.toNat_natCast, List.take_length, List.drop_zero]))
  · rw [if_pos c1]
    try simp (maxSteps := 2000000) (disch := omega) only [nI64, nU64, nU32, nU8, nSubL, nAddL, nAdd, nSub, nDiv, nMod, nZ, nLit, row_3, row_5, row_16, row_22, row_28, row_46, row_48, row_108, row_115, Ty.den, dflt_it, dflt_li, dflt_kv, Int.toNat_natCast, List.take_length, List.drop_zero, if_neg c1]
    repeat (refine br_go ?_ ?_; (focus (((repeat' first | exact rfl | exact ordB_st rfl | exact ordB_of rfl | apply band | apply tst_t | apply nt_t)  <;> (try dsimp only [Ty.den, dflt_kv]) <;> (try simp only [List.length_append, List.length_cons, List.length_nil, List.length_take, List.length_drop, List.length_replicate, fixedL_length, sum4_len]) <;> (first | trivial | assumption | omega | (change (_ : Int) ≤ _; omega) | (change (_ : Int) < _; omega) | (change (_ : Nat) * 1 ≤ _; omega) | (change (_ : Nat) * 48 ≤ _; omega) | (change (_ : Nat) * 24 ≤ _; omega) | (change (_ : Nat) * 8 ≤ _; omega) | (change (_ : Nat) * 64 ≤ _; omega) | decide)); done)); (conv => lhs; whnf); (try simp (maxSteps := 2000000) (disch := omega) only [nI64, nU64, nU32, nU8, nSubL, nAddL, nAdd, nSub, nDiv, nMod, nZ, nLit, row_3, row_5, row_16, row_22, row_28, row_46, row_48, row_108, row_115, Ty.den, dflt_it, dflt_li, dflt_kv, Int.toNat_natCast, List.take_length, List.drop_zero]))
end Go.Proofs.Ytkdajonmfiipkaa.Ev
/- Tables: built by the document. -/
namespace Go.Proofs.Ytkdajonmfiipkaa.Ev
open Go Go.RowKit
set_option linter.unusedVariables false
set_option linter.unusedSimpArgs false
set_option maxRecDepth 100000
set_option maxHeartbeats 8000000
--safe fixedL_length, sum4_len
theorem split_take {k : List Int} (h : (split k).2.2.2 = 0) : 8 ≤ k.length ∧ k.length ≤ 136 ∧ (split k).1 = k.take (k.length - 8) := by
  unfold split at h ⊢
  split at h
  · simp at h
  · rename_i h1
    rw [if_neg h1]
    split at h
    · simp at h
    · rename_i h2
      rw [if_neg h2]
      exact ⟨by omega, by omega, rfl⟩
theorem pcs_flush {size : Nat} (hs : 0 < size) {cur : List KV} {n : Nat} {l : List KV} (hn : n ≥ size) (hl : l ≠ []) : pcs size cur n l = cur :: pcs size [] 0 l := by
  cases l with
  | nil => exact absurd rfl hl
  | cons x l =>
    rw [pcs, if_pos hn, pcs, if_neg (by omega), List.nil_append, Nat.zero_add]
theorem lastK_at {l : List KV} {i fr : Nat} (hi : i < l.length) (hf : fr ≤ i) : lastK (List.drop fr (List.take (i + 1) l)) = (l.getD i kvd).1 := by
  unfold lastK
  rw [List.length_drop, List.length_take, Nat.min_eq_left (by omega), List.getD_eq_getElem?_getD, List.getElem?_drop, List.getElem?_take, if_pos (by omega), List.getD_eq_getElem?_getD, show fr + (i + 1 - fr - 1) = i by omega]
theorem piece_at {l : List KV} {i fr : Nat} (hi : i < l.length) (hf : fr ≤ i) : List.drop fr (List.take (i + 1) l) = List.drop fr (List.take i l) ++ [l.getD i kvd] := by
  rw [take_at hi, List.drop_append_of_le_length (by rw [List.length_take]; omega)]
theorem total_sub {l m : List KV} (h : m.Sublist l) : total m ≤ total l ∧ m.length ≤ l.length := by
  refine ⟨?_, h.length_le⟩
  induction h with
  | slnil => exact Nat.le_refl _
  | cons a h ih => rw [total_cons]; omega
  | cons_cons a h ih => rw [total_cons, total_cons]; omega
abbrev rtabC : Ctx := ⟨rows, (fun | 0 => ([0, 3, 6, 7, 8, 9, 10, 11], [3, 6, 7, 8]) | 1 => ([], [0, 3, 6, 7, 8, 9, 10, 11]) | 2 => ([6, 14, 16, 17, 18, 19], [6, 14, 16, 17]) | 3 => ([], [6, 14, 16, 17, 18, 19]) | _ => ([], []))⟩
theorem rtab_ok (T : Tab) (h1 : T 18 = checkSp.ent) (h2 : T 39 = risesSp.ent) (h3 : T 40 = ruserSp.ent) (h4 : T 30 = cmpBSp.ent) (h5 : T 41 = builtSp.ent) (h6 : T 42 = putSp.ent) (h7 : T 43 = rsummedSp.ent) (h8 : T 44 = filterSp.ent) (h9 : T 45 = fixedSp.ent) (h10 : T 46 = magicSp.ent) : tabSp.Ok T rtabC F14 := by
  rw [on_top h1, on_top h2, on_top h3, on_top h4, on_top h5, on_top h6, on_top h7, on_top h8, on_top h9, on_top h10]
  rintro ⟨(l : List KV), ⟨(b : Int), (r : Int), (ib : Int), (t : Int), u⟩, _⟩ hf hp
  cases u
  have hf1 : Fits kvl l := hf.1
  have hw : few7 l := tst_iff.1 hp
  obtain ⟨hl, ht⟩ := hw
  obtain ⟨F, hF⟩ : ∃ F : Nat, F = 3 * l.length + 20 := ⟨_, rfl⟩
  refine ⟨F, 0, ?_⟩
  show evFn _ _ _ _ _ [vK l, .d planT (b, r, ib, t, ())] [] _ = some (.tup [.own 0 by8 (tabR l b r ib t).1, vI (tabR l b r ib t).2] : V)
  conv => lhs; whnf
  try simp (maxSteps := 2000000) (disch := omega) only [nI64, nU64, nU32, nU8, nSubL, nAddL, nAdd, nSub, nDiv, nMod, nZ, nLit, row_3, row_5, row_16, row_22, row_28, row_46, row_48, row_108, row_115, Ty.den, dflt_it, dflt_li, dflt_kv, Int.toNat_natCast, List.take_length, List.drop_zero]
  unfold tabR
  by_cases c1 : planOK b r ib t
  · rw [if_neg (show ¬ ¬ planOK b r ib t from fun h => h c1)]
    try simp (maxSteps := 2000000) (disch := omega) only [nI64, nU64, nU32, nU8, nSubL, nAddL, nAdd, nSub, nDiv, nMod, nZ, nLit, row_3, row_5, row_16, row_22, row_28, row_46, row_48, row_108, row_115, Ty.den, dflt_it, dflt_li, dflt_kv, Int.toNat_natCast, List.take_length, List.drop_zero, if_pos c1]
    refine br_no (tst_f ((by decide))) ?_
    conv => lhs; whnf
    try simp (maxSteps := 2000000) (disch := omega) only [nI64, nU64, nU32, nU8, nSubL, nAddL, nAdd, nSub, nDiv, nMod, nZ, nLit, row_3, row_5, row_16, row_22, row_28, row_46, row_48, row_108, row_115, Ty.den, dflt_it, dflt_li, dflt_kv, Int.toNat_natCast, List.take_length, List.drop_zero]
    repeat (refine br_go ?_ ?_; (focus (((repeat' first | exact rfl | exact ordB_st rfl | exact ordB_of rfl | apply band | apply tst_t | apply nt_t)  <;> (try dsimp only [Ty.den, dflt_kv]) <;> (try simp only [List.length_append, List.length_cons, List.length_nil, List.length_take, List.length_drop, List.length_replicate, fixedL_length, sum4_len]) <;> (first | trivial | assumption | omega | (change (_ : Int) ≤ _; omega) | (change (_ : Int) < _; omega) | (change (_ : Nat) * 1 ≤ _; omega) | (change (_ : Nat) * 48 ≤ _; omega) | (change (_ : Nat) * 24 ≤ _; omega) | (change (_ : Nat) * 8 ≤ _; omega) | (change (_ : Nat) * 64 ≤ _; omega) | decide)); done)); (conv => lhs; whnf); (try simp (maxSteps := 2000000) (disch := omega) only [nI64, nU64, nU32, nU8, nSubL, nAddL, nAdd, nSub, nDiv, nMod, nZ, nLit, row_3, row_5, row_16, row_22, row_28, row_46, row_48, row_108, row_115, Ty.den, dflt_it, dflt_li, dflt_kv, Int.toNat_natCast, List.take_length, List.drop_zero]))
    by_cases c2 : l.length = 0
    · rw [if_pos c2]
      refine br_go (tst_t (by omega)) ?_
      conv => lhs; whnf
      try simp (maxSteps := 2000000) (disch := omega) only [nI64, nU64, nU32, nU8, nSubL, nAddL, nAdd, nSub, nDiv, nMod, nZ, nLit, row_3, row_5, row_16, row_22, row_28, row_46, row_48, row_108, row_115, Ty.den, dflt_it, dflt_li, dflt_kv, Int.toNat_natCast, List.take_length, List.drop_zero]
      repeat (refine br_go ?_ ?_; (focus (((repeat' first | exact rfl | exact ordB_st rfl | exact ordB_of rfl | apply band | apply tst_t | apply nt_t)  <;> (try dsimp only [Ty.den, dflt_kv]) <;> (try simp only [List.length_append, List.length_cons, List.length_nil, List.length_take, List.length_drop, List.length_replicate, fixedL_length, sum4_len]) <;> (first | trivial | assumption | omega | (change (_ : Int) ≤ _; omega) | (change (_ : Int) < _; omega) | (change (_ : Nat) * 1 ≤ _; omega) | (change (_ : Nat) * 48 ≤ _; omega) | (change (_ : Nat) * 24 ≤ _; omega) | (change (_ : Nat) * 8 ≤ _; omega) | (change (_ : Nat) * 64 ≤ _; omega) | decide)); done)); (conv => lhs; whnf); (try simp (maxSteps := 2000000) (disch := omega) only [nI64, nU64, nU32, nU8, nSubL, nAddL, nAdd, nSub, nDiv, nMod, nZ, nLit, row_3, row_5, row_16, row_22, row_28, row_46, row_48, row_108, row_115, Ty.den, dflt_it, dflt_li, dflt_kv, Int.toNat_natCast, List.take_length, List.drop_zero]))
    · rw [if_neg c2]
      refine br_no (tst_f (by omega)) ?_
      conv => lhs; whnf
      try simp (maxSteps := 2000000) (disch := omega) only [nI64, nU64, nU32, nU8, nSubL, nAddL, nAdd, nSub, nDiv, nMod, nZ, nLit, row_3, row_5, row_16, row_22, row_28, row_46, row_48, row_108, row_115, Ty.den, dflt_it, dflt_li, dflt_kv, Int.toNat_natCast, List.take_length, List.drop_zero]
      repeat (refine br_go ?_ ?_; (focus (((repeat' first | exact rfl | exact ordB_st rfl | exact ordB_of rfl | apply band | apply tst_t | apply nt_t)  <;> (try dsimp only [Ty.den, dflt_kv]) <;> (try simp only [List.length_append, List.length_cons, List.length_nil, List.length_take, List.length_drop, List.length_replicate, fixedL_length, sum4_len]) <;> (first | trivial | assumption | omega | (change (_ : Int) ≤ _; omega) | (change (_ : Int) < _; omega) | (change (_ : Nat) * 1 ≤ _; omega) | (change (_ : Nat) * 48 ≤ _; omega) | (change (_ : Nat) * 24 ≤ _; omega) | (change (_ : Nat) * 8 ≤ _; omega) | (change (_ : Nat) * 64 ≤ _; omega) | decide)); done)); (conv => lhs; whnf); (try simp (maxSteps := 2000000) (disch := omega) only [nI64, nU64, nU32, nU8, nSubL, nAddL, nAdd, nSub, nDiv, nMod, nZ, nLit, row_3, row_5, row_16, row_22, row_28, row_46, row_48, row_108, row_115, Ty.den, dflt_it, dflt_li, dflt_kv, Int.toNat_natCast, List.take_length, List.drop_zero]))
      by_cases c3 : Rises l
      · rw [if_neg (show ¬ ¬ Rises l from fun h => h c3)]
        refine br_no (nt_f c3) ?_
        conv => lhs; whnf
        try simp (maxSteps := 2000000) (disch := omega) only [nI64, nU64, nU32, nU8, nSubL, nAddL, nAdd, nSub, nDiv, nMod, nZ, nLit, row_3, row_5, row_16, row_22, row_28, row_46, row_48, row_108, row_115, Ty.den, dflt_it, dflt_li, dflt_kv, Int.toNat_natCast, List.take_length, List.drop_zero]
        repeat (refine br_go ?_ ?_; (focus (((repeat' first | exact rfl | exact ordB_st rfl | exact ordB_of rfl | apply band | apply tst_t | apply nt_t)  <;> (try dsimp only [Ty.den, dflt_kv]) <;> (try simp only [List.length_append, List.length_cons, List.length_nil, List.length_take, List.length_drop, List.length_replicate, fixedL_length, sum4_len]) <;> (first | trivial | assumption | omega | (change (_ : Int) ≤ _; omega) | (change (_ : Int) < _; omega) | (change (_ : Nat) * 1 ≤ _; omega) | (change (_ : Nat) * 48 ≤ _; omega) | (change (_ : Nat) * 24 ≤ _; omega) | (change (_ : Nat) * 8 ≤ _; omega) | (change (_ : Nat) * 64 ≤ _; omega) | decide)); done)); (conv => lhs; whnf); (try simp (maxSteps := 2000000) (disch := omega) only [nI64, nU64, nU32, nU8, nSubL, nAddL, nAdd, nSub, nDiv, nMod, nZ, nLit, row_3, row_5, row_16, row_22, row_28, row_46, row_48, row_108, row_115, Ty.den, dflt_it, dflt_li, dflt_kv, Int.toNat_natCast, List.take_length, List.drop_zero]))
        have c1' := c1
        unfold planOK at c1'
        have hb0 : 0 < b.toNat := by omega
        have hlne : l ≠ [] := fun h => c2 (by rw [h]; rfl)
        have hsp : ∀ i, i < l.length → (split (l.getD i kvd).1).2.2.2 = 0 := fun i hi => by rw [getD_at hi]; exact ((rises_iff l).1 c3).1 _ (List.getElem_mem hi)
        have hRr := tab_rises c3 hb0 hlne r.toNat
        unfold tabS
        generalize hR : (pcs b.toNat [] 0 l).foldl (tabStep r.toNat) ([], []) = R at *
        refine loop_rule (α := Nat × List Int × List KV × List (List Int) × Nat × Nat) (fun s => (s.1 ≤ l.length ∧ s.2.2.2.2.1 ≤ s.1) ∧
            (s.1 < l.length → s.2.2.2.2.2 < b.toNat ∧ (pcs b.toNat ((l.take s.1).drop s.2.2.2.2.1) s.2.2.2.2.2 (l.drop s.1)).foldl (tabStep r.toNat) (s.2.1, s.2.2.1) = R) ∧ (s.1 = l.length → (s.2.1, s.2.2.1) = R) ∧
            (s.2.2.2.2.2 + total (l.drop s.1) ≤ 5000 ∧ s.2.1.length ≤ 8000 * s.2.2.1.length ∧ s.2.2.1.length ≤ s.1 ∧ total s.2.2.1 ≤ 5030 * s.1) ∧
            s.2.2.2.1 ++ usersGo (if s.1 = 0 then none else some (split (l.getD (s.1 - 1) kvd).1).1) (l.drop s.1) = usersGo none l ∧ s.2.2.2.1.length ≤ s.1) (fun s => l.length - s.1)
          (fun s => (vK l :: V.bad :: V.bad :: V.p 0 0 :: V.bad :: V.bad :: vO 5 s.2.1 :: V.own 6 kv s.2.2.1 :: V.own 7 byl s.2.2.2.1 :: vI s.2.2.2.2.1 :: vI s.2.2.2.2.2 :: vI s.1 :: V.bad :: V.bad :: V.bad :: V.bad :: V.bad :: V.bad :: V.bad :: V.bad :: V.bad :: V.bad :: V.bad :: V.bad :: V.bad :: V.bad :: V.bad :: V.bad :: V.bad :: V.bad :: V.bad :: V.bad :: V.bad :: V.bad :: V.bad :: V.bad :: V.bad :: V.bad :: V.bad :: V.bad :: V.bad :: V.bad :: V.bad :: V.bad :: V.bad :: V.bad :: V.bad :: V.bad :: V.bad :: V.bad :: V.bad :: V.bad :: V.bad :: V.bad :: V.bad :: V.bad :: V.bad :: V.bad :: V.bad :: V.bad :: V.bad :: V.bad :: V.bad :: V.bad :: V.bad :: V.bad :: V.bad :: V.bad :: V.bad :: V.bad :: V.bad :: V.bad :: V.bad :: V.bad :: V.bad :: V.bad :: V.bad :: V.bad :: V.bad :: V.bad :: V.bad :: V.bad :: V.bad :: V.bad :: V.bad :: V.bad :: V.bad :: V.bad :: V.bad :: V.bad :: V.bad :: V.bad :: V.bad :: V.bad :: V.bad :: V.bad :: V.bad :: V.bad :: V.bad :: V.bad :: V.bad :: V.bad :: V.bad :: V.bad :: V.bad :: V.bad :: V.bad :: V.bad :: V.bad :: V.bad :: V.bad :: V.bad :: V.bad :: V.bad :: V.bad :: V.bad :: V.bad :: V.bad :: V.bad :: V.bad :: V.bad :: V.bad :: V.bad :: V.bad :: V.bad :: V.bad :: V.bad :: V.bad :: V.bad :: V.bad :: V.bad :: V.bad :: V.bad :: V.bad :: V.bad :: V.bad :: V.bad :: V.bad :: V.bad :: V.bad :: V.bad :: V.bad :: V.bad :: V.bad :: V.bad :: V.bad :: V.bad :: V.bad :: V.bad :: V.bad :: V.bad :: V.bad :: V.bad :: V.bad :: V.bad :: V.bad :: V.bad :: V.bad :: V.bad :: V.bad :: V.bad :: V.bad :: V.bad :: V.bad :: V.bad :: V.bad :: V.bad :: V.bad :: V.bad :: V.bad :: V.bad :: V.bad :: V.bad :: V.bad :: V.bad :: V.bad :: V.bad :: V.bad :: []))
          (fun s => [.obj (flatT planT (b, r, ib, t, ())), .fam 0, .gone, .gone, .gone, .fam s.2.1.length, .fam s.2.2.1.length, .fam s.2.2.2.1.length])
          (fun _ => some (V.tup [vO 0 (tabEnd R (filterS (usersGo none l) ib 71).1), vI 0])) ?_ F (0, [], [], [], 0, 0) ⟨⟨Nat.zero_le _, Nat.le_refl _⟩, fun _ => ⟨hb0, hR⟩, fun h => absurd h.symm c2, ⟨by show 0 + total l ≤ 5000; omega, Nat.le_refl _, Nat.le_refl _, Nat.zero_le _⟩, rfl, Nat.le_refl _⟩ (by show l.length - 0 < F; omega)
        rintro ⟨i, out, ix, us, fr, sz⟩ K ⟨⟨k1, k2⟩, k3, k4, ⟨k5, k6, k7, k8⟩, k9, k10⟩ hK
        simp only at k1 k2 k3 k4 k5 k6 k7 k8 k9 k10 hK ⊢
        conv => lhs; whnf
        try simp (maxSteps := 2000000) (disch := omega) only [nI64, nU64, nU32, nU8, nSubL, nAddL, nAdd, nSub, nDiv, nMod, nZ, nLit, row_3, row_5, row_16, row_22, row_28, row_46, row_48, row_108, row_115, Ty.den, dflt_it, dflt_li, dflt_kv, Int.toNat_natCast, List.take_length, List.drop_zero]
        by_cases hi : i < l.length
        · refine br_go (tst_t (by omega)) ?_
          conv => lhs; whnf
          try simp (maxSteps := 2000000) (disch := omega) only [nI64, nU64, nU32, nU8, nSubL, nAddL, nAdd, nSub, nDiv, nMod, nZ, nLit, row_3, row_5, row_16, row_22, row_28, row_46, row_48, row_108, row_115, Ty.den, dflt_it, dflt_li, dflt_kv, Int.toNat_natCast, List.take_length, List.drop_zero]
          obtain ⟨k3a, k3b⟩ := k3 hi
          have hk := getD_kv hf1 hi
          have hd := drop_at (d := kvd) hi
          obtain ⟨g1, g2, g3⟩ := split_take (hsp i hi)
          have hpa := piece_at (fr := fr) hi k2
          have hla := lastK_at (fr := fr) hi k2
          have hsub : (List.drop fr (List.take (i + 1) l)).Sublist l := (List.drop_sublist _ _).trans (List.take_sublist _ _)
          obtain ⟨q1, q2⟩ := total_sub hsub
          have hfair : Fair (List.drop fr (List.take (i + 1) l)) := ⟨by omega, by omega⟩
          have hbl := built_len (l := List.drop fr (List.take (i + 1) l)) (r := r.toNat) (by omega)
          rw [hd, total_cons] at k5
          rw [hd, pcs, if_neg (by omega), ← hpa] at k3b
          rw [hd, usersGo, g3] at k9
          have hsz : szKV (l.getD i kvd) = (l.getD i kvd).1.length + (l.getD i kvd).2.1.length := rfl
          have hstep : tabStep r.toNat (out, ix) (List.drop fr (List.take (i + 1) l)) = (out ++ built (List.drop fr (List.take (i + 1) l)) r.toNat ++ fixedL (sumS (built (List.drop fr (List.take (i + 1) l)) r.toNat)) 4, ix ++ [((l.getD i kvd).1, putS out.length ++ putS (built (List.drop fr (List.take (i + 1) l)) r.toNat).length, ())]) := by
            unfold tabStep
            rw [hla, List.append_assoc]
          have w1 := putS_len10 (n := out.length) (by omega)
          have w2 := putS_len10 (n := (built (List.drop fr (List.take (i + 1) l)) r.toNat).length) (by omega)
          have flushed : i + 1 = l.length ∨ sz + szKV (l.getD i kvd) ≥ b.toNat →
              (i + 1 < l.length → 0 < b.toNat ∧ (pcs b.toNat ((l.take (i + 1)).drop (i + 1)) 0 (l.drop (i + 1))).foldl (tabStep r.toNat) (tabStep r.toNat (out, ix) (List.drop fr (List.take (i + 1) l))) = R) ∧ (i + 1 = l.length → tabStep r.toNat (out, ix) (List.drop fr (List.take (i + 1) l)) = R) := by
            intro h
            refine ⟨fun h1 => ⟨hb0, ?_⟩, fun h1 => ?_⟩
            · rw [List.drop_eq_nil_of_le (by rw [List.length_take]; omega : (l.take (i + 1)).length ≤ i + 1)]
              rw [pcs_flush hb0 (by omega) (by rw [ne_eq, ← List.length_eq_zero_iff, List.length_drop]; omega), List.foldl_cons] at k3b
              exact k3b
            · rw [List.drop_eq_nil_of_le (by omega : l.length ≤ i + 1), pcs, List.foldl_cons, List.foldl_nil] at k3b
              exact k3b
          have htl : ((out ++ built (List.drop fr (List.take (i + 1) l)) r.toNat ++ fixedL (sumS (built (List.drop fr (List.take (i + 1) l)) r.toNat)) 4).length ≤ 8000 * (ix ++ [((l.getD i kvd).1, putS out.length ++ putS (built (List.drop fr (List.take (i + 1) l)) r.toNat).length, ())]).length) ∧ total (ix ++ [((l.getD i kvd).1, putS out.length ++ putS (built (List.drop fr (List.take (i + 1) l)) r.toNat).length, ())]) ≤ 5030 * (i + 1) := by
            rw [total_app, total_cons]
            simp only [List.length_append, fixedL_length, List.length_singleton]
            show _ ∧ total ix + (((l.getD i kvd).1.length + ((putS out.length).length + (putS (built (List.drop fr (List.take (i + 1) l)) r.toNat).length).length)) + 0) ≤ _
            omega
          by_cases hz : i = 0
          · rw [if_pos hz, if_neg (by simp)] at k9
            refine br_go (tst_t (by omega)) ?_
            conv => lhs; whnf
            try simp (maxSteps := 2000000) (disch := omega) only [nI64, nU64, nU32, nU8, nSubL, nAddL, nAdd, nSub, nDiv, nMod, nZ, nLit, row_3, row_5, row_16, row_22, row_28, row_46, row_48, row_108, row_115, Ty.den, dflt_it, dflt_li, dflt_kv, Int.toNat_natCast, List.take_length, List.drop_zero]
            repeat (refine br_go ?_ ?_; (focus (((repeat' first | exact rfl | exact ordB_st rfl | exact ordB_of rfl | apply band | apply tst_t | apply nt_t)  <;> (try dsimp only [Ty.den, dflt_kv]) <;> (try simp only [List.length_append, List.length_cons, List.length_nil, List.length_take, List.length_drop, List.length_replicate, fixedL_length, sum4_len]) <;> (first | trivial | assumption | omega | (change (_ : Int) ≤ _; omega) | (change (_ : Int) < _; omega) | (change (_ : Nat) * 1 ≤ _; omega) | (change (_ : Nat) * 48 ≤ _; omega) | (change (_ : Nat) * 24 ≤ _; omega) | (change (_ : Nat) * 8 ≤ _; omega) | (change (_ : Nat) * 64 ≤ _; omega) | decide)); done)); (conv => lhs; whnf); (try simp (maxSteps := 2000000) (disch := omega) only [nI64, nU64, nU32, nU8, nSubL, nAddL, nAdd, nSub, nDiv, nMod, nZ, nLit, row_3, row_5, row_16, row_22, row_28, row_46, row_48, row_108, row_115, Ty.den, dflt_it, dflt_li, dflt_kv, Int.toNat_natCast, List.take_length, List.drop_zero]))
            by_cases hs : sz + szKV (l.getD i kvd) ≥ b.toNat
            · refine br_go (tst_t (by omega)) ?_
              conv => lhs; whnf
              try simp (maxSteps := 2000000) (disch := omega) only [nI64, nU64, nU32, nU8, nSubL, nAddL, nAdd, nSub, nDiv, nMod, nZ, nLit, row_3, row_5, row_16, row_22, row_28, row_46, row_48, row_108, row_115, Ty.den, dflt_it, dflt_li, dflt_kv, Int.toNat_natCast, List.take_length, List.drop_zero]
              repeat (refine br_go ?_ ?_; (focus (((repeat' first | exact rfl | exact ordB_st rfl | exact ordB_of rfl | apply band | apply tst_t | apply nt_t)  <;> (try dsimp only [Ty.den, dflt_kv]) <;> (try simp only [List.length_append, List.length_cons, List.length_nil, List.length_take, List.length_drop, List.length_replicate, fixedL_length, sum4_len]) <;> (first | trivial | assumption | omega | (change (_ : Int) ≤ _; omega) | (change (_ : Int) < _; omega) | (change (_ : Nat) * 1 ≤ _; omega) | (change (_ : Nat) * 48 ≤ _; omega) | (change (_ : Nat) * 24 ≤ _; omega) | (change (_ : Nat) * 8 ≤ _; omega) | (change (_ : Nat) * 64 ≤ _; omega) | decide)); done)); (conv => lhs; whnf); (try simp (maxSteps := 2000000) (disch := omega) only [nI64, nU64, nU32, nU8, nSubL, nAddL, nAdd, nSub, nDiv, nMod, nZ, nLit, row_3, row_5, row_16, row_22, row_28, row_46, row_48, row_108, row_115, Ty.den, dflt_it, dflt_li, dflt_kv, Int.toNat_natCast, List.take_length, List.drop_zero]))
              refine hK (i + 1, _, _, (us ++ [List.take ((l.getD i kvd).1.length - 8) (l.getD i kvd).1]), i + 1, 0) ⟨⟨by show i + 1 ≤ l.length; omega, by show i + 1 ≤ i + 1; omega⟩, ?_, ?_, ⟨by show 0 + total (l.drop (i + 1)) ≤ 5000; omega, htl.1, by show (ix ++ _).length ≤ i + 1; rw [List.length_append]; simp; omega, htl.2⟩, ?_, by show List.length (us ++ [List.take ((l.getD i kvd).1.length - 8) (l.getD i kvd).1]) ≤ i + 1; (try rw [List.length_append, List.length_singleton]); omega⟩ (by show l.length - (i + 1) < l.length - i; omega)
              · rw [← hstep]; exact (flushed (.inr hs)).1
              · rw [← hstep]; exact (flushed (.inr hs)).2
              · show (us ++ [List.take ((l.getD i kvd).1.length - 8) (l.getD i kvd).1]) ++ usersGo (if i + 1 = 0 then none else some (split (l.getD (i + 1 - 1) kvd).1).1) (l.drop (i + 1)) = _
                rw [if_neg (by omega), Nat.add_sub_cancel, g3]; exact (by rw [List.append_assoc]; exact k9)
            · refine br_no (tst_f (by omega)) ?_
              conv => lhs; whnf
              try simp (maxSteps := 2000000) (disch := omega) only [nI64, nU64, nU32, nU8, nSubL, nAddL, nAdd, nSub, nDiv, nMod, nZ, nLit, row_3, row_5, row_16, row_22, row_28, row_46, row_48, row_108, row_115, Ty.den, dflt_it, dflt_li, dflt_kv, Int.toNat_natCast, List.take_length, List.drop_zero]
              by_cases hlast : i + 1 = l.length
              · repeat (refine br_go ?_ ?_; (focus (((repeat' first | exact rfl | exact ordB_st rfl | exact ordB_of rfl | apply band | apply tst_t | apply nt_t)  <;> (try dsimp only [Ty.den, dflt_kv]) <;> (try simp only [List.length_append, List.length_cons, List.length_nil, List.length_take, List.length_drop, List.length_replicate, fixedL_length, sum4_len]) <;> (first | trivial | assumption | omega | (change (_ : Int) ≤ _; omega) | (change (_ : Int) < _; omega) | (change (_ : Nat) * 1 ≤ _; omega) | (change (_ : Nat) * 48 ≤ _; omega) | (change (_ : Nat) * 24 ≤ _; omega) | (change (_ : Nat) * 8 ≤ _; omega) | (change (_ : Nat) * 64 ≤ _; omega) | decide)); done)); (conv => lhs; whnf); (try simp (maxSteps := 2000000) (disch := omega) only [nI64, nU64, nU32, nU8, nSubL, nAddL, nAdd, nSub, nDiv, nMod, nZ, nLit, row_3, row_5, row_16, row_22, row_28, row_46, row_48, row_108, row_115, Ty.den, dflt_it, dflt_li, dflt_kv, Int.toNat_natCast, List.take_length, List.drop_zero]))
                refine hK (i + 1, _, _, (us ++ [List.take ((l.getD i kvd).1.length - 8) (l.getD i kvd).1]), i + 1, 0) ⟨⟨by show i + 1 ≤ l.length; omega, by show i + 1 ≤ i + 1; omega⟩, ?_, ?_, ⟨by show 0 + total (l.drop (i + 1)) ≤ 5000; omega, htl.1, by show (ix ++ _).length ≤ i + 1; rw [List.length_append]; simp; omega, htl.2⟩, ?_, by show List.length (us ++ [List.take ((l.getD i kvd).1.length - 8) (l.getD i kvd).1]) ≤ i + 1; (try rw [List.length_append, List.length_singleton]); omega⟩ (by show l.length - (i + 1) < l.length - i; omega)
                · rw [← hstep]; exact (flushed (.inl hlast)).1
                · rw [← hstep]; exact (flushed (.inl hlast)).2
                · show (us ++ [List.take ((l.getD i kvd).1.length - 8) (l.getD i kvd).1]) ++ usersGo (if i + 1 = 0 then none else some (split (l.getD (i + 1 - 1) kvd).1).1) (l.drop (i + 1)) = _
                  rw [if_neg (by omega), Nat.add_sub_cancel, g3]; exact (by rw [List.append_assoc]; exact k9)
              · repeat (refine br_go ?_ ?_; (focus (((repeat' first | exact rfl | exact ordB_st rfl | exact ordB_of rfl | apply band | apply tst_t | apply nt_t)  <;> (try dsimp only [Ty.den, dflt_kv]) <;> (try simp only [List.length_append, List.length_cons, List.length_nil, List.length_take, List.length_drop, List.length_replicate, fixedL_length, sum4_len]) <;> (first | trivial | assumption | omega | (change (_ : Int) ≤ _; omega) | (change (_ : Int) < _; omega) | (change (_ : Nat) * 1 ≤ _; omega) | (change (_ : Nat) * 48 ≤ _; omega) | (change (_ : Nat) * 24 ≤ _; omega) | (change (_ : Nat) * 8 ≤ _; omega) | (change (_ : Nat) * 64 ≤ _; omega) | decide)); done)); (conv => lhs; whnf); (try simp (maxSteps := 2000000) (disch := omega) only [nI64, nU64, nU32, nU8, nSubL, nAddL, nAdd, nSub, nDiv, nMod, nZ, nLit, row_3, row_5, row_16, row_22, row_28, row_46, row_48, row_108, row_115, Ty.den, dflt_it, dflt_li, dflt_kv, Int.toNat_natCast, List.take_length, List.drop_zero]))
                refine br_no (tst_f (by omega)) ?_
                conv => lhs; whnf
                try simp (maxSteps := 2000000) (disch := omega) only [nI64, nU64, nU32, nU8, nSubL, nAddL, nAdd, nSub, nDiv, nMod, nZ, nLit, row_3, row_5, row_16, row_22, row_28, row_46, row_48, row_108, row_115, Ty.den, dflt_it, dflt_li, dflt_kv, Int.toNat_natCast, List.take_length, List.drop_zero]
                repeat (refine br_go ?_ ?_; (focus (((repeat' first | exact rfl | exact ordB_st rfl | exact ordB_of rfl | apply band | apply tst_t | apply nt_t)  <;> (try dsimp only [Ty.den, dflt_kv]) <;> (try simp only [List.length_append, List.length_cons, List.length_nil, List.length_take, List.length_drop, List.length_replicate, fixedL_length, sum4_len]) <;> (first | trivial | assumption | omega | (change (_ : Int) ≤ _; omega) | (change (_ : Int) < _; omega) | (change (_ : Nat) * 1 ≤ _; omega) | (change (_ : Nat) * 48 ≤ _; omega) | (change (_ : Nat) * 24 ≤ _; omega) | (change (_ : Nat) * 8 ≤ _; omega) | (change (_ : Nat) * 64 ≤ _; omega) | decide)); done)); (conv => lhs; whnf); (try simp (maxSteps := 2000000) (disch := omega) only [nI64, nU64, nU32, nU8, nSubL, nAddL, nAdd, nSub, nDiv, nMod, nZ, nLit, row_3, row_5, row_16, row_22, row_28, row_46, row_48, row_108, row_115, Ty.den, dflt_it, dflt_li, dflt_kv, Int.toNat_natCast, List.take_length, List.drop_zero]))
                have e : ((sz : Int) + ((l.getD i kvd).1.length : Int) + ((l.getD i kvd).2.1.length : Int)) = ((sz + szKV (l.getD i kvd) : Nat) : Int) := by omega
                rw [e]
                refine hK (i + 1, _, _, (us ++ [List.take ((l.getD i kvd).1.length - 8) (l.getD i kvd).1]), fr, sz + szKV (l.getD i kvd)) ⟨⟨by show i + 1 ≤ l.length; omega, by show fr ≤ i + 1; omega⟩, fun _ => ⟨by show sz + szKV (l.getD i kvd) < b.toNat; omega, k3b⟩, fun h => absurd h hlast, ⟨by show sz + szKV (l.getD i kvd) + total (l.drop (i + 1)) ≤ 5000; omega, k6, by show ix.length ≤ i + 1; omega, by show total ix ≤ 5030 * (i + 1); omega⟩, ?_, by show List.length (us ++ [List.take ((l.getD i kvd).1.length - 8) (l.getD i kvd).1]) ≤ i + 1; (try rw [List.length_append, List.length_singleton]); omega⟩ (by show l.length - (i + 1) < l.length - i; omega)
                show (us ++ [List.take ((l.getD i kvd).1.length - 8) (l.getD i kvd).1]) ++ usersGo (if i + 1 = 0 then none else some (split (l.getD (i + 1 - 1) kvd).1).1) (l.drop (i + 1)) = _
                rw [if_neg (by omega), Nat.add_sub_cancel, g3]; exact (by rw [List.append_assoc]; exact k9)
          · refine br_no (tst_f (by omega)) ?_
            conv => lhs; whnf
            try simp (maxSteps := 2000000) (disch := omega) only [nI64, nU64, nU32, nU8, nSubL, nAddL, nAdd, nSub, nDiv, nMod, nZ, nLit, row_3, row_5, row_16, row_22, row_28, row_46, row_48, row_108, row_115, Ty.den, dflt_it, dflt_li, dflt_kv, Int.toNat_natCast, List.take_length, List.drop_zero]
            have hk' := getD_kv (i := i - 1) hf1 (by omega)
            obtain ⟨g1', g2', g3'⟩ := split_take (hsp (i - 1) (by omega))
            rw [if_neg hz, g3'] at k9
            repeat (refine br_go ?_ ?_; (focus (((repeat' first | exact rfl | exact ordB_st rfl | exact ordB_of rfl | apply band | apply tst_t | apply nt_t)  <;> (try dsimp only [Ty.den, dflt_kv]) <;> (try simp only [List.length_append, List.length_cons, List.length_nil, List.length_take, List.length_drop, List.length_replicate, fixedL_length, sum4_len]) <;> (first | trivial | assumption | omega | (change (_ : Int) ≤ _; omega) | (change (_ : Int) < _; omega) | (change (_ : Nat) * 1 ≤ _; omega) | (change (_ : Nat) * 48 ≤ _; omega) | (change (_ : Nat) * 24 ≤ _; omega) | (change (_ : Nat) * 8 ≤ _; omega) | (change (_ : Nat) * 64 ≤ _; omega) | decide)); done)); (conv => lhs; whnf); (try simp (maxSteps := 2000000) (disch := omega) only [nI64, nU64, nU32, nU8, nSubL, nAddL, nAdd, nSub, nDiv, nMod, nZ, nLit, row_3, row_5, row_16, row_22, row_28, row_46, row_48, row_108, row_115, Ty.den, dflt_it, dflt_li, dflt_kv, Int.toNat_natCast, List.take_length, List.drop_zero]))
            by_cases hq : List.take ((l.getD (i - 1) kvd).1.length - 8) (l.getD (i - 1) kvd).1 = List.take ((l.getD i kvd).1.length - 8) (l.getD i kvd).1
            · rw [if_pos (by rw [hq]), hq] at k9
              refine br_no (tst_f ((fun h => h (by rw [hq]; exact cmpB_refl _)))) ?_
              conv => lhs; whnf
              try simp (maxSteps := 2000000) (disch := omega) only [nI64, nU64, nU32, nU8, nSubL, nAddL, nAdd, nSub, nDiv, nMod, nZ, nLit, row_3, row_5, row_16, row_22, row_28, row_46, row_48, row_108, row_115, Ty.den, dflt_it, dflt_li, dflt_kv, Int.toNat_natCast, List.take_length, List.drop_zero]
              repeat (refine br_go ?_ ?_; (focus (((repeat' first | exact rfl | exact ordB_st rfl | exact ordB_of rfl | apply band | apply tst_t | apply nt_t)  <;> (try dsimp only [Ty.den, dflt_kv]) <;> (try simp only [List.length_append, List.length_cons, List.length_nil, List.length_take, List.length_drop, List.length_replicate, fixedL_length, sum4_len]) <;> (first | trivial | assumption | omega | (change (_ : Int) ≤ _; omega) | (change (_ : Int) < _; omega) | (change (_ : Nat) * 1 ≤ _; omega) | (change (_ : Nat) * 48 ≤ _; omega) | (change (_ : Nat) * 24 ≤ _; omega) | (change (_ : Nat) * 8 ≤ _; omega) | (change (_ : Nat) * 64 ≤ _; omega) | decide)); done)); (conv => lhs; whnf); (try simp (maxSteps := 2000000) (disch := omega) only [nI64, nU64, nU32, nU8, nSubL, nAddL, nAdd, nSub, nDiv, nMod, nZ, nLit, row_3, row_5, row_16, row_22, row_28, row_46, row_48, row_108, row_115, Ty.den, dflt_it, dflt_li, dflt_kv, Int.toNat_natCast, List.take_length, List.drop_zero]))
              by_cases hs : sz + szKV (l.getD i kvd) ≥ b.toNat
              · refine br_go (tst_t (by omega)) ?_
                conv => lhs; whnf
                try simp (maxSteps := 2000000) (disch := omega) only [nI64, nU64, nU32, nU8, nSubL, nAddL, nAdd, nSub, nDiv, nMod, nZ, nLit, row_3, row_5, row_16, row_22, row_28, row_46, row_48, row_108, row_115, Ty.den, dflt_it, dflt_li, dflt_kv, Int.toNat_natCast, List.take_length, List.drop_zero]
                repeat (refine br_go ?_ ?_; (focus (((repeat' first | exact rfl | exact ordB_st rfl | exact ordB_of rfl | apply band | apply tst_t | apply nt_t)  <;> (try dsimp only [Ty.den, dflt_kv]) <;> (try simp only [List.length_append, List.length_cons, List.length_nil, List.length_take, List.length_drop, List.length_replicate, fixedL_length, sum4_len]) <;> (first | trivial | assumption | omega | (change (_ : Int) ≤ _; omega) | (change (_ : Int) < _; omega) | (change (_ : Nat) * 1 ≤ _; omega) | (change (_ : Nat) * 48 ≤ _; omega) | (change (_ : Nat) * 24 ≤ _; omega) | (change (_ : Nat) * 8 ≤ _; omega) | (change (_ : Nat) * 64 ≤ _; omega) | decide)); done)); (conv => lhs; whnf); (try simp (maxSteps := 2000000) (disch := omega) only [nI64, nU64, nU32, nU8, nSubL, nAddL, nAdd, nSub, nDiv, nMod, nZ, nLit, row_3, row_5, row_16, row_22, row_28, row_46, row_48, row_108, row_115, Ty.den, dflt_it, dflt_li, dflt_kv, Int.toNat_natCast, List.take_length, List.drop_zero]))
                refine hK (i + 1, _, _, us, i + 1, 0) ⟨⟨by show i + 1 ≤ l.length; omega, by show i + 1 ≤ i + 1; omega⟩, ?_, ?_, ⟨by show 0 + total (l.drop (i + 1)) ≤ 5000; omega, htl.1, by show (ix ++ _).length ≤ i + 1; rw [List.length_append]; simp; omega, htl.2⟩, ?_, by show List.length us ≤ i + 1; (try rw [List.length_append, List.length_singleton]); omega⟩ (by show l.length - (i + 1) < l.length - i; omega)
                · rw [← hstep]; exact (flushed (.inr hs)).1
                · rw [← hstep]; exact (flushed (.inr hs)).2
                · show us ++ usersGo (if i + 1 = 0 then none else some (split (l.getD (i + 1 - 1) kvd).1).1) (l.drop (i + 1)) = _
                  rw [if_neg (by omega), Nat.add_sub_cancel, g3]; exact k9
              · refine br_no (tst_f (by omega)) ?_
                conv => lhs; whnf
                try simp (maxSteps := 2000000) (disch := omega) only [nI64, nU64, nU32, nU8, nSubL, nAddL, nAdd, nSub, nDiv, nMod, nZ, nLit, row_3, row_5, row_16, row_22, row_28, row_46, row_48, row_108, row_115, Ty.den, dflt_it, dflt_li, dflt_kv, Int.toNat_natCast, List.take_length, List.drop_zero]
                by_cases hlast : i + 1 = l.length
                · repeat (refine br_go ?_ ?_; (focus (((repeat' first | exact rfl | exact ordB_st rfl | exact ordB_of rfl | apply band | apply tst_t | apply nt_t)  <;> (try dsimp only [Ty.den, dflt_kv]) <;> (try simp only [List.length_append, List.length_cons, List.length_nil, List.length_take, List.length_drop, List.length_replicate, fixedL_length, sum4_len]) <;> (first | trivial | assumption | omega | (change (_ : Int) ≤ _; omega) | (change (_ : Int) < _; omega) | (change (_ : Nat) * 1 ≤ _; omega) | (change (_ : Nat) * 48 ≤ _; omega) | (change (_ : Nat) * 24 ≤ _; omega) | (change (_ : Nat) * 8 ≤ _; omega) | (change (_ : Nat) * 64 ≤ _; omega) | decide)); done)); (conv => lhs; whnf); (try simp (maxSteps := 2000000) (disch := omega) only [nI64, nU64, nU32, nU8, nSubL, nAddL, nAdd, nSub, nDiv, nMod, nZ, nLit, row_3, row_5, row_16, row_22, row_28, row_46, row_48, row_108, row_115, Ty.den, dflt_it, dflt_li, dflt_kv, Int.toNat_natCast, List.take_length, List.drop_zero]))
                  refine hK (i + 1, _, _, us, i + 1, 0) ⟨⟨by show i + 1 ≤ l.length; omega, by show i + 1 ≤ i + 1; omega⟩, ?_, ?_, ⟨by show 0 + total (l.drop (i + 1)) ≤ 5000; omega, htl.1, by show (ix ++ _).length ≤ i + 1; rw [List.length_append]; simp; omega, htl.2⟩, ?_, by show List.length us ≤ i + 1; (try rw [List.length_append, List.length_singleton]); omega⟩ (by show l.length - (i + 1) < l.length - i; omega)
                  · rw [← hstep]; exact (flushed (.inl hlast)).1
                  · rw [← hstep]; exact (flushed (.inl hlast)).2
                  · show us ++ usersGo (if i + 1 = 0 then none else some (split (l.getD (i + 1 - 1) kvd).1).1) (l.drop (i + 1)) = _
                    rw [if_neg (by omega), Nat.add_sub_cancel, g3]; exact k9
                · repeat (refine br_go ?_ ?_; (focus (((repeat' first | exact rfl | exact ordB_st rfl | exact ordB_of rfl | apply band | apply tst_t | apply nt_t)  <;> (try dsimp only [Ty.den, dflt_kv]) <;> (try simp only [List.length_append, List.length_cons, List.length_nil, List.length_take, List.length_drop, List.length_replicate, fixedL_length, sum4_len]) <;> (first | trivial | assumption | omega | (change (_ : Int) ≤ _; omega) | (change (_ : Int) < _; omega) | (change (_ : Nat) * 1 ≤ _; omega) | (change (_ : Nat) * 48 ≤ _; omega) | (change (_ : Nat) * 24 ≤ _; omega) | (change (_ : Nat) * 8 ≤ _; omega) | (change (_ : Nat) * 64 ≤ _; omega) | decide)); done)); (conv => lhs; whnf); (try simp (maxSteps := 2000000) (disch := omega) only [nI64, nU64, nU32, nU8, nSubL, nAddL, nAdd, nSub, nDiv, nMod, nZ, nLit, row_3, row_5, row_16, row_22, row_28, row_46, row_48, row_108, row_115, Ty.den, dflt_it, dflt_li, dflt_kv, Int.toNat_natCast, List.take_length, List.drop_zero]))
                  refine br_no (tst_f (by omega)) ?_
                  conv => lhs; whnf
                  try simp (maxSteps := 2000000) (disch := omega) only [nI64, nU64, nU32, nU8, nSubL, nAddL, nAdd, nSub, nDiv, nMod, nZ, nLit, row_3, row_5, row_16, row_22, row_28, row_46, row_48, row_108, row_115, Ty.den, dflt_it, dflt_li, dflt_kv, Int.toNat_natCast, List.take_length, List.drop_zero]
                  repeat (refine br_go ?_ ?_; (focus (((repeat' first | exact rfl | exact ordB_st rfl | exact ordB_of rfl | apply band | apply tst_t | apply nt_t)  <;> (try dsimp only [Ty.den, dflt_kv]) <;> (try simp only [List.length_append, List.length_cons, List.length_nil, List.length_take, List.length_drop, List.length_replicate, fixedL_length, sum4_len]) <;> (first | trivial | assumption | omega | (change (_ : Int) ≤ _; omega) | (change (_ : Int) < _; omega) | (change (_ : Nat) * 1 ≤ _; omega) | (change (_ : Nat) * 48 ≤ _; omega) | (change (_ : Nat) * 24 ≤ _; omega) | (change (_ : Nat) * 8 ≤ _; omega) | (change (_ : Nat) * 64 ≤ _; omega) | decide)); done)); (conv => lhs; whnf); (try simp (maxSteps := 2000000) (disch := omega) only [nI64, nU64, nU32, nU8, nSubL, nAddL, nAdd, nSub, nDiv, nMod, nZ, nLit, row_3, row_5, row_16, row_22, row_28, row_46, row_48, row_108, row_115, Ty.den, dflt_it, dflt_li, dflt_kv, Int.toNat_natCast, List.take_length, List.drop_zero]))
                  have e : ((sz : Int) + ((l.getD i kvd).1.length : Int) + ((l.getD i kvd).2.1.length : Int)) = ((sz + szKV (l.getD i kvd) : Nat) : Int) := by omega
                  rw [e]
                  refine hK (i + 1, _, _, us, fr, sz + szKV (l.getD i kvd)) ⟨⟨by show i + 1 ≤ l.length; omega, by show fr ≤ i + 1; omega⟩, fun _ => ⟨by show sz + szKV (l.getD i kvd) < b.toNat; omega, k3b⟩, fun h => absurd h hlast, ⟨by show sz + szKV (l.getD i kvd) + total (l.drop (i + 1)) ≤ 5000; omega, k6, by show ix.length ≤ i + 1; omega, by show total ix ≤ 5030 * (i + 1); omega⟩, ?_, by show List.length us ≤ i + 1; (try rw [List.length_append, List.length_singleton]); omega⟩ (by show l.length - (i + 1) < l.length - i; omega)
                  show us ++ usersGo (if i + 1 = 0 then none else some (split (l.getD (i + 1 - 1) kvd).1).1) (l.drop (i + 1)) = _
                  rw [if_neg (by omega), Nat.add_sub_cancel, g3]; exact k9
            · rw [if_neg (fun h => hq (Option.some.inj h))] at k9
              refine br_go (tst_t ((fun h => hq (cmpB_zero h)))) ?_
              conv => lhs; whnf
              try simp (maxSteps := 2000000) (disch := omega) only [nI64, nU64, nU32, nU8, nSubL, nAddL, nAdd, nSub, nDiv, nMod, nZ, nLit, row_3, row_5, row_16, row_22, row_28, row_46, row_48, row_108, row_115, Ty.den, dflt_it, dflt_li, dflt_kv, Int.toNat_natCast, List.take_length, List.drop_zero]
              repeat (refine br_go ?_ ?_; (focus (((repeat' first | exact rfl | exact ordB_st rfl | exact ordB_of rfl | apply band | apply tst_t | apply nt_t)  <;> (try dsimp only [Ty.den, dflt_kv]) <;> (try simp only [List.length_append, List.length_cons, List.length_nil, List.length_take, List.length_drop, List.length_replicate, fixedL_length, sum4_len]) <;> (first | trivial | assumption | omega | (change (_ : Int) ≤ _; omega) | (change (_ : Int) < _; omega) | (change (_ : Nat) * 1 ≤ _; omega) | (change (_ : Nat) * 48 ≤ _; omega) | (change (_ : Nat) * 24 ≤ _; omega) | (change (_ : Nat) * 8 ≤ _; omega) | (change (_ : Nat) * 64 ≤ _; omega) | decide)); done)); (conv => lhs; whnf); (try simp (maxSteps := 2000000) (disch := omega) only [nI64, nU64, nU32, nU8, nSubL, nAddL, nAdd, nSub, nDiv, nMod, nZ, nLit, row_3, row_5, row_16, row_22, row_28, row_46, row_48, row_108, row_115, Ty.den, dflt_it, dflt_li, dflt_kv, Int.toNat_natCast, List.take_length, List.drop_zero]))
              by_cases hs : sz + szKV (l.getD i kvd) ≥ b.toNat
              · refine br_go (tst_t (by omega)) ?_
                conv => lhs; whnf
                try simp (maxSteps := 2000000) (disch := omega) only [nI64, nU64, nU32, nU8, nSubL, nAddL, nAdd, nSub, nDiv, nMod, nZ, nLit, row_3, row_5, row_16, row_22, row_28, row_46, row_48, row_108, row_115, Ty.den, dflt_it, dflt_li, dflt_kv, Int.toNat_natCast, List.take_length, List.drop_zero]
                repeat (refine br_go ?_ ?_; (focus (((repeat' first | exact rfl | exact ordB_st rfl | exact ordB_of rfl | apply band | apply tst_t | apply nt_t)  <;> (try dsimp only [Ty.den, dflt_kv]) <;> (try simp only [List.length_append, List.length_cons, List.length_nil, List.length_take, List.length_drop, List.length_replicate, fixedL_length, sum4_len]) <;> (first | trivial | assumption | omega | (change (_ : Int) ≤ _; omega) | (change (_ : Int) < _; omega) | (change (_ : Nat) * 1 ≤ _; omega) | (change (_ : Nat) * 48 ≤ _; omega) | (change (_ : Nat) * 24 ≤ _; omega) | (change (_ : Nat) * 8 ≤ _; omega) | (change (_ : Nat) * 64 ≤ _; omega) | decide)); done)); (conv => lhs; whnf); (try simp (maxSteps := 2000000) (disch := omega) only [nI64, nU64, nU32, nU8, nSubL, nAddL, nAdd, nSub, nDiv, nMod, nZ, nLit, row_3, row_5, row_16, row_22, row_28, row_46, row_48, row_108, row_115, Ty.den, dflt_it, dflt_li, dflt_kv, Int.toNat_natCast, List.take_length, List.drop_zero]))
                refine hK (i + 1, _, _, (us ++ [List.take ((l.getD i kvd).1.length - 8) (l.getD i kvd).1]), i + 1, 0) ⟨⟨by show i + 1 ≤ l.length; omega, by show i + 1 ≤ i + 1; omega⟩, ?_, ?_, ⟨by show 0 + total (l.drop (i + 1)) ≤ 5000; omega, htl.1, by show (ix ++ _).length ≤ i + 1; rw [List.length_append]; simp; omega, htl.2⟩, ?_, by show List.length (us ++ [List.take ((l.getD i kvd).1.length - 8) (l.getD i kvd).1]) ≤ i + 1; (try rw [List.length_append, List.length_singleton]); omega⟩ (by show l.length - (i + 1) < l.length - i; omega)
                · rw [← hstep]; exact (flushed (.inr hs)).1
                · rw [← hstep]; exact (flushed (.inr hs)).2
                · show (us ++ [List.take ((l.getD i kvd).1.length - 8) (l.getD i kvd).1]) ++ usersGo (if i + 1 = 0 then none else some (split (l.getD (i + 1 - 1) kvd).1).1) (l.drop (i + 1)) = _
                  rw [if_neg (by omega), Nat.add_sub_cancel, g3]; exact (by rw [List.append_assoc]; exact k9)
              · refine br_no (tst_f (by omega)) ?_
                conv => lhs; whnf
                try simp (maxSteps := 2000000) (disch := omega) only [nI64, nU64, nU32, nU8, nSubL, nAddL, nAdd, nSub, nDiv, nMod, nZ, nLit, row_3, row_5, row_16, row_22, row_28, row_46, row_48, row_108, row_115, Ty.den, dflt_it, dflt_li, dflt_kv, Int.toNat_natCast, List.take_length, List.drop_zero]
                by_cases hlast : i + 1 = l.length
                · repeat (refine br_go ?_ ?_; (focus (((repeat' first | exact rfl | exact ordB_st rfl | exact ordB_of rfl | apply band | apply tst_t | apply nt_t)  <;> (try dsimp only [Ty.den, dflt_kv]) <;> (try simp only [List.length_append, List.length_cons, List.length_nil, List.length_take, List.length_drop, List.length_replicate, fixedL_length, sum4_len]) <;> (first | trivial | assumption | omega | (change (_ : Int) ≤ _; omega) | (change (_ : Int) < _; omega) | (change (_ : Nat) * 1 ≤ _; omega) | (change (_ : Nat) * 48 ≤ _; omega) | (change (_ : Nat) * 24 ≤ _; omega) | (change (_ : Nat) * 8 ≤ _; omega) | (change (_ : Nat) * 64 ≤ _; omega) | decide)); done)); (conv => lhs; whnf); (try simp (maxSteps := 2000000) (disch := omega) only [nI64, nU64, nU32, nU8, nSubL, nAddL, nAdd, nSub, nDiv, nMod, nZ, nLit, row_3, row_5, row_16, row_22, row_28, row_46, row_48, row_108, row_115, Ty.den, dflt_it, dflt_li, dflt_kv, Int.toNat_natCast, List.take_length, List.drop_zero]))
                  refine hK (i + 1, _, _, (us ++ [List.take ((l.getD i kvd).1.length - 8) (l.getD i kvd).1]), i + 1, 0) ⟨⟨by show i + 1 ≤ l.length; omega, by show i + 1 ≤ i + 1; omega⟩, ?_, ?_, ⟨by show 0 + total (l.drop (i + 1)) ≤ 5000; omega, htl.1, by show (ix ++ _).length ≤ i + 1; rw [List.length_append]; simp; omega, htl.2⟩, ?_, by show List.length (us ++ [List.take ((l.getD i kvd).1.length - 8) (l.getD i kvd).1]) ≤ i + 1; (try rw [List.length_append, List.length_singleton]); omega⟩ (by show l.length - (i + 1) < l.length - i; omega)
                  · rw [← hstep]; exact (flushed (.inl hlast)).1
                  · rw [← hstep]; exact (flushed (.inl hlast)).2
                  · show (us ++ [List.take ((l.getD i kvd).1.length - 8) (l.getD i kvd).1]) ++ usersGo (if i + 1 = 0 then none else some (split (l.getD (i + 1 - 1) kvd).1).1) (l.drop (i + 1)) = _
                    rw [if_neg (by omega), Nat.add_sub_cancel, g3]; exact (by rw [List.append_assoc]; exact k9)
                · repeat (refine br_go ?_ ?_; (focus (((repeat' first | exact rfl | exact ordB_st rfl | exact ordB_of rfl | apply band | apply tst_t | apply nt_t)  <;> (try dsimp only [Ty.den, dflt_kv]) <;> (try simp only [List.length_append, List.length_cons, List.length_nil, List.length_take, List.length_drop, List.length_replicate, fixedL_length, sum4_len]) <;> (first | trivial | assumption | omega | (change (_ : Int) ≤ _; omega) | (change (_ : Int) < _; omega) | (change (_ : Nat) * 1 ≤ _; omega) | (change (_ : Nat) * 48 ≤ _; omega) | (change (_ : Nat) * 24 ≤ _; omega) | (change (_ : Nat) * 8 ≤ _; omega) | (change (_ : Nat) * 64 ≤ _; omega) | decide)); done)); (conv => lhs; whnf); (try simp (maxSteps := 2000000) (disch := omega) only [nI64, nU64, nU32, nU8, nSubL, nAddL, nAdd, nSub, nDiv, nMod, nZ, nLit, row_3, row_5, row_16, row_22, row_28, row_46, row_48, row_108, row_115, Ty.den, dflt_it, dflt_li, dflt_kv, Int.toNat_natCast, List.take_length, List.drop_zero]))
                  refine br_no (tst_f (by omega)) ?_
                  conv => lhs; whnf
                  try simp (maxSteps := 2000000) (disch := omega) only [nI64, nU64, nU32, nU8, nSubL, nAddL, nAdd, nSub, nDiv, nMod, nZ, nLit, row_3, row_5, row_16, row_22, row_28, row_46, row_48, row_108, row_115, Ty.den, dflt_it, dflt_li, dflt_kv, Int.toNat_natCast, List.take_length, List.drop_zero]
                  repeat (refine br_go ?_ ?_; (focus (((repeat' first | exact rfl | exact ordB_st rfl | exact ordB_of rfl | apply band | apply tst_t | apply nt_t)  <;> (try dsimp only [Ty.den, dflt_kv]) <;> (try simp only [List.length_append, List.length_cons, List.length_nil, List.length_take, List.length_drop, List.length_replicate, fixedL_length, sum4_len]) <;> (first | trivial | assumption | omega | (change (_ : Int) ≤ _; omega) | (change (_ : Int) < _; omega) | (change (_ : Nat) * 1 ≤ _; omega) | (change (_ : Nat) * 48 ≤ _; omega) | (change (_ : Nat) * 24 ≤ _; omega) | (change (_ : Nat) * 8 ≤ _; omega) | (change (_ : Nat) * 64 ≤ _; omega) | decide)); done)); (conv => lhs; whnf); (try simp (maxSteps := 2000000) (disch := omega) only [nI64, nU64, nU32, nU8, nSubL, nAddL, nAdd, nSub, nDiv, nMod, nZ, nLit, row_3, row_5, row_16, row_22, row_28, row_46, row_48, row_108, row_115, Ty.den, dflt_it, dflt_li, dflt_kv, Int.toNat_natCast, List.take_length, List.drop_zero]))
                  have e : ((sz : Int) + ((l.getD i kvd).1.length : Int) + ((l.getD i kvd).2.1.length : Int)) = ((sz + szKV (l.getD i kvd) : Nat) : Int) := by omega
                  rw [e]
                  refine hK (i + 1, _, _, (us ++ [List.take ((l.getD i kvd).1.length - 8) (l.getD i kvd).1]), fr, sz + szKV (l.getD i kvd)) ⟨⟨by show i + 1 ≤ l.length; omega, by show fr ≤ i + 1; omega⟩, fun _ => ⟨by show sz + szKV (l.getD i kvd) < b.toNat; omega, k3b⟩, fun h => absurd h hlast, ⟨by show sz + szKV (l.getD i kvd) + total (l.drop (i + 1)) ≤ 5000; omega, k6, by show ix.length ≤ i + 1; omega, by show total ix ≤ 5030 * (i + 1); omega⟩, ?_, by show List.length (us ++ [List.take ((l.getD i kvd).1.length - 8) (l.getD i kvd).1]) ≤ i + 1; (try rw [List.length_append, List.length_singleton]); omega⟩ (by show l.length - (i + 1) < l.length - i; omega)
                  show (us ++ [List.take ((l.getD i kvd).1.length - 8) (l.getD i kvd).1]) ++ usersGo (if i + 1 = 0 then none else some (split (l.getD (i + 1 - 1) kvd).1).1) (l.drop (i + 1)) = _
                  rw [if_neg (by omega), Nat.add_sub_cancel, g3]; exact (by rw [List.append_assoc]; exact k9)
        · refine br_no (tst_f (by omega)) ?_
          conv => lhs; whnf
          try simp (maxSteps := 2000000) (disch := omega) only [nI64, nU64, nU32, nU8, nSubL, nAddL, nAdd, nSub, nDiv, nMod, nZ, nLit, row_3, row_5, row_16, row_22, row_28, row_46, row_48, row_108, row_115, Ty.den, dflt_it, dflt_li, dflt_kv, Int.toNat_natCast, List.take_length, List.drop_zero]
          have k4' := k4 (by omega)
          subst k4'
          rw [List.drop_eq_nil_of_le (by omega : l.length ≤ i), usersGo, List.append_nil] at k9
          subst k9
          have efl : filterS (usersGo none l) ib 71 = ((filterS (usersGo none l) ib 71).1, 0) := by unfold filterS; rw [if_neg (by omega)]
          have hxl := built_len (l := ix) (r := 1) (by omega)
          have hfl := filterS_len (l := usersGo none l) (many := ib) (E := 71) (by omega) (by omega) (by omega)
          generalize (filterS (usersGo none l) ib 71).1 = fl at *
          have hfx : Fair ix := ⟨by omega, by omega⟩
          repeat (refine br_go ?_ ?_; (focus (((repeat' first | exact rfl | exact ordB_st rfl | exact ordB_of rfl | apply band | apply tst_t | apply nt_t)  <;> (try dsimp only [Ty.den, dflt_kv]) <;> (try simp only [List.length_append, List.length_cons, List.length_nil, List.length_take, List.length_drop, List.length_replicate, fixedL_length, sum4_len]) <;> (first | trivial | assumption | omega | (change (_ : Int) ≤ _; omega) | (change (_ : Int) < _; omega) | (change (_ : Nat) * 1 ≤ _; omega) | (change (_ : Nat) * 48 ≤ _; omega) | (change (_ : Nat) * 24 ≤ _; omega) | (change (_ : Nat) * 8 ≤ _; omega) | (change (_ : Nat) * 64 ≤ _; omega) | decide)); done)); (conv => lhs; whnf); (try simp (maxSteps := 2000000) (disch := omega) only [nI64, nU64, nU32, nU8, nSubL, nAddL, nAdd, nSub, nDiv, nMod, nZ, nLit, row_3, row_5, row_16, row_22, row_28, row_46, row_48, row_108, row_115, Ty.den, dflt_it, dflt_li, dflt_kv, Int.toNat_natCast, List.take_length, List.drop_zero]))
          try simp (maxSteps := 2000000) (disch := omega) only [nI64, nU64, nU32, nU8, nSubL, nAddL, nAdd, nSub, nDiv, nMod, nZ, nLit, row_3, row_5, row_16, row_22, row_28, row_46, row_48, row_108, row_115, Ty.den, dflt_it, dflt_li, dflt_kv, Int.toNat_natCast, List.take_length, List.drop_zero, efl]
          refine loop_more (by omega) ?_
          conv => lhs; whnf
          try simp (maxSteps := 2000000) (disch := omega) only [nI64, nU64, nU32, nU8, nSubL, nAddL, nAdd, nSub, nDiv, nMod, nZ, nLit, row_3, row_5, row_16, row_22, row_28, row_46, row_48, row_108, row_115, Ty.den, dflt_it, dflt_li, dflt_kv, Int.toNat_natCast, List.take_length, List.drop_zero]
          repeat (refine br_go ?_ ?_; (focus (((repeat' first | exact rfl | exact ordB_st rfl | exact ordB_of rfl | apply band | apply tst_t | apply nt_t)  <;> (try dsimp only [Ty.den, dflt_kv]) <;> (try simp only [List.length_append, List.length_cons, List.length_nil, List.length_take, List.length_drop, List.length_replicate, fixedL_length, sum4_len]) <;> (first | trivial | assumption | omega | (change (_ : Int) ≤ _; omega) | (change (_ : Int) < _; omega) | (change (_ : Nat) * 1 ≤ _; omega) | (change (_ : Nat) * 48 ≤ _; omega) | (change (_ : Nat) * 24 ≤ _; omega) | (change (_ : Nat) * 8 ≤ _; omega) | (change (_ : Nat) * 64 ≤ _; omega) | decide)); done)); (conv => lhs; whnf); (try simp (maxSteps := 2000000) (disch := omega) only [nI64, nU64, nU32, nU8, nSubL, nAddL, nAdd, nSub, nDiv, nMod, nZ, nLit, row_3, row_5, row_16, row_22, row_28, row_46, row_48, row_108, row_115, Ty.den, dflt_it, dflt_li, dflt_kv, Int.toNat_natCast, List.take_length, List.drop_zero]))
          refine loop_more (by omega) ?_
          conv => lhs; whnf
          try simp (maxSteps := 2000000) (disch := omega) only [nI64, nU64, nU32, nU8, nSubL, nAddL, nAdd, nSub, nDiv, nMod, nZ, nLit, row_3, row_5, row_16, row_22, row_28, row_46, row_48, row_108, row_115, Ty.den, dflt_it, dflt_li, dflt_kv, Int.toNat_natCast, List.take_length, List.drop_zero]
          repeat (refine br_go ?_ ?_; (focus (((repeat' first | exact rfl | exact ordB_st rfl | exact ordB_of rfl | apply band | apply tst_t | apply nt_t)  <;> (try dsimp only [Ty.den, dflt_kv]) <;> (try simp only [List.length_append, List.length_cons, List.length_nil, List.length_take, List.length_drop, List.length_replicate, fixedL_length, sum4_len]) <;> (first | trivial | assumption | omega | (change (_ : Int) ≤ _; omega) | (change (_ : Int) < _; omega) | (change (_ : Nat) * 1 ≤ _; omega) | (change (_ : Nat) * 48 ≤ _; omega) | (change (_ : Nat) * 24 ≤ _; omega) | (change (_ : Nat) * 8 ≤ _; omega) | (change (_ : Nat) * 64 ≤ _; omega) | decide)); done)); (conv => lhs; whnf); (try simp (maxSteps := 2000000) (disch := omega) only [nI64, nU64, nU32, nU8, nSubL, nAddL, nAdd, nSub, nDiv, nMod, nZ, nLit, row_3, row_5, row_16, row_22, row_28, row_46, row_48, row_108, row_115, Ty.den, dflt_it, dflt_li, dflt_kv, Int.toNat_natCast, List.take_length, List.drop_zero]))
          refine loop_more (by omega) ?_
          conv => lhs; whnf
          try simp (maxSteps := 2000000) (disch := omega) only [nI64, nU64, nU32, nU8, nSubL, nAddL, nAdd, nSub, nDiv, nMod, nZ, nLit, row_3, row_5, row_16, row_22, row_28, row_46, row_48, row_108, row_115, Ty.den, dflt_it, dflt_li, dflt_kv, Int.toNat_natCast, List.take_length, List.drop_zero]
          repeat (refine br_go ?_ ?_; (focus (((repeat' first | exact rfl | exact ordB_st rfl | exact ordB_of rfl | apply band | apply tst_t | apply nt_t)  <;> (try dsimp only [Ty.den, dflt_kv]) <;> (try simp only [List.length_append, List.length_cons, List.length_nil, List.length_take, List.length_drop, List.length_replicate, fixedL_length, sum4_len]) <;> (first | trivial | assumption | omega | (change (_ : Int) ≤ _; omega) | (change (_ : Int) < _; omega) | (change (_ : Nat) * 1 ≤ _; omega) | (change (_ : Nat) * 48 ≤ _; omega) | (change (_ : Nat) * 24 ≤ _; omega) | (change (_ : Nat) * 8 ≤ _; omega) | (change (_ : Nat) * 64 ≤ _; omega) | decide)); done)); (conv => lhs; whnf); (try simp (maxSteps := 2000000) (disch := omega) only [nI64, nU64, nU32, nU8, nSubL, nAddL, nAdd, nSub, nDiv, nMod, nZ, nLit, row_3, row_5, row_16, row_22, row_28, row_46, row_48, row_108, row_115, Ty.den, dflt_it, dflt_li, dflt_kv, Int.toNat_natCast, List.take_length, List.drop_zero]))
          refine loop_more (by omega) ?_
          conv => lhs; whnf
          try simp (maxSteps := 2000000) (disch := omega) only [nI64, nU64, nU32, nU8, nSubL, nAddL, nAdd, nSub, nDiv, nMod, nZ, nLit, row_3, row_5, row_16, row_22, row_28, row_46, row_48, row_108, row_115, Ty.den, dflt_it, dflt_li, dflt_kv, Int.toNat_natCast, List.take_length, List.drop_zero]
          repeat (refine br_go ?_ ?_; (focus (((repeat' first | exact rfl | exact ordB_st rfl | exact ordB_of rfl | apply band | apply tst_t | apply nt_t)  <;> (try dsimp only [Ty.den, dflt_kv]) <;> (try simp only [List.length_append, List.length_cons, List.length_nil, List.length_take, List.length_drop, List.length_replicate, fixedL_length, sum4_len]) <;> (first | trivial | assumption | omega | (change (_ : Int) ≤ _; omega) | (change (_ : Int) < _; omega) | (change (_ : Nat) * 1 ≤ _; omega) | (change (_ : Nat) * 48 ≤ _; omega) | (change (_ : Nat) * 24 ≤ _; omega) | (change (_ : Nat) * 8 ≤ _; omega) | (change (_ : Nat) * 64 ≤ _; omega) | decide)); done)); (conv => lhs; whnf); (try simp (maxSteps := 2000000) (disch := omega) only [nI64, nU64, nU32, nU8, nSubL, nAddL, nAdd, nSub, nDiv, nMod, nZ, nLit, row_3, row_5, row_16, row_22, row_28, row_46, row_48, row_108, row_115, Ty.den, dflt_it, dflt_li, dflt_kv, Int.toNat_natCast, List.take_length, List.drop_zero]))
          refine loop_more (by omega) ?_
          conv => lhs; whnf
          try simp (maxSteps := 2000000) (disch := omega) only [nI64, nU64, nU32, nU8, nSubL, nAddL, nAdd, nSub, nDiv, nMod, nZ, nLit, row_3, row_5, row_16, row_22, row_28, row_46, row_48, row_108, row_115, Ty.den, dflt_it, dflt_li, dflt_kv, Int.toNat_natCast, List.take_length, List.drop_zero]
          refine br_no (tst_f (by omega)) ?_
          conv => lhs; whnf
          try simp (maxSteps := 2000000) (disch := omega) only [nI64, nU64, nU32, nU8, nSubL, nAddL, nAdd, nSub, nDiv, nMod, nZ, nLit, row_3, row_5, row_16, row_22, row_28, row_46, row_48, row_108, row_115, Ty.den, dflt_it, dflt_li, dflt_kv, Int.toNat_natCast, List.take_length, List.drop_zero]
          repeat (refine br_go ?_ ?_; (focus (((repeat' first | exact rfl | exact ordB_st rfl | exact ordB_of rfl | apply band | apply tst_t | apply nt_t)  <;> (try dsimp only [Ty.den, dflt_kv]) <;> (try simp only [List.length_append, List.length_cons, List.length_nil, List.length_take, List.length_drop, List.length_replicate, fixedL_length, sum4_len]) <;> (first | trivial | assumption | omega | (change (_ : Int) ≤ _; omega) | (change (_ : Int) < _; omega) | (change (_ : Nat) * 1 ≤ _; omega) | (change (_ : Nat) * 48 ≤ _; omega) | (change (_ : Nat) * 24 ≤ _; omega) | (change (_ : Nat) * 8 ≤ _; omega) | (change (_ : Nat) * 64 ≤ _; omega) | decide)); done)); (conv => lhs; whnf); (try simp (maxSteps := 2000000) (disch := omega) only [nI64, nU64, nU32, nU8, nSubL, nAddL, nAdd, nSub, nDiv, nMod, nZ, nLit, row_3, row_5, row_16, row_22, row_28, row_46, row_48, row_108, row_115, Ty.den, dflt_it, dflt_li, dflt_kv, Int.toNat_natCast, List.take_length, List.drop_zero]))
          have hml : magicL.length = 8 := rfl
          refine br_go (band (band rfl (tst_t trivial)) (tst_t (by simp only [List.length_append, fixedL_length, hml, List.length_nil]; omega))) ?_
          conv => lhs; whnf
          try simp (maxSteps := 2000000) (disch := omega) only [nI64, nU64, nU32, nU8, nSubL, nAddL, nAdd, nSub, nDiv, nMod, nZ, nLit, row_3, row_5, row_16, row_22, row_28, row_46, row_48, row_108, row_115, Ty.den, dflt_it, dflt_li, dflt_kv, Int.toNat_natCast, List.take_length, List.drop_zero]
          repeat (refine br_go ?_ ?_; (focus (((repeat' first | exact rfl | exact ordB_st rfl | exact ordB_of rfl | apply band | apply tst_t | apply nt_t)  <;> (try dsimp only [Ty.den, dflt_kv]) <;> (try simp only [List.length_append, List.length_cons, List.length_nil, List.length_take, List.length_drop, List.length_replicate, fixedL_length, sum4_len]) <;> (first | trivial | assumption | omega | (change (_ : Int) ≤ _; omega) | (change (_ : Int) < _; omega) | (change (_ : Nat) * 1 ≤ _; omega) | (change (_ : Nat) * 48 ≤ _; omega) | (change (_ : Nat) * 24 ≤ _; omega) | (change (_ : Nat) * 8 ≤ _; omega) | (change (_ : Nat) * 64 ≤ _; omega) | decide)); done)); (conv => lhs; whnf); (try simp (maxSteps := 2000000) (disch := omega) only [nI64, nU64, nU32, nU8, nSubL, nAddL, nAdd, nSub, nDiv, nMod, nZ, nLit, row_3, row_5, row_16, row_22, row_28, row_46, row_48, row_108, row_115, Ty.den, dflt_it, dflt_li, dflt_kv, Int.toNat_natCast, List.take_length, List.drop_zero]))
          have ec : ((out.length + fl.length + 4 : Nat) : Int) = (out.length : Int) + fl.length + 4 := by omega
          have ef : tabEnd (out, ix) fl = out ++ fl ++ fixedL (sumS fl) 4 ++ built ix 1 ++ fixedL (sumS (built ix 1)) 4 ++ (fixedL (↑out.length) 8 ++ fixedL (↑fl.length) 8 ++ fixedL (↑out.length + ↑fl.length + 4) 8 ++ fixedL (↑(built ix 1).length) 8) ++ fixedL (sumS (fixedL (↑out.length) 8 ++ fixedL (↑fl.length) 8 ++ fixedL (↑out.length + ↑fl.length + 4) 8 ++ fixedL (↑(built ix 1).length) 8)) 4 ++ magicL := by
            unfold tabEnd spotsL sum4
            rw [ec]
            simp only [List.append_assoc]
          rw [ef]
          rfl
      · rw [if_pos c3]
        refine br_go (nt_t c3) ?_
        conv => lhs; whnf
        try simp (maxSteps := 2000000) (disch := omega) only [nI64, nU64, nU32, nU8, nSubL, nAddL, nAdd, nSub, nDiv, nMod, nZ, nLit, row_3, row_5, row_16, row_22, row_28, row_46, row_48, row_108, row_115, Ty.den, dflt_it, dflt_li, dflt_kv, Int.toNat_natCast, List.take_length, List.drop_zero]
        repeat (refine br_go ?_ ?_; (focus (((repeat' first | exact rfl | exact ordB_st rfl | exact ordB_of rfl | apply band | apply tst_t | apply nt_t)  <;> (try dsimp only [Ty.den, dflt_kv]) <;> (try simp only [List.length_append, List.length_cons, List.length_nil, List.length_take, List.length_drop, List.length_replicate, fixedL_length, sum4_len]) <;> (first | trivial | assumption | omega | (change (_ : Int) ≤ _; omega) | (change (_ : Int) < _; omega) | (change (_ : Nat) * 1 ≤ _; omega) | (change (_ : Nat) * 48 ≤ _; omega) | (change (_ : Nat) * 24 ≤ _; omega) | (change (_ : Nat) * 8 ≤ _; omega) | (change (_ : Nat) * 64 ≤ _; omega) | decide)); done)); (conv => lhs; whnf); (try simp (maxSteps := 2000000) (disch := omega) only [nI64, nU64, nU32, nU8, nSubL, nAddL, nAdd, nSub, nDiv, nMod, nZ, nLit, row_3, row_5, row_16, row_22, row_28, row_46, row_48, row_108, row_115, Ty.den, dflt_it, dflt_li, dflt_kv, Int.toNat_natCast, List.take_length, List.drop_zero]))
  · rw [if_pos c1]
    try simp (maxSteps := 2000000) (disch := omega) only [nI64, nU64, nU32, nU8, nSubL, nAddL, nAdd, nSub, nDiv, nMod, nZ, nLit, row_3, row_5, row_16, row_22, row_28, row_46, row_48, row_108, row_115, Ty.den, dflt_it, dflt_li, dflt_kv, Int.toNat_natCast, List.take_length, List.drop_zero, if_neg c1]
    refine br_go (tst_t ((by decide))) ?_
    conv => lhs; whnf
    try simp (maxSteps := 2000000) (disch := omega) only [nI64, nU64, nU32, nU8, nSubL, nAddL, nAdd, nSub, nDiv, nMod, nZ, nLit, row_3, row_5, row_16, row_22, row_28, row_46, row_48, row_108, row_115, Ty.den, dflt_it, dflt_li, dflt_kv, Int.toNat_natCast, List.take_length, List.drop_zero]
    repeat (refine br_go ?_ ?_; (focus (((repeat' first | exact rfl | exact ordB_st rfl | exact ordB_of rfl | apply band | apply tst_t | apply nt_t)  <;> (try dsimp only [Ty.den, dflt_kv]) <;> (try simp only [List.length_append, List.length_cons, List.length_nil, List.length_take, List.length_drop, List.length_replicate, fixedL_length, sum4_len]) <;> (first | trivial | assumption | omega | (change (_ : Int) ≤ _; omega) | (change (_ : Int) < _; omega) | (change (_ : Nat) * 1 ≤ _; omega) | (change (_ : Nat) * 48 ≤ _; omega) | (change (_ : Nat) * 24 ≤ _; omega) | (change (_ : Nat) * 8 ≤ _; omega) | (change (_ : Nat) * 64 ≤ _; omega) | decide)); done)); (conv => lhs; whnf); (try simp (maxSteps := 2000000) (disch := omega) only [nI64, nU64, nU32, nU8, nSubL, nAddL, nAdd, nSub, nDiv, nMod, nZ, nLit, row_3, row_5, row_16, row_22, row_28, row_46, row_48, row_108, row_115, Ty.den, dflt_it, dflt_li, dflt_kv, Int.toNat_natCast, List.take_length, List.drop_zero]))
end Go.Proofs.Ytkdajonmfiipkaa.Ev
/- Tables: which entries are looked at. -/
namespace Go.Proofs.Ytkdajonmfiipkaa.Ev
open Go Go.RowKit
set_option linter.unusedVariables false
set_option linter.unusedSimpArgs false
set_option maxRecDepth 100000
set_option maxHeartbeats 8000000
abbrev few8C : Ctx := ⟨rows, (fun | 0 => ([0, 3, 4], [0, 3]) | 1 => ([], [0, 3, 4]) | _ => ([], []))⟩
theorem few8_ok (T : Tab) : fewSp.Ok T few8C F11 := by
  rintro ⟨(l : List KV), _⟩ hf _
  have hf1 : Fits kvl l := hf.1
  have hl : l.length ≤ 140737488355328 := (fits_kvl.1 hf1).1
  obtain ⟨F, hF⟩ : ∃ F : Nat, F = l.length + 1 := ⟨_, rfl⟩
  refine ⟨F, 0, ?_⟩
  show evFn _ _ _ _ _ [vK l] [] _ = some (vT (few7 l) : V)
  conv => lhs; whnf
  try simp (maxSteps := 2000000) (disch := omega) only [nI64, nU64, nU32, nU8, nSubL, nAddL, nAdd, nSub, nDiv, nMod, nZ, nLit, row_3, row_5, row_16, row_22, row_28, row_46, row_48, row_108, row_115, Ty.den, dflt_it, dflt_li, dflt_kv, Int.toNat_natCast, List.take_length, List.drop_zero]
  refine (loop_rule (α := Nat × Nat) (fun a => a.1 ≤ l.length ∧ a.2 ≤ 1000000000000000) (fun a => l.length - a.1)
    (fun a => (vK l :: V.bad :: V.bad :: vI a.2 :: vI a.1 :: V.bad :: V.bad :: V.bad :: V.bad :: V.bad :: V.bad :: V.bad :: V.bad :: V.bad :: V.bad :: V.bad :: V.bad :: V.bad :: V.bad :: V.bad :: V.bad :: V.bad :: V.bad :: V.bad :: V.bad :: V.bad :: V.bad :: V.bad :: V.bad :: V.bad :: V.bad :: V.bad :: V.bad :: V.bad :: V.bad :: V.bad :: V.bad :: [])) (fun a => [])
    (fun a => some (vT (l.length ≤ 60 ∧ a.2 + total (l.drop a.1) ≤ 5000))) ?_ F (0, 0) ⟨by show 0 ≤ _; omega, by show 0 ≤ _; omega⟩ (by show l.length - 0 < F; omega)).trans (bo_tst (by show _ ↔ l.length ≤ 60 ∧ total l ≤ 5000; simp only [List.drop_zero, Nat.zero_add]))
  rintro ⟨i, n⟩ K ⟨h1, h2⟩ hK
  simp only at h1 h2 hK ⊢
  conv => lhs; whnf
  try simp (maxSteps := 2000000) (disch := omega) only [nI64, nU64, nU32, nU8, nSubL, nAddL, nAdd, nSub, nDiv, nMod, nZ, nLit, row_3, row_5, row_16, row_22, row_28, row_46, row_48, row_108, row_115, Ty.den, dflt_it, dflt_li, dflt_kv, Int.toNat_natCast, List.take_length, List.drop_zero]
  by_cases hi : i < l.length
  · refine br_go (tst_t (by omega)) ?_
    conv => lhs; whnf
    try simp (maxSteps := 2000000) (disch := omega) only [nI64, nU64, nU32, nU8, nSubL, nAddL, nAdd, nSub, nDiv, nMod, nZ, nLit, row_3, row_5, row_16, row_22, row_28, row_46, row_48, row_108, row_115, Ty.den, dflt_it, dflt_li, dflt_kv, Int.toNat_natCast, List.take_length, List.drop_zero]
    by_cases hn : n ≤ 5000
    · refine br_go (tst_t (by omega)) ?_
      conv => lhs; whnf
      try simp (maxSteps := 2000000) (disch := omega) only [nI64, nU64, nU32, nU8, nSubL, nAddL, nAdd, nSub, nDiv, nMod, nZ, nLit, row_3, row_5, row_16, row_22, row_28, row_46, row_48, row_108, row_115, Ty.den, dflt_it, dflt_li, dflt_kv, Int.toNat_natCast, List.take_length, List.drop_zero]
      have hk := getD_kv hf1 hi
      repeat (refine br_go ?_ ?_; (focus (((repeat' first | exact rfl | exact ordB_st rfl | exact ordB_of rfl | apply band | apply tst_t | apply nt_t)  <;> (try dsimp only [Ty.den, dflt_kv]) <;> (try simp only [List.length_append, List.length_cons, List.length_nil, List.length_take, List.length_drop, List.length_replicate]) <;> (first | trivial | assumption | omega | (change (_ : Int) ≤ _; omega) | (change (_ : Int) < _; omega) | (change (_ : Nat) * 1 ≤ _; omega) | (change (_ : Nat) * 48 ≤ _; omega) | (change (_ : Nat) * 24 ≤ _; omega) | (change (_ : Nat) * 8 ≤ _; omega) | (change (_ : Nat) * 64 ≤ _; omega) | decide)); done)); (conv => lhs; whnf); (try simp (maxSteps := 2000000) (disch := omega) only [nI64, nU64, nU32, nU8, nSubL, nAddL, nAdd, nSub, nDiv, nMod, nZ, nLit, row_3, row_5, row_16, row_22, row_28, row_46, row_48, row_108, row_115, Ty.den, dflt_it, dflt_li, dflt_kv, Int.toNat_natCast, List.take_length, List.drop_zero]))
      refine (hK (i + 1, n + (l.getD i kvd).1.length + (l.getD i kvd).2.1.length) ⟨by show i + 1 ≤ _; omega, by show n + _ + _ ≤ _; omega⟩ (by show _ - (i + 1) < _; omega)).trans (bo_tst ?_)
      show _ ∧ n + _ + _ + total (l.drop (i + 1)) ≤ 5000 ↔ _
      rw [drop_at (d := kvd) hi, total_cons]
      omega
    · refine br_no (tst_f (by omega)) ?_
      conv => lhs; whnf
      try simp (maxSteps := 2000000) (disch := omega) only [nI64, nU64, nU32, nU8, nSubL, nAddL, nAdd, nSub, nDiv, nMod, nZ, nLit, row_3, row_5, row_16, row_22, row_28, row_46, row_48, row_108, row_115, Ty.den, dflt_it, dflt_li, dflt_kv, Int.toNat_natCast, List.take_length, List.drop_zero]
      repeat' (first | (refine br_split (fun _ => ?_) (fun _ => ?_) <;> (conv => lhs; whnf) <;> (try simp (maxSteps := 2000000) (disch := omega) only [nI64, nU64, nU32, nU8, nSubL, nAddL, nAdd, nSub, nDiv, nMod, nZ, nLit, row_3, row_5, row_16, row_22, row_28, row_46, row_48, row_108, row_115, Ty.den, dflt_it, dflt_li, dflt_kv, Int.toNat_natCast, List.take_length, List.drop_zero])) | (refine br_go ?_ ?_; (focus (((repeat' first | exact rfl | exact ordB_st rfl | exact ordB_of rfl | apply band | apply tst_t | apply nt_t)  <;> (try dsimp only [Ty.den, dflt_kv]) <;> (try simp only [List.length_append, List.length_cons, List.length_nil, List.length_take, List.length_drop, List.length_replicate]) <;> (first | trivial | assumption | omega | (change (_ : Int) ≤ _; omega) | (change (_ : Int) < _; omega) | (change (_ : Nat) * 1 ≤ _; omega) | (change (_ : Nat) * 48 ≤ _; omega) | (change (_ : Nat) * 24 ≤ _; omega) | (change (_ : Nat) * 8 ≤ _; omega) | (change (_ : Nat) * 64 ≤ _; omega) | decide)); done)); (conv => lhs; whnf); (try simp (maxSteps := 2000000) (disch := omega) only [nI64, nU64, nU32, nU8, nSubL, nAddL, nAdd, nSub, nDiv, nMod, nZ, nLit, row_3, row_5, row_16, row_22, row_28, row_46, row_48, row_108, row_115, Ty.den, dflt_it, dflt_li, dflt_kv, Int.toNat_natCast, List.take_length, List.drop_zero])))
      all_goals
        (first | exact bo_t (by skip; omega) | exact bo_f (by skip; omega) | exact bo_tst (by skip; omega))
  · refine br_no (tst_f (by omega)) ?_
    conv => lhs; whnf
    try simp (maxSteps := 2000000) (disch := omega) only [nI64, nU64, nU32, nU8, nSubL, nAddL, nAdd, nSub, nDiv, nMod, nZ, nLit, row_3, row_5, row_16, row_22, row_28, row_46, row_48, row_108, row_115, Ty.den, dflt_it, dflt_li, dflt_kv, Int.toNat_natCast, List.take_length, List.drop_zero]
    have : total (l.drop i) = 0 := by rw [List.drop_eq_nil_of_le (by omega)]; rfl
    repeat' (first | (refine br_split (fun _ => ?_) (fun _ => ?_) <;> (conv => lhs; whnf) <;> (try simp (maxSteps := 2000000) (disch := omega) only [nI64, nU64, nU32, nU8, nSubL, nAddL, nAdd, nSub, nDiv, nMod, nZ, nLit, row_3, row_5, row_16, row_22, row_28, row_46, row_48, row_108, row_115, Ty.den, dflt_it, dflt_li, dflt_kv, Int.toNat_natCast, List.take_length, List.drop_zero])) | (refine br_go ?_ ?_; (focus (((repeat' first | exact rfl | exact ordB_st rfl | exact ordB_of rfl | apply band | apply tst_t | apply nt_t)  <;> (try dsimp only [Ty.den, dflt_kv]) <;> (try simp only [List.length_append, List.length_cons, List.length_nil, List.length_take, List.length_drop, List.length_replicate]) <;> (first | trivial | assumption | omega | (change (_ : Int) ≤ _; omega) | (change (_ : Int) < _; omega) | (change (_ : Nat) * 1 ≤ _; omega) | (change (_ : Nat) * 48 ≤ _; omega) | (change (_ : Nat) * 24 ≤ _; omega) | (change (_ : Nat) * 8 ≤ _; omega) | (change (_ : Nat) * 64 ≤ _; omega) | decide)); done)); (conv => lhs; whnf); (try simp (maxSteps := 2000000) (disch := omega) only [nI64, nU64, nU32, nU8, nSubL, nAddL, nAdd, nSub, nDiv, nMod, nZ, nLit, row_3, row_5, row_16, row_22, row_28, row_46, row_48, row_108, row_115, Ty.den, dflt_it, dflt_li, dflt_kv, Int.toNat_natCast, List.take_length, List.drop_zero])))
    all_goals
      (first | exact bo_t (by skip; omega) | exact bo_f (by skip; omega) | exact bo_tst (by skip; omega))
end Go.Proofs.Ytkdajonmfiipkaa.Ev
/- bytes.Clone: of nil nothing, of all else a copy. -/
namespace Go.Proofs.Ytkdajonmfiipkaa.Ev
open Go Go.RowKit
set_option linter.unusedVariables false
set_option maxRecDepth 100000
abbrev cloneC : Ctx := ⟨rows, (fun  | _ => ([], []))⟩
theorem clone_nil : evFn cloneC tab0 noCall 1 F51 [.nils] [] (fun v S => exportV S v) = some (.own 0 (.it .u8) ([] : List Int)) := by
  conv => lhs; whnf
  refine br_go (tst_t rfl) ?_
  rfl
theorem clone_nn (l : List Int) (hl : List.length l ≤ 140737488355328) : evFn cloneC tab0 noCall 1 F51 [.nn (.it .u8) l] [] (fun v S => exportV S v) = some (.own 0 (.it .u8) l) := by
  conv => lhs; whnf
  refine br_go (band (band rfl (tst_t rfl)) (tst_t ?_)) ?_
  · show (0 + List.length l) * 1 ≤ 140737488355328
    omega
  conv => lhs; whnf
  refine br_go (tst_t rfl) ?_
  rfl
theorem clone_far (l : List Int) : FarRes Try.prog 51 [.d (.li (.it .u8)) l] (.own 0 (.it .u8) l) := by
  intro m w us R hl hr hR
  cases us with
  | nil => simp [RepVs] at hr
  | cons u us =>
    cases us with
    | cons _ _ => simp [RepVs] at hr
    | nil =>
      have hd : RepV (Env.of m) (.d (.li (.it .u8)) l) u := by simpa [RepVs] using hr
      obtain ⟨a, c, hu, h1, h2, h3, h4⟩ := rep_li_iff.1 hd
      simp only [List.cons.injEq, and_true] at hu
      subst hu
      cases a with
      | none =>
        have hl0 : l = [] := List.eq_nil_of_length_eq_zero h4.1
        have hc : c = 0 := h4.2
        subst hl0; subst hc
        exact far_fn (rows_ok _) (tabFar_ok tab0_far) noCall_ok mixed 1 at51 clone_nil m w _ R hl (by simp [RepVs, RepV]) hR
      | some ad =>
        refine far_fn (rows_ok _) (tabFar_ok tab0_far) noCall_ok mixed 1 at51 (clone_nn l h2) m w _ R hl ?_ hR
        simp only [RepVs, and_true, RepV] at hd ⊢
        exact ⟨hd, _, _, _, rfl⟩
end Go.Proofs.Ytkdajonmfiipkaa.Ev
/- What the machine answers itself: bytes held against one another. -/
namespace Go.Proofs.Ytkdajonmfiipkaa.Ev
open Go Go.RowKit
set_option linter.unusedVariables false
set_option linter.unusedSimpArgs false
set_option maxRecDepth 100000
set_option maxHeartbeats 8000000
theorem bytes_cells {m : Mem} {w : World} (hl : m.lies w) {l : List Int} {u : Value} (h : RepD m (.li (.it .u8)) l u) :
    (Extern.Bytes.bytesOf u).run Try.prog w = .ok ⟨(Lib.bytesOf l).toArray⟩ w := by
  obtain ⟨us, ⟨a, c, rfl, h1, h2, h3, h4⟩, rfl⟩ := h
  cases a with
  | none =>
    have hz : l = [] := List.eq_nil_of_length_eq_zero h4.1
    subst hz
    rfl
  | some ad =>
    have hc := Lib.run_loadBytesX (P := Try.prog) w l ad .empty (fun j x hj => by
      obtain ⟨hjl, hx⟩ := List.getElem?_eq_some_iff.1 hj
      obtain ⟨vs, k1, k2⟩ := h4.2 j hjl
      obtain ⟨rfl, k3⟩ := k2
      have k4 := hl _ _ _ (k1 0 _ rfl)
      have hs : ad.spot = none := h4.1 (by omega)
      rw [hx] at k4
      rw [← k4]
      congr 1
      unfold Addr.add
      simp only [hs, Ty.size, Nat.mul_one, Nat.add_zero]
      obtain ⟨b0, o0, s0⟩ := ad
      simp only at hs
      subst hs
      split
      · rename_i hz; subst hz; rfl
      · rfl)
    show (Extern.Bytes.loadBytes ad l.length .empty).run Try.prog w = _
    rw [hc]
    congr 1
    apply ByteArray.ext
    show (#[] : Array UInt8) ++ _ = _
    simp
theorem cmp_bytes {a b : List Int} (ha : Bytes a) (hb : Bytes b) : Lib.compareBytes (Lib.bytesOf a) (Lib.bytesOf b) = cmpB a b := by
  have lt : ∀ {x y : Int}, (0 ≤ x ∧ x < 256) → (0 ≤ y ∧ y < 256) → (UInt8.ofNat x.toNat < UInt8.ofNat y.toNat ↔ x < y) := by
    intro x y hx hy
    rw [UInt8.lt_iff_toNat_lt, UInt8.toNat_ofNat', UInt8.toNat_ofNat']
    simp only [show (2 : Nat) ^ 8 = 256 by decide]
    omega
  induction a generalizing b with
  | nil => cases b <;> simp [cmpB, Lib.compareBytes, Lib.bytesOf]
  | cons x a ih =>
    cases b with
    | nil => simp [cmpB, Lib.compareBytes, Lib.bytesOf]
    | cons y b =>
      have hx := ha x List.mem_cons_self
      have hy := hb y List.mem_cons_self
      have := ih (b := b) (fun z hz => ha z (List.mem_cons_of_mem _ hz)) (fun z hz => hb z (List.mem_cons_of_mem _ hz))
      simp only [Lib.bytesOf, List.map_cons, Lib.compareBytes, cmpB] at this ⊢
      rw [this]
      by_cases e : x = y
      · rw [if_pos e, if_neg (by rw [lt hx hy]; omega), if_neg (by rw [lt hy hx]; omega)]
      · rw [if_neg e]
        by_cases e2 : x < y
        · rw [if_pos e2, if_pos (by rw [lt hx hy]; exact e2)]
        · rw [if_neg e2, if_neg (by rw [lt hx hy]; exact e2), if_pos (by rw [lt hy hx]; omega)]
theorem compare_ext (x : dens cmpBSp.ts) : ExtRes Try.prog 86 (ofDens cmpBSp.ts x) (cmpBSp.res x) := by
  obtain ⟨(a : List Int), (b : List Int), _⟩ := x
  refine ⟨fun _ => rfl, ?_⟩
  intro m w us hl hr
  match us, hr with
  | [u, v], hr =>
    have h1 : RepV (Env.of m) (.d byl a) u := by have := hr; simp only [ofDens, cmpBSp, RepVs] at this; exact this.1
    have h2 : RepV (Env.of m) (.d byl b) v := by have := hr; simp only [ofDens, cmpBSp, RepVs] at this; exact this.2.1
    simp only [RepV] at h1 h2
    have ha : Bytes a := by
      obtain ⟨us, h, _⟩ := h1
      intro x hx; have := (RepL.fits _ _ _ h).2 x hx
      have := fits_u8.1 this; omega
    have hb : Bytes b := by
      obtain ⟨us, h, _⟩ := h2
      intro x hx; have := (RepL.fits _ _ _ h).2 x hx
      have := fits_u8.1 this; omega
    refine ⟨.int .i64 (cmpB a b), ?_, ?_⟩
    · rw [run_callFunc_extern Try.func86 (by kernel_rfl) (by kernel_rfl) (by kernel_rfl) (e := Extern.BytealgCompare.compare) (by kernel_rfl)]
      show ((Sem.run Try.prog (do pure (goInt (Extern.BytealgCompare.cmp (← Extern.Bytes.bytesOf u) (← Extern.Bytes.bytesOf v)))) w).andThen _) = _
      simp only [Sem.run_bind, bytes_cells hl h1, bytes_cells hl h2, Result.andThen]
      rw [Lib.cmp_eq]
      show Result.ok (Next.value (.int .i64 (Lib.compareBytes (Lib.bytesOf a) (Lib.bytesOf b)))) w = _
      rw [cmp_bytes ha hb]
    · intro E hE
      have hc := cmpB_cases a b
      exact rep_int_iff.2 ⟨rfl, by show IntKind.i64.min ≤ cmpB a b ∧ cmpB a b ≤ IntKind.i64.max; rw [show IntKind.i64.min = -9223372036854775808 by decide, show IntKind.i64.max = 9223372036854775807 by decide]; omega⟩
end Go.Proofs.Ytkdajonmfiipkaa.Ev
/- The law's known answer holds: run on given data. -/
namespace Go.Proofs.Ytkdajonmfiipkaa.Ev
open Go Go.RowKit
set_option linter.unusedVariables false
set_option maxRecDepth 100000
set_option maxHeartbeats 8000000
noncomputable def TK0 : Tab := tabAdd tab0 51 cloneSp.ts cloneSp.F
theorem far_of_okW {T : Tab} {g : FuncId} {C : Ctx} {fn : Func} (s : Sp) (hT : TabFar Try.prog T) (hC : RowsOK Try.prog C) (hf : Try.prog.funcs[g]? = some fn) (h : s.OkW T C fn) (x : dens s.ts) (hp : FitsD s.ts x → s.pre x = true) : FarRes Try.prog g (ofDens s.ts x) (s.res x) := by
  intro m w us R hl hr hR
  have hx := fitsD_rep hr
  obtain ⟨F, d, h5⟩ := h x hx (hp hx)
  exact far_fnW hC (tabFar_ok hT) (inl_ok (fun _ => rows_ok _) (tabFar_ok hT) mixed fnsOK d) mixed F hf h5 m w us R hl hr hR
/-- the filter of the one key that is asked for: a contract that the kernel runs through quickly -/
theorem fil_one : filterS [[97]] 10 71 = ([1, 0, 1, 1, 0, 1, 1, 1, 6], 0) := by decide +kernel
noncomputable def filKSp : Sp := ⟨[byll, i64], fun x => decide ((x.1 : List (List Int)) = [[97]] ∧ (x.2.1 : Int) = 10), fun _ => .tup [vB [1, 0, 1, 1, 0, 1, 1, 1, 6], vI 0]⟩
noncomputable def TS : Tab := tabAdd tab0 72 sumSp.ts sumSp.F
theorem ts_far : TabFar Try.prog TS := add_ok sumSp tab0_far (rows_ok _) at72 (by kernel_rfl) (by kernel_rfl) (sum_ok _)
theorem filK_far (x : dens filKSp.ts) (hp : filKSp.pre x = true) : FarRes Try.prog 37 (ofDens filKSp.ts x) (filKSp.res x) := by
  obtain ⟨(l : List (List Int)), (n : Int), u⟩ := x
  obtain ⟨h1, h2⟩ : l = [[97]] ∧ n = 10 := of_decide_eq_true hp
  subst h1 h2
  have := far_of_okW filterSp ts_far (rows_ok _) at37 (filter_ok _ rfl rfl rfl rfl) ([[97]], 10, u) (fun _ => tst_t (by show 1 ≤ 1000; decide))
  have e : filterSp.res ([[97]], 10, u) = .tup [vB [1, 0, 1, 1, 0, 1, 1, 1, 6], vI 0] := by
    show V.tup [vB (filterS [[97]] 10 71).1, vI (filterS [[97]] 10 71).2] = _
    rw [fil_one]
  rw [e] at this
  exact this
noncomputable def TK1 : Tab := tabAdd TK0 72 sumSp.ts sumSp.F
noncomputable def TK2 : Tab := tabAdd TK1 86 cmpBSp.ts cmpBSp.F
noncomputable def TK : Tab := tabAdd TK2 37 filKSp.ts filKSp.F
theorem farRes_one (a b : Tst) {P : Program} {g : FuncId} {xs : List V} {v : V} (h : FarRes (tI := a) P g xs v) : FarRes (tI := b) P g xs v := by rw [Tst.one b a]; exact h
theorem tabFar_one (a b : Tst) {P : Program} {T : Tab} (h : TabFar (tI := a) P T) : TabFar (tI := b) P T := by rw [Tst.one b a]; exact h
theorem tk0_far : TabFar Try.prog TK0 := add_far cloneSp tab0_far at51 (by kernel_rfl) (by kernel_rfl) (fun x _ => clone_far x.1)
theorem tk1_far : TabFar Try.prog TK1 := add_ok sumSp tk0_far (rows_ok _) at72 (by kernel_rfl) (by kernel_rfl) (sum_ok _)
theorem tk2_far : TabFar Try.prog TK2 := add_ext cmpBSp tk1_far (fun x _ => compare_ext x)
theorem tk_far : TabFar Try.prog TK := add_far filKSp tk2_far at37 (by kernel_rfl) (by kernel_rfl) filK_far
theorem tabNo_ok {P : Program} {T : Tab} {g0 : FuncId} (h : TabOK P T) : TabOK P (tabNo T g0) := by
  intro g args id v us ht
  by_cases hg : Nat.beq g g0 = true
  · have e : tabNo T g0 g = none := by unfold tabNo; rw [hg]
    unfold tabV at ht
    rw [e] at ht
    cases ht
  · have e : tabNo T g0 g = T g := by unfold tabNo; split <;> simp_all
    have e2 : tabV (tabNo T g0) g args id = tabV T g args id := by unfold tabV; rw [e]
    rw [e2] at ht
    exact h g args id v us ht
/-- what the kernel runs by itself, but functions that tell pointers -/
noncomputable abbrev TA : Tab := tabNo (autoTab (tI := fastT) TK 100 9) 19
theorem known_ev : evFn (tI := fastT) (ctxOf 10) TA (inlH (tI := fastT) ctxOf TA 100 fnOf 9) 100 F10 [] [] (fun v S => exportV (tI := fastT) S v) = some (.d .bo true) := by kernel_rfl
theorem auto_ok : TabOK Try.prog TA := tabNo_ok (tabFar_ok (tI := fastT) (autoTab_far (tI := fastT) (tabFar_one slowT fastT tk_far) 100 9))
theorem known_far : FarRes Try.prog 10 [] (.d .bo true) :=
  farRes_one fastT slowT (far_fn (tI := fastT) (rows_ok _) auto_ok (inl_ok (tI := fastT) (fun _ => rows_ok _) auto_ok mixed fnsOK 9) mixed 100 at10 known_ev)
def known8Sp : Sp := ⟨[], fun _ => true, fun _ => .d .bo true⟩
end Go.Proofs.Ytkdajonmfiipkaa.Ev
/- Numbers taken, seven bits a byte: by the program and by the document. -/
namespace Go.Proofs.Ytkdajonmfiipkaa.Ev
open Go Go.RowKit
set_option linter.unusedVariables false
set_option linter.unusedSimpArgs false
set_option maxRecDepth 100000
set_option maxHeartbeats 8000000
theorem take_step {c acc : Int} {i : Nat} (h9 : i ≤ 9) (hc : 0 ≤ c ∧ c < 256) (ha : 0 ≤ acc ∧ acc < ((128 ^ i : Nat) : Int)) (p4 : c % 128 * ((128 ^ i : Nat) : Int) < 18446744073709551616) :
    bits .or .u64 acc (IntKind.u64.wrap (IntKind.u64.wrap (bits .andNot .u8 c 128) * 2 ^ min (7 * (i : Int)).toNat IntKind.u64.bits)) = acc + c % 128 * ((128 ^ i : Nat) : Int) := by
  have e1 : min (7 * (i : Int)).toNat IntKind.u64.bits = 7 * i := by simp only [IntKind.bits]; omega
  have e2 : (2 : Int) ^ (7 * i) = ((2 ^ (7 * i) : Nat) : Int) := by simp
  have p4' : c % 128 * ((2 ^ (7 * i) : Nat) : Int) < 18446744073709551616 := by rw [pow7]; exact p4
  have p5 : 0 ≤ c % 128 * ((2 ^ (7 * i) : Nat) : Int) := Int.mul_nonneg (by omega) (Int.natCast_nonneg _)
  rw [andNot128 hc, e1, wrapU64_id (n := c % 128) (by omega) (by omega), e2, wrapU64_id p5 p4',
    or_at (by rw [pow7]; exact ha) ⟨by omega, p4'⟩ (by have := pow128_le h9; omega), pow7]
abbrev takeC : Ctx := ⟨rows, (fun | 0 => ([5, 8, 9, 10], []) | 1 => ([], [5, 8, 9, 10]) | _ => ([], []))⟩
theorem take_ok (T : Tab) : takeSp.Ok T takeC F98 := by
  rintro ⟨(l : List Int), _⟩ hf _
  have hl : l.length ≤ 140737488355328 := (fits_by.1 hf.1).1
  have hb : Bytes l := bytes_of hf.1
  obtain ⟨F, hF⟩ : ∃ F : Nat, F = l.length + 1 := ⟨_, rfl⟩
  refine ⟨F, 0, ?_⟩
  show evFn _ _ _ _ _ [vB l] [] _ = some (.tup [vU (takeS l 0 0).1, vI (takeS l 0 0).2.1, vI (takeS l 0 0).2.2] : V)
  conv => lhs; whnf
  try simp (maxSteps := 2000000) (disch := omega) only [nI64, nU64, nU32, nU8, nSubL, nAddL, nAdd, nSub, nDiv, nMod, nZ, nLit, row_3, row_5, row_16, row_22, row_28, row_46, row_48, row_108, row_115, Ty.den, dflt_it, dflt_li, dflt_kv, Int.toNat_natCast, List.take_length, List.drop_zero]
  refine loop_rule (α := Nat × Int) (fun a => a.1 ≤ l.length ∧ (a.1 ≤ 9 ∨ a.1 = l.length) ∧ 0 ≤ a.2 ∧ a.2 < ((128 ^ a.1 : Nat) : Int)) (fun a => l.length - a.1)
    (fun a => (V.bad :: V.bad :: V.bad :: V.bad :: V.bad :: vU a.2 :: V.bad :: V.bad :: vB l :: vI l.length :: vI a.1 :: V.bad :: V.bad :: V.bad :: V.bad :: V.bad :: V.bad :: V.bad :: V.bad :: V.bad :: V.bad :: V.bad :: V.bad :: V.bad :: V.bad :: V.bad :: V.bad :: V.bad :: V.bad :: V.bad :: V.bad :: V.bad :: V.bad :: V.bad :: V.bad :: V.bad :: V.bad :: V.bad :: V.bad :: V.bad :: V.bad :: V.bad :: V.bad :: [])) (fun a => [.gone])
    (fun a => some (V.tup [vU (takeS (l.drop a.1) a.1 a.2).1, vI (takeS (l.drop a.1) a.1 a.2).2.1, vI (takeS (l.drop a.1) a.1 a.2).2.2])) ?_ F (0, 0) ⟨by show 0 ≤ _; omega, .inl (by show 0 ≤ 9; omega), by show (0 : Int) ≤ 0; omega, by show (0 : Int) < 1; omega⟩ (by show l.length - 0 < F; omega)
  rintro ⟨i, acc⟩ K ⟨h1, h2, h3, h4⟩ hK
  simp only at h1 h2 h3 h4 hK ⊢
  conv => lhs; whnf
  try simp (maxSteps := 2000000) (disch := omega) only [nI64, nU64, nU32, nU8, nSubL, nAddL, nAdd, nSub, nDiv, nMod, nZ, nLit, row_3, row_5, row_16, row_22, row_28, row_46, row_48, row_108, row_115, Ty.den, dflt_it, dflt_li, dflt_kv, Int.toNat_natCast, List.take_length, List.drop_zero]
  by_cases hi : i < l.length
  · refine br_go (tst_t (by omega)) ?_
    conv => lhs; whnf
    try simp (maxSteps := 2000000) (disch := omega) only [nI64, nU64, nU32, nU8, nSubL, nAddL, nAdd, nSub, nDiv, nMod, nZ, nLit, row_3, row_5, row_16, row_22, row_28, row_46, row_48, row_108, row_115, Ty.den, dflt_it, dflt_li, dflt_kv, Int.toNat_natCast, List.take_length, List.drop_zero]
    repeat (refine br_go ?_ ?_; (focus (((repeat' first | exact rfl | exact ordB_st rfl | exact ordB_of rfl | apply band | apply tst_t | apply nt_t)  <;> (try dsimp only [Ty.den, dflt_kv]) <;> (try simp only [List.length_append, List.length_cons, List.length_nil, List.length_take, List.length_drop, List.length_replicate]) <;> (first | trivial | assumption | omega | (change (_ : Int) ≤ _; omega) | (change (_ : Int) < _; omega) | (change (_ : Nat) * 1 ≤ _; omega) | (change (_ : Nat) * 48 ≤ _; omega) | (change (_ : Nat) * 24 ≤ _; omega) | (change (_ : Nat) * 8 ≤ _; omega) | (change (_ : Nat) * 64 ≤ _; omega) | decide)); done)); (conv => lhs; whnf); (try simp (maxSteps := 2000000) (disch := omega) only [nI64, nU64, nU32, nU8, nSubL, nAddL, nAdd, nSub, nDiv, nMod, nZ, nLit, row_3, row_5, row_16, row_22, row_28, row_46, row_48, row_108, row_115, Ty.den, dflt_it, dflt_li, dflt_kv, Int.toNat_natCast, List.take_length, List.drop_zero]))
    rw [drop_at (d := 0) hi]
    have hc : 0 ≤ l.getD i 0 ∧ l.getD i 0 < 256 := by rw [getD_at hi]; exact hb _ (List.getElem_mem hi)
    by_cases hbad : (i = 9 ∧ 1 < l.getD i 0) ∨ (0 < i ∧ l.getD i 0 = 0)
    · rw [takeS, if_pos hbad]
      repeat' (first | (refine br_split (fun _ => ?_) (fun _ => ?_) <;> (conv => lhs; whnf) <;> (try simp (maxSteps := 2000000) (disch := omega) only [nI64, nU64, nU32, nU8, nSubL, nAddL, nAdd, nSub, nDiv, nMod, nZ, nLit, row_3, row_5, row_16, row_22, row_28, row_46, row_48, row_108, row_115, Ty.den, dflt_it, dflt_li, dflt_kv, Int.toNat_natCast, List.take_length, List.drop_zero])) | (refine br_go ?_ ?_; (focus (((repeat' first | exact rfl | exact ordB_st rfl | exact ordB_of rfl | apply band | apply tst_t | apply nt_t)  <;> (try dsimp only [Ty.den, dflt_kv]) <;> (try simp only [List.length_append, List.length_cons, List.length_nil, List.length_take, List.length_drop, List.length_replicate]) <;> (first | trivial | assumption | omega | (change (_ : Int) ≤ _; omega) | (change (_ : Int) < _; omega) | (change (_ : Nat) * 1 ≤ _; omega) | (change (_ : Nat) * 48 ≤ _; omega) | (change (_ : Nat) * 24 ≤ _; omega) | (change (_ : Nat) * 8 ≤ _; omega) | (change (_ : Nat) * 64 ≤ _; omega) | decide)); done)); (conv => lhs; whnf); (try simp (maxSteps := 2000000) (disch := omega) only [nI64, nU64, nU32, nU8, nSubL, nAddL, nAdd, nSub, nDiv, nMod, nZ, nLit, row_3, row_5, row_16, row_22, row_28, row_46, row_48, row_108, row_115, Ty.den, dflt_it, dflt_li, dflt_kv, Int.toNat_natCast, List.take_length, List.drop_zero])))
      all_goals first | (exfalso; omega) | rfl
    · have h9 : i ≤ 9 := by omega
      obtain ⟨p1, p2, p3, p4⟩ := part h9 hc hbad ⟨h3, h4⟩
      rw [takeS, if_neg hbad]
      repeat' (first | (refine br_split (fun _ => ?_) (fun _ => ?_) <;> (conv => lhs; whnf) <;> (try simp (maxSteps := 2000000) (disch := omega) only [nI64, nU64, nU32, nU8, nSubL, nAddL, nAdd, nSub, nDiv, nMod, nZ, nLit, row_3, row_5, row_16, row_22, row_28, row_46, row_48, row_108, row_115, Ty.den, dflt_it, dflt_li, dflt_kv, Int.toNat_natCast, List.take_length, List.drop_zero])) | (refine br_go ?_ ?_; (focus (((repeat' first | exact rfl | exact ordB_st rfl | exact ordB_of rfl | apply band | apply tst_t | apply nt_t)  <;> (try dsimp only [Ty.den, dflt_kv]) <;> (try simp only [List.length_append, List.length_cons, List.length_nil, List.length_take, List.length_drop, List.length_replicate]) <;> (first | trivial | assumption | omega | (change (_ : Int) ≤ _; omega) | (change (_ : Int) < _; omega) | (change (_ : Nat) * 1 ≤ _; omega) | (change (_ : Nat) * 48 ≤ _; omega) | (change (_ : Nat) * 24 ≤ _; omega) | (change (_ : Nat) * 8 ≤ _; omega) | (change (_ : Nat) * 64 ≤ _; omega) | decide)); done)); (conv => lhs; whnf); (try simp (maxSteps := 2000000) (disch := omega) only [nI64, nU64, nU32, nU8, nSubL, nAddL, nAdd, nSub, nDiv, nMod, nZ, nLit, row_3, row_5, row_16, row_22, row_28, row_46, row_48, row_108, row_115, Ty.den, dflt_it, dflt_li, dflt_kv, Int.toNat_natCast, List.take_length, List.drop_zero])))
      all_goals first | (exfalso; omega) | skip
      all_goals rw [take_step h9 hc ⟨h3, h4⟩ p4]
      all_goals first
        | (rw [if_pos (by assumption)]; done)
        | (rw [if_neg (by assumption)]
           exact hK (i + 1, acc + l.getD i 0 % 128 * ((128 ^ i : Nat) : Int)) ⟨by show i + 1 ≤ _; omega, by show i + 1 ≤ 9 ∨ _; omega, p1, p2⟩ (by show _ - (i + 1) < _; omega))
  · refine br_no (tst_f (by omega)) ?_
    conv => lhs; whnf
    try simp (maxSteps := 2000000) (disch := omega) only [nI64, nU64, nU32, nU8, nSubL, nAddL, nAdd, nSub, nDiv, nMod, nZ, nLit, row_3, row_5, row_16, row_22, row_28, row_46, row_48, row_108, row_115, Ty.den, dflt_it, dflt_li, dflt_kv, Int.toNat_natCast, List.take_length, List.drop_zero]
    repeat (refine br_go ?_ ?_; (focus (((repeat' first | exact rfl | exact ordB_st rfl | exact ordB_of rfl | apply band | apply tst_t | apply nt_t)  <;> (try dsimp only [Ty.den, dflt_kv]) <;> (try simp only [List.length_append, List.length_cons, List.length_nil, List.length_take, List.length_drop, List.length_replicate]) <;> (first | trivial | assumption | omega | (change (_ : Int) ≤ _; omega) | (change (_ : Int) < _; omega) | (change (_ : Nat) * 1 ≤ _; omega) | (change (_ : Nat) * 48 ≤ _; omega) | (change (_ : Nat) * 24 ≤ _; omega) | (change (_ : Nat) * 8 ≤ _; omega) | (change (_ : Nat) * 64 ≤ _; omega) | decide)); done)); (conv => lhs; whnf); (try simp (maxSteps := 2000000) (disch := omega) only [nI64, nU64, nU32, nU8, nSubL, nAddL, nAdd, nSub, nDiv, nMod, nZ, nLit, row_3, row_5, row_16, row_22, row_28, row_46, row_48, row_108, row_115, Ty.den, dflt_it, dflt_li, dflt_kv, Int.toNat_natCast, List.take_length, List.drop_zero]))
    rw [List.drop_eq_nil_of_le (by omega : l.length ≤ i)]
    rfl
theorem rtake_step {c acc : Int} {i : Nat} (h9 : i ≤ 9) (hc : 0 ≤ c ∧ c < 256) (ha : 0 ≤ acc ∧ acc < ((128 ^ i : Nat) : Int)) (p3 : acc + c % 128 * ((128 ^ i : Nat) : Int) < 18446744073709551616) (p4 : c % 128 * ((128 ^ i : Nat) : Int) < 18446744073709551616) :
    IntKind.u64.wrap (acc + IntKind.u64.wrap (c % 128 * 2 ^ min (7 * (i : Int)).toNat IntKind.u64.bits)) = acc + c % 128 * ((128 ^ i : Nat) : Int) := by
  have e1 : min (7 * (i : Int)).toNat IntKind.u64.bits = 7 * i := by simp only [IntKind.bits]; omega
  have e2 : (2 : Int) ^ (7 * i) = ((2 ^ (7 * i) : Nat) : Int) := by simp
  have p5 : 0 ≤ c % 128 * ((128 ^ i : Nat) : Int) := Int.mul_nonneg (by omega) (Int.natCast_nonneg _)
  rw [e1, e2, pow7, wrapU64_id p5 p4, wrapU64_id (by omega) p3]
abbrev rtakeC : Ctx := ⟨rows, (fun | 0 => ([0, 1, 7, 8], [4, 5, 6]) | 1 => ([], [0, 1, 7, 8]) | _ => ([], []))⟩
theorem rtake_ok (T : Tab) : rtakeSp.Ok T rtakeC F59 := by
  rintro ⟨(l : List Int), (a : Int), _⟩ hf hp
  have hl : l.length ≤ 140737488355328 := (fits_by.1 hf.1).1
  have hb : Bytes l := bytes_of hf.1
  have hp : (0 : Int) ≤ a ∧ a ≤ (l.length : Int) := by simpa only [rtakeSp, rtakePre, Bool.and_eq_true, tst_iff] using hp
  obtain ⟨m, rfl⟩ : ∃ m : Nat, a = m := ⟨a.toNat, by omega⟩
  have hm : m ≤ l.length := by omega
  obtain ⟨F, hF⟩ : ∃ F : Nat, F = l.length + 1 := ⟨_, rfl⟩
  refine ⟨F, 0, ?_⟩
  show evFn _ _ _ _ _ [vB l, vI m] [] _ = some (.tup [vU (takeS (l.drop m) 0 0).1, vI (takeS (l.drop m) 0 0).2.1, vI (takeS (l.drop m) 0 0).2.2] : V)
  conv => lhs; whnf
  try simp (maxSteps := 2000000) (disch := omega) only [nI64, nU64, nU32, nU8, nSubL, nAddL, nAdd, nSub, nDiv, nMod, nZ, nLit, row_3, row_5, row_16, row_22, row_28, row_46, row_48, row_108, row_115, Ty.den, dflt_it, dflt_li, dflt_kv, Int.toNat_natCast, List.take_length, List.drop_zero]
  refine loop_rule (α := Nat × Int) (fun x => m + x.1 ≤ l.length ∧ (x.1 ≤ 9 ∨ m + x.1 = l.length) ∧ 0 ≤ x.2 ∧ x.2 < ((128 ^ x.1 : Nat) : Int)) (fun x => l.length - x.1)
    (fun x => (vB l :: vI m :: V.bad :: V.bad :: V.bad :: V.bad :: V.bad :: vU x.2 :: vI x.1 :: V.bad :: V.bad :: V.bad :: V.bad :: V.bad :: V.bad :: V.bad :: V.bad :: V.bad :: V.bad :: V.bad :: V.bad :: V.bad :: V.bad :: V.bad :: V.bad :: V.bad :: V.bad :: V.bad :: V.bad :: V.bad :: V.bad :: V.bad :: V.bad :: V.bad :: V.bad :: V.bad :: V.bad :: V.bad :: V.bad :: V.bad :: V.bad :: V.bad :: V.bad :: V.bad :: V.bad :: V.bad :: V.bad :: V.bad :: V.bad :: V.bad :: V.bad :: [])) (fun x => [])
    (fun x => some (V.tup [vU (takeS (l.drop (m + x.1)) x.1 x.2).1, vI (takeS (l.drop (m + x.1)) x.1 x.2).2.1, vI (takeS (l.drop (m + x.1)) x.1 x.2).2.2])) ?_ F (0, 0) ⟨by show m + 0 ≤ _; omega, .inl (by show 0 ≤ 9; omega), by show (0 : Int) ≤ 0; omega, by show (0 : Int) < 1; omega⟩ (by show l.length - 0 < F; omega)
  rintro ⟨i, acc⟩ K ⟨h1, h2, h3, h4⟩ hK
  simp only at h1 h2 h3 h4 hK ⊢
  conv => lhs; whnf
  try simp (maxSteps := 2000000) (disch := omega) only [nI64, nU64, nU32, nU8, nSubL, nAddL, nAdd, nSub, nDiv, nMod, nZ, nLit, row_3, row_5, row_16, row_22, row_28, row_46, row_48, row_108, row_115, Ty.den, dflt_it, dflt_li, dflt_kv, Int.toNat_natCast, List.take_length, List.drop_zero]
  by_cases hi : m + i < l.length
  · refine br_no (tst_f (by omega)) ?_
    conv => lhs; whnf
    try simp (maxSteps := 2000000) (disch := omega) only [nI64, nU64, nU32, nU8, nSubL, nAddL, nAdd, nSub, nDiv, nMod, nZ, nLit, row_3, row_5, row_16, row_22, row_28, row_46, row_48, row_108, row_115, Ty.den, dflt_it, dflt_li, dflt_kv, Int.toNat_natCast, List.take_length, List.drop_zero]
    repeat (refine br_go ?_ ?_; (focus (((repeat' first | exact rfl | exact ordB_st rfl | exact ordB_of rfl | apply band | apply tst_t | apply nt_t)  <;> (try dsimp only [Ty.den, dflt_kv]) <;> (try simp only [List.length_append, List.length_cons, List.length_nil, List.length_take, List.length_drop, List.length_replicate]) <;> (first | trivial | assumption | omega | (change (_ : Int) ≤ _; omega) | (change (_ : Int) < _; omega) | (change (_ : Nat) * 1 ≤ _; omega) | (change (_ : Nat) * 48 ≤ _; omega) | (change (_ : Nat) * 24 ≤ _; omega) | (change (_ : Nat) * 8 ≤ _; omega) | (change (_ : Nat) * 64 ≤ _; omega) | decide)); done)); (conv => lhs; whnf); (try simp (maxSteps := 2000000) (disch := omega) only [nI64, nU64, nU32, nU8, nSubL, nAddL, nAdd, nSub, nDiv, nMod, nZ, nLit, row_3, row_5, row_16, row_22, row_28, row_46, row_48, row_108, row_115, Ty.den, dflt_it, dflt_li, dflt_kv, Int.toNat_natCast, List.take_length, List.drop_zero]))
    rw [drop_at (d := 0) hi]
    have hc : 0 ≤ l.getD (m + i) 0 ∧ l.getD (m + i) 0 < 256 := by rw [getD_at hi]; exact hb _ (List.getElem_mem hi)
    try simp (maxSteps := 2000000) (disch := omega) only [nI64, nU64, nU32, nU8, nSubL, nAddL, nAdd, nSub, nDiv, nMod, nZ, nLit, row_3, row_5, row_16, row_22, row_28, row_46, row_48, row_108, row_115, Ty.den, dflt_it, dflt_li, dflt_kv, Int.toNat_natCast, List.take_length, List.drop_zero, dflt_it]
    by_cases hbad : (i = 9 ∧ 1 < l.getD (m + i) 0) ∨ (0 < i ∧ l.getD (m + i) 0 = 0)
    · rw [takeS, if_pos hbad]
      repeat' (first | (refine br_split (fun _ => ?_) (fun _ => ?_) <;> (conv => lhs; whnf) <;> (try simp (maxSteps := 2000000) (disch := omega) only [nI64, nU64, nU32, nU8, nSubL, nAddL, nAdd, nSub, nDiv, nMod, nZ, nLit, row_3, row_5, row_16, row_22, row_28, row_46, row_48, row_108, row_115, Ty.den, dflt_it, dflt_li, dflt_kv, Int.toNat_natCast, List.take_length, List.drop_zero])) | (refine br_go ?_ ?_; (focus (((repeat' first | exact rfl | exact ordB_st rfl | exact ordB_of rfl | apply band | apply tst_t | apply nt_t)  <;> (try dsimp only [Ty.den, dflt_kv]) <;> (try simp only [List.length_append, List.length_cons, List.length_nil, List.length_take, List.length_drop, List.length_replicate]) <;> (first | trivial | assumption | omega | (change (_ : Int) ≤ _; omega) | (change (_ : Int) < _; omega) | (change (_ : Nat) * 1 ≤ _; omega) | (change (_ : Nat) * 48 ≤ _; omega) | (change (_ : Nat) * 24 ≤ _; omega) | (change (_ : Nat) * 8 ≤ _; omega) | (change (_ : Nat) * 64 ≤ _; omega) | decide)); done)); (conv => lhs; whnf); (try simp (maxSteps := 2000000) (disch := omega) only [nI64, nU64, nU32, nU8, nSubL, nAddL, nAdd, nSub, nDiv, nMod, nZ, nLit, row_3, row_5, row_16, row_22, row_28, row_46, row_48, row_108, row_115, Ty.den, dflt_it, dflt_li, dflt_kv, Int.toNat_natCast, List.take_length, List.drop_zero])))
      all_goals first | (exfalso; omega) | rfl
    · have h9 : i ≤ 9 := by omega
      obtain ⟨p1, p2, p3, p4⟩ := part h9 hc hbad ⟨h3, h4⟩
      rw [takeS, if_neg hbad]
      repeat' (first | (refine br_split (fun _ => ?_) (fun _ => ?_) <;> (conv => lhs; whnf) <;> (try simp (maxSteps := 2000000) (disch := omega) only [nI64, nU64, nU32, nU8, nSubL, nAddL, nAdd, nSub, nDiv, nMod, nZ, nLit, row_3, row_5, row_16, row_22, row_28, row_46, row_48, row_108, row_115, Ty.den, dflt_it, dflt_li, dflt_kv, Int.toNat_natCast, List.take_length, List.drop_zero])) | (refine br_go ?_ ?_; (focus (((repeat' first | exact rfl | exact ordB_st rfl | exact ordB_of rfl | apply band | apply tst_t | apply nt_t)  <;> (try dsimp only [Ty.den, dflt_kv]) <;> (try simp only [List.length_append, List.length_cons, List.length_nil, List.length_take, List.length_drop, List.length_replicate]) <;> (first | trivial | assumption | omega | (change (_ : Int) ≤ _; omega) | (change (_ : Int) < _; omega) | (change (_ : Nat) * 1 ≤ _; omega) | (change (_ : Nat) * 48 ≤ _; omega) | (change (_ : Nat) * 24 ≤ _; omega) | (change (_ : Nat) * 8 ≤ _; omega) | (change (_ : Nat) * 64 ≤ _; omega) | decide)); done)); (conv => lhs; whnf); (try simp (maxSteps := 2000000) (disch := omega) only [nI64, nU64, nU32, nU8, nSubL, nAddL, nAdd, nSub, nDiv, nMod, nZ, nLit, row_3, row_5, row_16, row_22, row_28, row_46, row_48, row_108, row_115, Ty.den, dflt_it, dflt_li, dflt_kv, Int.toNat_natCast, List.take_length, List.drop_zero])))
      all_goals first | (exfalso; omega) | skip
      all_goals rw [rtake_step h9 hc ⟨h3, h4⟩ p3 p4]
      all_goals first
        | (rw [if_pos (by assumption)]; done)
        | (rw [if_neg (by assumption)]
           exact hK (i + 1, acc + l.getD (m + i) 0 % 128 * ((128 ^ i : Nat) : Int)) ⟨by show m + (i + 1) ≤ _; omega, by show i + 1 ≤ 9 ∨ _; omega, p1, p2⟩ (by show _ - (i + 1) < _; omega))
  · refine br_go (tst_t (by omega)) ?_
    conv => lhs; whnf
    try simp (maxSteps := 2000000) (disch := omega) only [nI64, nU64, nU32, nU8, nSubL, nAddL, nAdd, nSub, nDiv, nMod, nZ, nLit, row_3, row_5, row_16, row_22, row_28, row_46, row_48, row_108, row_115, Ty.den, dflt_it, dflt_li, dflt_kv, Int.toNat_natCast, List.take_length, List.drop_zero]
    repeat (refine br_go ?_ ?_; (focus (((repeat' first | exact rfl | exact ordB_st rfl | exact ordB_of rfl | apply band | apply tst_t | apply nt_t)  <;> (try dsimp only [Ty.den, dflt_kv]) <;> (try simp only [List.length_append, List.length_cons, List.length_nil, List.length_take, List.length_drop, List.length_replicate]) <;> (first | trivial | assumption | omega | (change (_ : Int) ≤ _; omega) | (change (_ : Int) < _; omega) | (change (_ : Nat) * 1 ≤ _; omega) | (change (_ : Nat) * 48 ≤ _; omega) | (change (_ : Nat) * 24 ≤ _; omega) | (change (_ : Nat) * 8 ≤ _; omega) | (change (_ : Nat) * 64 ≤ _; omega) | decide)); done)); (conv => lhs; whnf); (try simp (maxSteps := 2000000) (disch := omega) only [nI64, nU64, nU32, nU8, nSubL, nAddL, nAdd, nSub, nDiv, nMod, nZ, nLit, row_3, row_5, row_16, row_22, row_28, row_46, row_48, row_108, row_115, Ty.den, dflt_it, dflt_li, dflt_kv, Int.toNat_natCast, List.take_length, List.drop_zero]))
    rw [List.drop_eq_nil_of_le (by omega : l.length ≤ m + i)]
    rfl
end Go.Proofs.Ytkdajonmfiipkaa.Ev
/- Rows of bytes that are the same ones. -/
namespace Go.Proofs.Ytkdajonmfiipkaa.Ev
open Go Go.RowKit
set_option linter.unusedVariables false
set_option linter.unusedSimpArgs false
set_option maxRecDepth 100000
set_option maxHeartbeats 8000000
abbrev bequalC : Ctx := ⟨rows, (fun  | _ => ([], []))⟩
theorem bequal_ok (T : Tab) : equalSp.Ok T bequalC F36 := by
  rintro ⟨(a : List Int), (b : List Int), _⟩ hf _
  obtain ⟨F, hF⟩ : ∃ F : Nat, F = 1 := ⟨_, rfl⟩
  refine ⟨F, 0, ?_⟩
  show evFn _ _ _ _ _ [vB a, vB b] [] _ = some (vT (a = b) : V)
  conv => lhs; whnf
  try simp (maxSteps := 2000000) (disch := omega) only [nI64, nU64, nU32, nU8, nSubL, nAddL, nAdd, nSub, nDiv, nMod, nZ, nLit, row_3, row_5, row_16, row_22, row_28, row_46, row_48, row_108, row_115, Ty.den, dflt_it, dflt_li, dflt_kv, Int.toNat_natCast, List.take_length, List.drop_zero]
  repeat (refine br_go ?_ ?_; (focus (((repeat' first | exact rfl | exact ordB_st rfl | exact ordB_of rfl | apply band | apply tst_t | apply nt_t)  <;> (try dsimp only [Ty.den, dflt_kv]) <;> (try simp only [List.length_append, List.length_cons, List.length_nil, List.length_take, List.length_drop, List.length_replicate]) <;> (first | trivial | assumption | omega | (change (_ : Int) ≤ _; omega) | (change (_ : Int) < _; omega) | (change (_ : Nat) * 1 ≤ _; omega) | (change (_ : Nat) * 48 ≤ _; omega) | (change (_ : Nat) * 24 ≤ _; omega) | (change (_ : Nat) * 8 ≤ _; omega) | (change (_ : Nat) * 64 ≤ _; omega) | decide)); done)); (conv => lhs; whnf); (try simp (maxSteps := 2000000) (disch := omega) only [nI64, nU64, nU32, nU8, nSubL, nAddL, nAdd, nSub, nDiv, nMod, nZ, nLit, row_3, row_5, row_16, row_22, row_28, row_46, row_48, row_108, row_115, Ty.den, dflt_it, dflt_li, dflt_kv, Int.toNat_natCast, List.take_length, List.drop_zero]))
end Go.Proofs.Ytkdajonmfiipkaa.Ev
