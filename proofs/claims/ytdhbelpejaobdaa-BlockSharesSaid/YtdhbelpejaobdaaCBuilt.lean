/- A block's bytes, by the program. -/
import Derived.Test.YtdhbelpejaobdaaCBlock
namespace Go.Proofs.Ytdhbelpejaobdaa.Ev
open Go Go.RowKit
set_option linter.unusedVariables false
set_option linter.unusedSimpArgs false
set_option maxRecDepth 100000
set_option maxHeartbeats 8000000
theorem keyAt_succ (l : List KV) (i : Nat) : keyAt l (i + 1) = (l.getD i kvd).1 := by rw [keyAt, if_neg (by omega)]; rfl
theorem putS_len10 {n : Nat} (h : n ≤ 140737488355328) : (putS n).length ≤ 10 := putS_length64 (by omega)
abbrev builtC : Ctx := ⟨rows, (fun | 0 => ([0, 1, 5, 6, 7, 13, 14, 15], [5, 6, 7]) | 1 => ([], [0, 1, 5, 6, 7, 13, 14, 15]) | 2 => ([0, 1, 5, 6, 7, 9, 10, 13, 14, 15, 50, 51], [0, 1, 5, 6, 7, 9, 10, 13, 14, 15]) | 3 => ([], [0, 1, 5, 6, 7, 9, 10, 13, 14, 15, 50, 51]) | _ => ([], []))⟩
theorem built_ok (T : Tab) (h1 : T 53 = fixed4Sp.ent) (h2 : T 55 = putSp.ent) (h3 : T 54 = sharedSp.ent) : builtSp.Ok T builtC F32 := by
  rw [on_top h1, on_top h2, on_top h3]
  rintro ⟨(l : List KV), (r : Int), _⟩ hf hp
  have hf1 : Fits kvl l := hf.1
  have hp : (Fair l ∧ 1 ≤ r) ∧ r ≤ 64 := by simpa only [builtSp, builtPre, Bool.and_eq_true, tst_iff] using hp
  obtain ⟨⟨⟨hl, ht⟩, hr1⟩, hr2⟩ := hp
  obtain ⟨m, rfl⟩ : ∃ m : Nat, r = m := ⟨r.toNat, by omega⟩
  obtain ⟨F, hF⟩ : ∃ F : Nat, F = l.length + 5 := ⟨_, rfl⟩
  refine ⟨F, 0, ?_⟩
  show evFn _ _ _ _ _ [vK l, vI m] [] _ = some (vO 0 (built l m) : V)
  conv => lhs; whnf
  try simp (disch := omega) only [nI64, nU64, nU32, nU8, nSubL, nAddL, nAdd, nSub, nDiv, nMod, nZ, nLit, row_3, row_5, row_16, row_26, row_42, row_58, Ty.den, dflt_it, dflt_li, dflt_kv, Int.toNat_natCast, List.take_length, List.drop_zero]
  refine (loop_rule (α := Nat × List Int × List Int × Nat) (fun a => a.1 ≤ l.length ∧ a.2.1.length + total (l.drop a.1) + 30 * (l.length - a.1) ≤ 1105199104 ∧ a.2.2.1.length ≤ 4 * a.1 ∧ a.2.2.2 ≤ a.1) (fun a => l.length - a.1)
    (fun a => (vK l :: vI m :: V.bad :: V.bad :: V.bad :: vO 1 a.2.1 :: vO 2 a.2.2.1 :: vI a.2.2.2 :: V.bad :: V.bad :: V.bad :: V.bad :: V.bad :: vK l :: vI l.length :: vI a.1 :: V.bad :: V.bad :: V.bad :: V.bad :: V.bad :: V.bad :: V.bad :: V.bad :: V.bad :: V.bad :: V.bad :: V.bad :: V.bad :: V.bad :: V.bad :: V.bad :: V.bad :: V.bad :: V.bad :: V.bad :: V.bad :: V.bad :: V.bad :: V.bad :: V.bad :: V.bad :: V.bad :: V.bad :: V.bad :: V.bad :: V.bad :: V.bad :: V.bad :: V.bad :: V.bad :: V.bad :: V.bad :: V.bad :: V.bad :: V.bad :: V.bad :: V.bad :: V.bad :: V.bad :: V.bad :: V.bad :: V.bad :: V.bad :: V.bad :: V.bad :: V.bad :: V.bad :: V.bad :: V.bad :: V.bad :: V.bad :: V.bad :: V.bad :: V.bad :: V.bad :: V.bad :: [])) (fun a => [.fam 0, .fam a.2.1.length, .fam a.2.2.1.length, .gone])
    (fun a => some (vO 0 (builtGo m (keyAt l a.1) a.1 (l.drop a.1) a.2.1 a.2.2.1 a.2.2.2))) ?_ F (0, [], [], 0) ⟨by show 0 ≤ _; omega, by show 0 + total l + 30 * (l.length - 0) ≤ _; omega, by show 0 ≤ _; omega, by show 0 ≤ 0; omega⟩ (by show l.length - 0 < F; omega))
  rintro ⟨i, out, tail, n⟩ K ⟨h4, h5, h6, h7⟩ hK
  simp only at h4 h5 h6 h7 hK ⊢
  conv => lhs; whnf
  try simp (disch := omega) only [nI64, nU64, nU32, nU8, nSubL, nAddL, nAdd, nSub, nDiv, nMod, nZ, nLit, row_3, row_5, row_16, row_26, row_42, row_58, Ty.den, dflt_it, dflt_li, dflt_kv, Int.toNat_natCast, List.take_length, List.drop_zero]
  by_cases hi : i < l.length
  · refine br_go (tst_t (by omega)) ?_
    conv => lhs; whnf
    try simp (disch := omega) only [nI64, nU64, nU32, nU8, nSubL, nAddL, nAdd, nSub, nDiv, nMod, nZ, nLit, row_3, row_5, row_16, row_26, row_42, row_58, Ty.den, dflt_it, dflt_li, dflt_kv, Int.toNat_natCast, List.take_length, List.drop_zero]
    have hk := getD_kv hf1 hi
    rw [drop_at (d := kvd) hi, total_cons] at h5
    rw [drop_at (d := kvd) hi, builtGo]
    repeat (refine br_go ?_ ?_; (focus (((repeat' first | exact rfl | exact ordB_st rfl | exact ordB_of rfl | apply band | apply tst_t | apply nt_t)  <;> (try dsimp only [Ty.den, dflt_kv]) <;> (try simp only [List.length_append, List.length_cons, List.length_nil, List.length_take, List.length_drop, List.length_replicate]) <;> (first | trivial | assumption | omega | (change (_ : Int) ≤ _; omega) | (change (_ : Int) < _; omega) | (change (_ : Nat) * 1 ≤ _; omega) | (change (_ : Nat) * 48 ≤ _; omega) | (change (_ : Nat) * 24 ≤ _; omega) | (change (_ : Nat) * 8 ≤ _; omega) | (change (_ : Nat) * 64 ≤ _; omega) | decide)); done)); (conv => lhs; whnf); (try simp (disch := omega) only [nI64, nU64, nU32, nU8, nSubL, nAddL, nAdd, nSub, nDiv, nMod, nZ, nLit, row_3, row_5, row_16, row_26, row_42, row_58, Ty.den, dflt_it, dflt_li, dflt_kv, Int.toNat_natCast, List.take_length, List.drop_zero]))
    have hz : (i : Int) % (m : Int) = ((i % m : Nat) : Int) := (Int.natCast_emod i m).symm
    have q3 := putS_len10 (n := (l.getD i kvd).2.1.length) (by omega)
    by_cases hm : i % m = 0
    · refine br_go (tst_t (by omega)) ?_
      conv => lhs; whnf
      try simp (disch := omega) only [nI64, nU64, nU32, nU8, nSubL, nAddL, nAdd, nSub, nDiv, nMod, nZ, nLit, row_3, row_5, row_16, row_26, row_42, row_58, Ty.den, dflt_it, dflt_li, dflt_kv, Int.toNat_natCast, List.take_length, List.drop_zero]
      rw [if_pos hm]
      have q1 := putS_len10 (n := 0) (by omega)
      have q2 := putS_len10 (n := (l.getD i kvd).1.length - 0) (by omega)
      have q4 := fixedL_length (out.length : Int) 4
      have qe := entB_length (k := 0) (x := l.getD i kvd) (by omega) (by omega) (by omega)
      repeat (refine br_go ?_ ?_; (focus (((repeat' first | exact rfl | exact ordB_st rfl | exact ordB_of rfl | apply band | apply tst_t | apply nt_t)  <;> (try dsimp only [Ty.den, dflt_kv]) <;> (try simp only [List.length_append, List.length_cons, List.length_nil, List.length_take, List.length_drop, List.length_replicate]) <;> (first | trivial | assumption | omega | (change (_ : Int) ≤ _; omega) | (change (_ : Int) < _; omega) | (change (_ : Nat) * 1 ≤ _; omega) | (change (_ : Nat) * 48 ≤ _; omega) | (change (_ : Nat) * 24 ≤ _; omega) | (change (_ : Nat) * 8 ≤ _; omega) | (change (_ : Nat) * 64 ≤ _; omega) | decide)); done)); (conv => lhs; whnf); (try simp (disch := omega) only [nI64, nU64, nU32, nU8, nSubL, nAddL, nAdd, nSub, nDiv, nMod, nZ, nLit, row_3, row_5, row_16, row_26, row_42, row_58, Ty.den, dflt_it, dflt_li, dflt_kv, Int.toNat_natCast, List.take_length, List.drop_zero]))
      refine loop_more (by omega) ?_
      conv => lhs; whnf
      try simp (disch := omega) only [nI64, nU64, nU32, nU8, nSubL, nAddL, nAdd, nSub, nDiv, nMod, nZ, nLit, row_3, row_5, row_16, row_26, row_42, row_58, Ty.den, dflt_it, dflt_li, dflt_kv, Int.toNat_natCast, List.take_length, List.drop_zero]
      repeat (refine br_go ?_ ?_; (focus (((repeat' first | exact rfl | exact ordB_st rfl | exact ordB_of rfl | apply band | apply tst_t | apply nt_t)  <;> (try dsimp only [Ty.den, dflt_kv]) <;> (try simp only [List.length_append, List.length_cons, List.length_nil, List.length_take, List.length_drop, List.length_replicate]) <;> (first | trivial | assumption | omega | (change (_ : Int) ≤ _; omega) | (change (_ : Int) < _; omega) | (change (_ : Nat) * 1 ≤ _; omega) | (change (_ : Nat) * 48 ≤ _; omega) | (change (_ : Nat) * 24 ≤ _; omega) | (change (_ : Nat) * 8 ≤ _; omega) | (change (_ : Nat) * 64 ≤ _; omega) | decide)); done)); (conv => lhs; whnf); (try simp (disch := omega) only [nI64, nU64, nU32, nU8, nSubL, nAddL, nAdd, nSub, nDiv, nMod, nZ, nLit, row_3, row_5, row_16, row_26, row_42, row_58, Ty.den, dflt_it, dflt_li, dflt_kv, Int.toNat_natCast, List.take_length, List.drop_zero]))
      refine loop_more (by omega) ?_
      conv => lhs; whnf
      try simp (disch := omega) only [nI64, nU64, nU32, nU8, nSubL, nAddL, nAdd, nSub, nDiv, nMod, nZ, nLit, row_3, row_5, row_16, row_26, row_42, row_58, Ty.den, dflt_it, dflt_li, dflt_kv, Int.toNat_natCast, List.take_length, List.drop_zero]
      repeat (refine br_go ?_ ?_; (focus (((repeat' first | exact rfl | exact ordB_st rfl | exact ordB_of rfl | apply band | apply tst_t | apply nt_t)  <;> (try dsimp only [Ty.den, dflt_kv]) <;> (try simp only [List.length_append, List.length_cons, List.length_nil, List.length_take, List.length_drop, List.length_replicate]) <;> (first | trivial | assumption | omega | (change (_ : Int) ≤ _; omega) | (change (_ : Int) < _; omega) | (change (_ : Nat) * 1 ≤ _; omega) | (change (_ : Nat) * 48 ≤ _; omega) | (change (_ : Nat) * 24 ≤ _; omega) | (change (_ : Nat) * 8 ≤ _; omega) | (change (_ : Nat) * 64 ≤ _; omega) | decide)); done)); (conv => lhs; whnf); (try simp (disch := omega) only [nI64, nU64, nU32, nU8, nSubL, nAddL, nAdd, nSub, nDiv, nMod, nZ, nLit, row_3, row_5, row_16, row_26, row_42, row_58, Ty.den, dflt_it, dflt_li, dflt_kv, Int.toNat_natCast, List.take_length, List.drop_zero]))
      refine loop_more (by omega) ?_
      conv => lhs; whnf
      try simp (disch := omega) only [nI64, nU64, nU32, nU8, nSubL, nAddL, nAdd, nSub, nDiv, nMod, nZ, nLit, row_3, row_5, row_16, row_26, row_42, row_58, Ty.den, dflt_it, dflt_li, dflt_kv, Int.toNat_natCast, List.take_length, List.drop_zero]
      repeat (refine br_go ?_ ?_; (focus (((repeat' first | exact rfl | exact ordB_st rfl | exact ordB_of rfl | apply band | apply tst_t | apply nt_t)  <;> (try dsimp only [Ty.den, dflt_kv]) <;> (try simp only [List.length_append, List.length_cons, List.length_nil, List.length_take, List.length_drop, List.length_replicate]) <;> (first | trivial | assumption | omega | (change (_ : Int) ≤ _; omega) | (change (_ : Int) < _; omega) | (change (_ : Nat) * 1 ≤ _; omega) | (change (_ : Nat) * 48 ≤ _; omega) | (change (_ : Nat) * 24 ≤ _; omega) | (change (_ : Nat) * 8 ≤ _; omega) | (change (_ : Nat) * 64 ≤ _; omega) | decide)); done)); (conv => lhs; whnf); (try simp (disch := omega) only [nI64, nU64, nU32, nU8, nSubL, nAddL, nAdd, nSub, nDiv, nMod, nZ, nLit, row_3, row_5, row_16, row_26, row_42, row_58, Ty.den, dflt_it, dflt_li, dflt_kv, Int.toNat_natCast, List.take_length, List.drop_zero]))
      refine loop_more (by omega) ?_
      conv => lhs; whnf
      try simp (disch := omega) only [nI64, nU64, nU32, nU8, nSubL, nAddL, nAdd, nSub, nDiv, nMod, nZ, nLit, row_3, row_5, row_16, row_26, row_42, row_58, Ty.den, dflt_it, dflt_li, dflt_kv, Int.toNat_natCast, List.take_length, List.drop_zero]
      refine br_no (tst_f (by omega)) ?_
      conv => lhs; whnf
      try simp (disch := omega) only [nI64, nU64, nU32, nU8, nSubL, nAddL, nAdd, nSub, nDiv, nMod, nZ, nLit, row_3, row_5, row_16, row_26, row_42, row_58, Ty.den, dflt_it, dflt_li, dflt_kv, Int.toNat_natCast, List.take_length, List.drop_zero]
      repeat (refine br_go ?_ ?_; (focus (((repeat' first | exact rfl | exact ordB_st rfl | exact ordB_of rfl | apply band | apply tst_t | apply nt_t)  <;> (try dsimp only [Ty.den, dflt_kv]) <;> (try simp only [List.length_append, List.length_cons, List.length_nil, List.length_take, List.length_drop, List.length_replicate]) <;> (first | trivial | assumption | omega | (change (_ : Int) ≤ _; omega) | (change (_ : Int) < _; omega) | (change (_ : Nat) * 1 ≤ _; omega) | (change (_ : Nat) * 48 ≤ _; omega) | (change (_ : Nat) * 24 ≤ _; omega) | (change (_ : Nat) * 8 ≤ _; omega) | (change (_ : Nat) * 64 ≤ _; omega) | decide)); done)); (conv => lhs; whnf); (try simp (disch := omega) only [nI64, nU64, nU32, nU8, nSubL, nAddL, nAdd, nSub, nDiv, nMod, nZ, nLit, row_3, row_5, row_16, row_26, row_42, row_58, Ty.den, dflt_it, dflt_li, dflt_kv, Int.toNat_natCast, List.take_length, List.drop_zero]))
      have e1 : out ++ entB 0 (l.getD i kvd) = out ++ putS 0 ++ putS ((l.getD i kvd).1.length - 0) ++ putS (l.getD i kvd).2.1.length ++ (l.getD i kvd).1 ++ (l.getD i kvd).2.1 := by simp only [entB, List.append_assoc, List.drop_zero]
      have := hK (i + 1, out ++ entB 0 (l.getD i kvd), tail ++ fixedL out.length 4, n + 1) ⟨by show i + 1 ≤ _; omega, by show (out ++ _).length + total (l.drop (i + 1)) + 30 * (l.length - (i + 1)) ≤ _; rw [List.length_append]; omega, by show (tail ++ _).length ≤ 4 * (i + 1); rw [List.length_append]; omega, by show n + 1 ≤ i + 1; omega⟩ (by show _ - (i + 1) < _; omega)
      dsimp only at this
      rw [keyAt_succ] at this
      rw [e1] at this ⊢
      exact this
    · refine br_no (tst_f (by omega)) ?_
      conv => lhs; whnf
      try simp (disch := omega) only [nI64, nU64, nU32, nU8, nSubL, nAddL, nAdd, nSub, nDiv, nMod, nZ, nLit, row_3, row_5, row_16, row_26, row_42, row_58, Ty.den, dflt_it, dflt_li, dflt_kv, Int.toNat_natCast, List.take_length, List.drop_zero]
      rw [if_neg hm]
      have hi0 : i ≠ 0 := by intro h; subst h; exact hm (Nat.zero_mod m)
      have hs : keyAt l i = (l.getD (i - 1) kvd).1 := if_neg hi0
      have hs1 := sharedL_left (l.getD (i - 1) kvd).1 (l.getD i kvd).1
      have hs2 := sharedL_right (l.getD (i - 1) kvd).1 (l.getD i kvd).1
      have hk' := getD_kv (i := i - 1) hf1 (by omega)
      have ei : ((i : Int) - 1).toNat = i - 1 := by omega
      have q1 := putS_len10 (n := sharedL (l.getD (i - 1) kvd).1 (l.getD i kvd).1) (by omega)
      have q2 := putS_len10 (n := (l.getD i kvd).1.length - sharedL (l.getD (i - 1) kvd).1 (l.getD i kvd).1) (by omega)
      have qe := entB_length (k := sharedL (l.getD (i - 1) kvd).1 (l.getD i kvd).1) (x := l.getD i kvd) (by omega) (by omega) (by omega)
      repeat (refine br_go ?_ ?_; (focus (((repeat' first | exact rfl | exact ordB_st rfl | exact ordB_of rfl | apply band | apply tst_t | apply nt_t)  <;> (try dsimp only [Ty.den, dflt_kv]) <;> (try simp only [List.length_append, List.length_cons, List.length_nil, List.length_take, List.length_drop, List.length_replicate]) <;> (first | trivial | assumption | omega | (change (_ : Int) ≤ _; omega) | (change (_ : Int) < _; omega) | (change (_ : Nat) * 1 ≤ _; omega) | (change (_ : Nat) * 48 ≤ _; omega) | (change (_ : Nat) * 24 ≤ _; omega) | (change (_ : Nat) * 8 ≤ _; omega) | (change (_ : Nat) * 64 ≤ _; omega) | decide)); done)); (conv => lhs; whnf); (try simp (disch := omega) only [nI64, nU64, nU32, nU8, nSubL, nAddL, nAdd, nSub, nDiv, nMod, nZ, nLit, row_3, row_5, row_16, row_26, row_42, row_58, Ty.den, dflt_it, dflt_li, dflt_kv, Int.toNat_natCast, List.take_length, List.drop_zero]))
      refine loop_more (by omega) ?_
      conv => lhs; whnf
      try simp (disch := omega) only [nI64, nU64, nU32, nU8, nSubL, nAddL, nAdd, nSub, nDiv, nMod, nZ, nLit, row_3, row_5, row_16, row_26, row_42, row_58, Ty.den, dflt_it, dflt_li, dflt_kv, Int.toNat_natCast, List.take_length, List.drop_zero]
      repeat (refine br_go ?_ ?_; (focus (((repeat' first | exact rfl | exact ordB_st rfl | exact ordB_of rfl | apply band | apply tst_t | apply nt_t)  <;> (try dsimp only [Ty.den, dflt_kv]) <;> (try simp only [List.length_append, List.length_cons, List.length_nil, List.length_take, List.length_drop, List.length_replicate]) <;> (first | trivial | assumption | omega | (change (_ : Int) ≤ _; omega) | (change (_ : Int) < _; omega) | (change (_ : Nat) * 1 ≤ _; omega) | (change (_ : Nat) * 48 ≤ _; omega) | (change (_ : Nat) * 24 ≤ _; omega) | (change (_ : Nat) * 8 ≤ _; omega) | (change (_ : Nat) * 64 ≤ _; omega) | decide)); done)); (conv => lhs; whnf); (try simp (disch := omega) only [nI64, nU64, nU32, nU8, nSubL, nAddL, nAdd, nSub, nDiv, nMod, nZ, nLit, row_3, row_5, row_16, row_26, row_42, row_58, Ty.den, dflt_it, dflt_li, dflt_kv, Int.toNat_natCast, List.take_length, List.drop_zero]))
      refine loop_more (by omega) ?_
      conv => lhs; whnf
      try simp (disch := omega) only [nI64, nU64, nU32, nU8, nSubL, nAddL, nAdd, nSub, nDiv, nMod, nZ, nLit, row_3, row_5, row_16, row_26, row_42, row_58, Ty.den, dflt_it, dflt_li, dflt_kv, Int.toNat_natCast, List.take_length, List.drop_zero]
      repeat (refine br_go ?_ ?_; (focus (((repeat' first | exact rfl | exact ordB_st rfl | exact ordB_of rfl | apply band | apply tst_t | apply nt_t)  <;> (try dsimp only [Ty.den, dflt_kv]) <;> (try simp only [List.length_append, List.length_cons, List.length_nil, List.length_take, List.length_drop, List.length_replicate]) <;> (first | trivial | assumption | omega | (change (_ : Int) ≤ _; omega) | (change (_ : Int) < _; omega) | (change (_ : Nat) * 1 ≤ _; omega) | (change (_ : Nat) * 48 ≤ _; omega) | (change (_ : Nat) * 24 ≤ _; omega) | (change (_ : Nat) * 8 ≤ _; omega) | (change (_ : Nat) * 64 ≤ _; omega) | decide)); done)); (conv => lhs; whnf); (try simp (disch := omega) only [nI64, nU64, nU32, nU8, nSubL, nAddL, nAdd, nSub, nDiv, nMod, nZ, nLit, row_3, row_5, row_16, row_26, row_42, row_58, Ty.den, dflt_it, dflt_li, dflt_kv, Int.toNat_natCast, List.take_length, List.drop_zero]))
      refine loop_more (by omega) ?_
      conv => lhs; whnf
      try simp (disch := omega) only [nI64, nU64, nU32, nU8, nSubL, nAddL, nAdd, nSub, nDiv, nMod, nZ, nLit, row_3, row_5, row_16, row_26, row_42, row_58, Ty.den, dflt_it, dflt_li, dflt_kv, Int.toNat_natCast, List.take_length, List.drop_zero]
      repeat (refine br_go ?_ ?_; (focus (((repeat' first | exact rfl | exact ordB_st rfl | exact ordB_of rfl | apply band | apply tst_t | apply nt_t)  <;> (try dsimp only [Ty.den, dflt_kv]) <;> (try simp only [List.length_append, List.length_cons, List.length_nil, List.length_take, List.length_drop, List.length_replicate]) <;> (first | trivial | assumption | omega | (change (_ : Int) ≤ _; omega) | (change (_ : Int) < _; omega) | (change (_ : Nat) * 1 ≤ _; omega) | (change (_ : Nat) * 48 ≤ _; omega) | (change (_ : Nat) * 24 ≤ _; omega) | (change (_ : Nat) * 8 ≤ _; omega) | (change (_ : Nat) * 64 ≤ _; omega) | decide)); done)); (conv => lhs; whnf); (try simp (disch := omega) only [nI64, nU64, nU32, nU8, nSubL, nAddL, nAdd, nSub, nDiv, nMod, nZ, nLit, row_3, row_5, row_16, row_26, row_42, row_58, Ty.den, dflt_it, dflt_li, dflt_kv, Int.toNat_natCast, List.take_length, List.drop_zero]))
      refine loop_more (by omega) ?_
      conv => lhs; whnf
      try simp (disch := omega) only [nI64, nU64, nU32, nU8, nSubL, nAddL, nAdd, nSub, nDiv, nMod, nZ, nLit, row_3, row_5, row_16, row_26, row_42, row_58, Ty.den, dflt_it, dflt_li, dflt_kv, Int.toNat_natCast, List.take_length, List.drop_zero]
      refine br_no (tst_f (by omega)) ?_
      conv => lhs; whnf
      try simp (disch := omega) only [nI64, nU64, nU32, nU8, nSubL, nAddL, nAdd, nSub, nDiv, nMod, nZ, nLit, row_3, row_5, row_16, row_26, row_42, row_58, Ty.den, dflt_it, dflt_li, dflt_kv, Int.toNat_natCast, List.take_length, List.drop_zero]
      repeat (refine br_go ?_ ?_; (focus (((repeat' first | exact rfl | exact ordB_st rfl | exact ordB_of rfl | apply band | apply tst_t | apply nt_t)  <;> (try dsimp only [Ty.den, dflt_kv]) <;> (try simp only [List.length_append, List.length_cons, List.length_nil, List.length_take, List.length_drop, List.length_replicate]) <;> (first | trivial | assumption | omega | (change (_ : Int) ≤ _; omega) | (change (_ : Int) < _; omega) | (change (_ : Nat) * 1 ≤ _; omega) | (change (_ : Nat) * 48 ≤ _; omega) | (change (_ : Nat) * 24 ≤ _; omega) | (change (_ : Nat) * 8 ≤ _; omega) | (change (_ : Nat) * 64 ≤ _; omega) | decide)); done)); (conv => lhs; whnf); (try simp (disch := omega) only [nI64, nU64, nU32, nU8, nSubL, nAddL, nAdd, nSub, nDiv, nMod, nZ, nLit, row_3, row_5, row_16, row_26, row_42, row_58, Ty.den, dflt_it, dflt_li, dflt_kv, Int.toNat_natCast, List.take_length, List.drop_zero]))
      rw [hs]
      have e1 : out ++ entB (sharedL (l.getD (i - 1) kvd).1 (l.getD i kvd).1) (l.getD i kvd) = out ++ putS (sharedL (l.getD (i - 1) kvd).1 (l.getD i kvd).1) ++ putS ((l.getD i kvd).1.length - sharedL (l.getD (i - 1) kvd).1 (l.getD i kvd).1) ++ putS (l.getD i kvd).2.1.length ++ (l.getD i kvd).1.drop (sharedL (l.getD (i - 1) kvd).1 (l.getD i kvd).1) ++ (l.getD i kvd).2.1 := by simp only [entB, List.append_assoc]
      have := hK (i + 1, out ++ entB (sharedL (l.getD (i - 1) kvd).1 (l.getD i kvd).1) (l.getD i kvd), tail, n) ⟨by show i + 1 ≤ _; omega, by show (out ++ _).length + total (l.drop (i + 1)) + 30 * (l.length - (i + 1)) ≤ _; rw [List.length_append]; omega, by show tail.length ≤ 4 * (i + 1); omega, by show n ≤ i + 1; omega⟩ (by show _ - (i + 1) < _; omega)
      dsimp only at this
      rw [keyAt_succ] at this
      rw [e1] at this ⊢
      exact this
  · refine br_no (tst_f (by omega)) ?_
    conv => lhs; whnf
    try simp (disch := omega) only [nI64, nU64, nU32, nU8, nSubL, nAddL, nAdd, nSub, nDiv, nMod, nZ, nLit, row_3, row_5, row_16, row_26, row_42, row_58, Ty.den, dflt_it, dflt_li, dflt_kv, Int.toNat_natCast, List.take_length, List.drop_zero]
    have q := fixedL_length (n : Int) 4
    repeat (refine br_go ?_ ?_; (focus (((repeat' first | exact rfl | exact ordB_st rfl | exact ordB_of rfl | apply band | apply tst_t | apply nt_t)  <;> (try dsimp only [Ty.den, dflt_kv]) <;> (try simp only [List.length_append, List.length_cons, List.length_nil, List.length_take, List.length_drop, List.length_replicate]) <;> (first | trivial | assumption | omega | (change (_ : Int) ≤ _; omega) | (change (_ : Int) < _; omega) | (change (_ : Nat) * 1 ≤ _; omega) | (change (_ : Nat) * 48 ≤ _; omega) | (change (_ : Nat) * 24 ≤ _; omega) | (change (_ : Nat) * 8 ≤ _; omega) | (change (_ : Nat) * 64 ≤ _; omega) | decide)); done)); (conv => lhs; whnf); (try simp (disch := omega) only [nI64, nU64, nU32, nU8, nSubL, nAddL, nAdd, nSub, nDiv, nMod, nZ, nLit, row_3, row_5, row_16, row_26, row_42, row_58, Ty.den, dflt_it, dflt_li, dflt_kv, Int.toNat_natCast, List.take_length, List.drop_zero]))
    rw [List.drop_eq_nil_of_le (by omega : l.length ≤ i)]
    rfl
end Go.Proofs.Ytdhbelpejaobdaa.Ev
