/- Parts of the proof, joined by a program of this session: WTrimA, WNextA, WRecA, WReadA, WBack, EvRUnfixed, EvRPut, CRef2, WOne, CKv. -/
import Derived.Test.YtbcfagackcnpkaaDoorM3
set_option linter.unusedVariables false
set_option linter.unusedSimpArgs false
set_option linter.unusedSectionVars false
/- Logs: bytes trimmed of zeros, of a row that is read alone: by what is behind it. -/
namespace Go.Proofs.YtbcfagackcnpkaaDoor.Ev
open Go Go.RowKit
set_option linter.unusedVariables false
set_option linter.unusedSimpArgs false
set_option maxRecDepth 100000
set_option maxHeartbeats 16000000
abbrev base7 (b o : List Int) (ext : List Ent) : List Ent := Ent.rdo 0 by8 b :: Ent.fam 0 :: Ent.obj [vO 3 o] :: Ent.fam o.length :: .gone :: .gone :: .gone :: ext
noncomputable abbrev s14 (b o : List Int) : List Ent := base7 b o [.obj [.d by8 (0 : Int), .own 8 by8 [], .d .bo false], .fam 0, .gone, .gone, .gone, .gone, .gone]
abbrev bs (b o : List Int) (ext : List Ent) : List Ent := base7 b o (.obj [.d by8 (0 : Int), .own 8 by8 [], .d .bo false] :: .fam 0 :: .gone :: .gone :: .gone :: .gone :: .gone :: ext)
abbrev extT : List Ent := [.fam 0, .gone, .gone, .gone, .gone, .gone, .fam 0, .gone, .fam 0, .gone, .gone]
theorem trim_gen (T : Tab) (F d : Nat) (n4 : T 42 = none) (n5 : T 41 = none) (b : List Int) (i N : Nat) (hN : i + N ≤ b.length) (hN7 : N ≤ 64) (hF : 100 ≤ F) (p3 : b.length ≤ 1099511627776) (o : List Int) (k : V → List Ent → Option V) (r : Option V) (c : SCap)
    (hz1 : N = 0 → ∀ ext, k (.own 16 by8 []) (bs b o ext) = r)
    (hz2 : (∀ j, j < N → b.getD (i + j) 0 = 0) → ∀ ext, k (.d byl ([] : List Int)) (bs b o ext) = r)
    (hnz : ∀ j, j < N → b.getD (i + j) 0 ≠ 0 → ∀ a n c, 0 < n → k (.sr 0 0 a n 1 c) (bs b o extT) = r) :
    evFn (ctxOf 37) T (inlH ctxOf T F fnOf (d + 1)) F F37 [.sr 0 0 (0 + i) N 1 c, .d .st (strInts { data := #[0] })] (s14 b o) k = r := by
  rw [off_top n4, off_top n5]
  have es : strInts { data := #[0] } = [0] := by decide +kernel
  have eg : ([0] : List Int).getD 0 0 = 0 := rfl
  conv => lhs; whnf
  try simp (maxSteps := 2000000) (disch := omega) only [nI64, nU64, nU32, nU8, nSubL, nAddL, nAdd, nSub, nDiv, nMod, nZ, nLit, row_3, row_4, row_5, row_16, row_22, row_85, Ty.den, dflt_it, dflt_li, dflt_kv, Int.toNat_natCast, List.take_length, List.drop_zero]
  repeat (refine br_go ?_ ?_; (focus (((repeat' first | exact rfl | exact ordB_st rfl | exact ordB_of rfl | apply band | apply tst_t | apply nt_t)  <;> (try dsimp only [Ty.den, dflt_kv]) <;> (try simp only [List.length_append, List.length_cons, List.length_nil, List.length_take, List.length_drop, List.length_replicate]) <;> (first | trivial | assumption | omega | (change (_ : Int) ≤ _; omega) | (change (_ : Int) < _; omega) | (change (_ : Nat) * 1 ≤ _; omega) | (change (_ : Nat) * 48 ≤ _; omega) | (change (_ : Nat) * 24 ≤ _; omega) | (change (_ : Nat) * 8 ≤ _; omega) | (change (_ : Nat) * 64 ≤ _; omega) | decide)); done)); (conv => lhs; whnf); (try simp (maxSteps := 2000000) (disch := omega) only [nI64, nU64, nU32, nU8, nSubL, nAddL, nAdd, nSub, nDiv, nMod, nZ, nLit, row_3, row_4, row_5, row_16, row_22, row_85, Ty.den, dflt_it, dflt_li, dflt_kv, Int.toNat_natCast, List.take_length, List.drop_zero]))
  by_cases h0 : N = 0
  · refine br_go (tst_t (by omega)) ?_
    conv => lhs; whnf
    try simp (maxSteps := 2000000) (disch := omega) only [nI64, nU64, nU32, nU8, nSubL, nAddL, nAdd, nSub, nDiv, nMod, nZ, nLit, row_3, row_4, row_5, row_16, row_22, row_85, Ty.den, dflt_it, dflt_li, dflt_kv, Int.toNat_natCast, List.take_length, List.drop_zero]
    repeat (refine br_go ?_ ?_; (focus (((repeat' first | exact rfl | exact ordB_st rfl | exact ordB_of rfl | apply band | apply tst_t | apply nt_t)  <;> (try dsimp only [Ty.den, dflt_kv]) <;> (try simp only [List.length_append, List.length_cons, List.length_nil, List.length_take, List.length_drop, List.length_replicate]) <;> (first | trivial | assumption | omega | (change (_ : Int) ≤ _; omega) | (change (_ : Int) < _; omega) | (change (_ : Nat) * 1 ≤ _; omega) | (change (_ : Nat) * 48 ≤ _; omega) | (change (_ : Nat) * 24 ≤ _; omega) | (change (_ : Nat) * 8 ≤ _; omega) | (change (_ : Nat) * 64 ≤ _; omega) | decide)); done)); (conv => lhs; whnf); (try simp (maxSteps := 2000000) (disch := omega) only [nI64, nU64, nU32, nU8, nSubL, nAddL, nAdd, nSub, nDiv, nMod, nZ, nLit, row_3, row_4, row_5, row_16, row_22, row_85, Ty.den, dflt_it, dflt_li, dflt_kv, Int.toNat_natCast, List.take_length, List.drop_zero]))
    exact hz1 h0 _
  · refine br_no (tst_f (by omega)) ?_
    conv => lhs; whnf
    try simp (maxSteps := 2000000) (disch := omega) only [nI64, nU64, nU32, nU8, nSubL, nAddL, nAdd, nSub, nDiv, nMod, nZ, nLit, row_3, row_4, row_5, row_16, row_22, row_85, Ty.den, dflt_it, dflt_li, dflt_kv, Int.toNat_natCast, List.take_length, List.drop_zero]
    repeat (refine br_go ?_ ?_; (focus (((repeat' first | exact rfl | exact ordB_st rfl | exact ordB_of rfl | apply band | apply tst_t | apply nt_t)  <;> (try dsimp only [Ty.den, dflt_kv]) <;> (try simp only [List.length_append, List.length_cons, List.length_nil, List.length_take, List.length_drop, List.length_replicate]) <;> (first | trivial | assumption | omega | (change (_ : Int) ≤ _; omega) | (change (_ : Int) < _; omega) | (change (_ : Nat) * 1 ≤ _; omega) | (change (_ : Nat) * 48 ≤ _; omega) | (change (_ : Nat) * 24 ≤ _; omega) | (change (_ : Nat) * 8 ≤ _; omega) | (change (_ : Nat) * 64 ≤ _; omega) | decide)); done)); (conv => lhs; whnf); (try simp (maxSteps := 2000000) (disch := omega) only [nI64, nU64, nU32, nU8, nSubL, nAddL, nAdd, nSub, nDiv, nMod, nZ, nLit, row_3, row_4, row_5, row_16, row_22, row_85, Ty.den, dflt_it, dflt_li, dflt_kv, Int.toNat_natCast, List.take_length, List.drop_zero]))
    refine br_no (tst_f ((by decide +kernel))) ?_
    conv => lhs; whnf
    try simp (maxSteps := 2000000) (disch := omega) only [nI64, nU64, nU32, nU8, nSubL, nAddL, nAdd, nSub, nDiv, nMod, nZ, nLit, row_3, row_4, row_5, row_16, row_22, row_85, Ty.den, dflt_it, dflt_li, dflt_kv, Int.toNat_natCast, List.take_length, List.drop_zero]
    try simp (maxSteps := 2000000) (disch := omega) only [nI64, nU64, nU32, nU8, nSubL, nAddL, nAdd, nSub, nDiv, nMod, nZ, nLit, row_3, row_4, row_5, row_16, row_22, row_85, Ty.den, dflt_it, dflt_li, dflt_kv, Int.toNat_natCast, List.take_length, List.drop_zero, es]
    repeat (refine br_go ?_ ?_; (focus (((repeat' first | exact rfl | exact ordB_st rfl | exact ordB_of rfl | apply band | apply tst_t | apply nt_t)  <;> (try dsimp only [Ty.den, dflt_kv]) <;> (try simp only [List.length_append, List.length_cons, List.length_nil, List.length_take, List.length_drop, List.length_replicate]) <;> (first | trivial | assumption | omega | (change (_ : Int) ≤ _; omega) | (change (_ : Int) < _; omega) | (change (_ : Nat) * 1 ≤ _; omega) | (change (_ : Nat) * 48 ≤ _; omega) | (change (_ : Nat) * 24 ≤ _; omega) | (change (_ : Nat) * 8 ≤ _; omega) | (change (_ : Nat) * 64 ≤ _; omega) | decide)); done)); (conv => lhs; whnf); (try simp (maxSteps := 2000000) (disch := omega) only [nI64, nU64, nU32, nU8, nSubL, nAddL, nAdd, nSub, nDiv, nMod, nZ, nLit, row_3, row_4, row_5, row_16, row_22, row_85, Ty.den, dflt_it, dflt_li, dflt_kv, Int.toNat_natCast, List.take_length, List.drop_zero]))
    try simp (maxSteps := 2000000) (disch := omega) only [nI64, nU64, nU32, nU8, nSubL, nAddL, nAdd, nSub, nDiv, nMod, nZ, nLit, row_3, row_4, row_5, row_16, row_22, row_85, Ty.den, dflt_it, dflt_li, dflt_kv, Int.toNat_natCast, List.take_length, List.drop_zero, es, eg]
    refine loop_rule (α := Nat × SCap) (fun s => s.1 ≤ N ∧ ∀ q, s.1 ≤ q → q < N → b.getD (i + q) 0 = 0) (fun s => s.1)
      (fun s => (V.sr 0 0 (0 + i) s.1 1 s.2 :: V.d u8 0 :: V.bad :: V.bad :: V.bad :: V.bad :: V.bad :: V.bad :: V.bad :: V.bad :: V.bad :: V.bad :: V.bad :: V.bad :: V.bad :: V.bad :: V.bad :: V.bad :: V.bad :: V.bad :: V.bad :: V.bad :: V.bad :: V.bad :: []))
      (fun _ => _) (fun _ => r) ?_ F (N, _) ⟨Nat.le_refl _, fun q h1 h2 => absurd h2 (by omega)⟩ (by show N < F; omega)
    rintro ⟨n1, c1⟩ K1 ⟨j1, j2⟩ hK1
    simp only at j1 j2 hK1 ⊢
    conv => lhs; whnf
    try simp (maxSteps := 2000000) (disch := omega) only [nI64, nU64, nU32, nU8, nSubL, nAddL, nAdd, nSub, nDiv, nMod, nZ, nLit, row_3, row_4, row_5, row_16, row_22, row_85, Ty.den, dflt_it, dflt_li, dflt_kv, Int.toNat_natCast, List.take_length, List.drop_zero]
    by_cases h1 : n1 > 0
    · refine br_go (tst_t (by omega)) ?_
      conv => lhs; whnf
      try simp (maxSteps := 2000000) (disch := omega) only [nI64, nU64, nU32, nU8, nSubL, nAddL, nAdd, nSub, nDiv, nMod, nZ, nLit, row_3, row_4, row_5, row_16, row_22, row_85, Ty.den, dflt_it, dflt_li, dflt_kv, Int.toNat_natCast, List.take_length, List.drop_zero]
      repeat (refine br_go ?_ ?_; (focus (((repeat' first | exact rfl | exact ordB_st rfl | exact ordB_of rfl | apply band | apply tst_t | apply nt_t)  <;> (try dsimp only [Ty.den, dflt_kv]) <;> (try simp only [List.length_append, List.length_cons, List.length_nil, List.length_take, List.length_drop, List.length_replicate]) <;> (first | trivial | assumption | omega | (change (_ : Int) ≤ _; omega) | (change (_ : Int) < _; omega) | (change (_ : Nat) * 1 ≤ _; omega) | (change (_ : Nat) * 48 ≤ _; omega) | (change (_ : Nat) * 24 ≤ _; omega) | (change (_ : Nat) * 8 ≤ _; omega) | (change (_ : Nat) * 64 ≤ _; omega) | decide)); done)); (conv => lhs; whnf); (try simp (maxSteps := 2000000) (disch := omega) only [nI64, nU64, nU32, nU8, nSubL, nAddL, nAdd, nSub, nDiv, nMod, nZ, nLit, row_3, row_4, row_5, row_16, row_22, row_85, Ty.den, dflt_it, dflt_li, dflt_kv, Int.toNat_natCast, List.take_length, List.drop_zero]))
      by_cases hq : b.getD (0 + i + (n1 - 1)) 0 = 0
      · refine br_go (tst_t (hq)) ?_
        conv => lhs; whnf
        try simp (maxSteps := 2000000) (disch := omega) only [nI64, nU64, nU32, nU8, nSubL, nAddL, nAdd, nSub, nDiv, nMod, nZ, nLit, row_3, row_4, row_5, row_16, row_22, row_85, Ty.den, dflt_it, dflt_li, dflt_kv, Int.toNat_natCast, List.take_length, List.drop_zero]
        repeat (refine br_go ?_ ?_; (focus (((repeat' first | exact rfl | exact ordB_st rfl | exact ordB_of rfl | apply band | apply tst_t | apply nt_t)  <;> (try dsimp only [Ty.den, dflt_kv]) <;> (try simp only [List.length_append, List.length_cons, List.length_nil, List.length_take, List.length_drop, List.length_replicate]) <;> (first | trivial | assumption | omega | (change (_ : Int) ≤ _; omega) | (change (_ : Int) < _; omega) | (change (_ : Nat) * 1 ≤ _; omega) | (change (_ : Nat) * 48 ≤ _; omega) | (change (_ : Nat) * 24 ≤ _; omega) | (change (_ : Nat) * 8 ≤ _; omega) | (change (_ : Nat) * 64 ≤ _; omega) | decide)); done)); (conv => lhs; whnf); (try simp (maxSteps := 2000000) (disch := omega) only [nI64, nU64, nU32, nU8, nSubL, nAddL, nAdd, nSub, nDiv, nMod, nZ, nLit, row_3, row_4, row_5, row_16, row_22, row_85, Ty.den, dflt_it, dflt_li, dflt_kv, Int.toNat_natCast, List.take_length, List.drop_zero]))
        refine hK1 (n1 - 1, _) ⟨by omega, fun q h3 h4 => ?_⟩ (by show n1 - 1 < n1; omega)
        rcases Nat.lt_or_ge q n1 with h | h
        · rw [show q = n1 - 1 by omega, ← Nat.zero_add i]; exact hq
        · exact j2 q h h4
      · refine br_no (tst_f (hq)) ?_
        conv => lhs; whnf
        try simp (maxSteps := 2000000) (disch := omega) only [nI64, nU64, nU32, nU8, nSubL, nAddL, nAdd, nSub, nDiv, nMod, nZ, nLit, row_3, row_4, row_5, row_16, row_22, row_85, Ty.den, dflt_it, dflt_li, dflt_kv, Int.toNat_natCast, List.take_length, List.drop_zero]
        repeat (refine br_go ?_ ?_; (focus (((repeat' first | exact rfl | exact ordB_st rfl | exact ordB_of rfl | apply band | apply tst_t | apply nt_t)  <;> (try dsimp only [Ty.den, dflt_kv]) <;> (try simp only [List.length_append, List.length_cons, List.length_nil, List.length_take, List.length_drop, List.length_replicate]) <;> (first | trivial | assumption | omega | (change (_ : Int) ≤ _; omega) | (change (_ : Int) < _; omega) | (change (_ : Nat) * 1 ≤ _; omega) | (change (_ : Nat) * 48 ≤ _; omega) | (change (_ : Nat) * 24 ≤ _; omega) | (change (_ : Nat) * 8 ≤ _; omega) | (change (_ : Nat) * 64 ≤ _; omega) | decide)); done)); (conv => lhs; whnf); (try simp (maxSteps := 2000000) (disch := omega) only [nI64, nU64, nU32, nU8, nSubL, nAddL, nAdd, nSub, nDiv, nMod, nZ, nLit, row_3, row_4, row_5, row_16, row_22, row_85, Ty.den, dflt_it, dflt_li, dflt_kv, Int.toNat_natCast, List.take_length, List.drop_zero]))
        try simp (maxSteps := 2000000) (disch := omega) only [nI64, nU64, nU32, nU8, nSubL, nAddL, nAdd, nSub, nDiv, nMod, nZ, nLit, row_3, row_4, row_5, row_16, row_22, row_85, Ty.den, dflt_it, dflt_li, dflt_kv, Int.toNat_natCast, List.take_length, List.drop_zero, eg]
        refine loop_rule (α := Nat × Nat × SCap) (fun s => s.1 + s.2.1 = n1 ∧ ∀ q, q < s.1 → b.getD (i + q) 0 = 0) (fun s => s.2.1)
          (fun s => (V.sr 0 0 (0 + i + s.1) s.2.1 1 s.2.2 :: V.d u8 0 :: V.bad :: V.bad :: V.bad :: V.bad :: V.bad :: V.bad :: V.bad :: V.bad :: V.bad :: V.bad :: V.bad :: V.bad :: V.bad :: V.bad :: V.bad :: V.bad :: V.bad :: V.bad :: V.bad :: []))
          (fun _ => _) (fun _ => r) ?_ F (0, n1, _) ⟨Nat.zero_add _, fun q h => absurd h (by omega)⟩ (by show n1 < F; omega)
        rintro ⟨a1, n2, c2⟩ K2 ⟨j3, j4⟩ hK2
        simp only at j3 j4 hK2 ⊢
        conv => lhs; whnf
        try simp (maxSteps := 2000000) (disch := omega) only [nI64, nU64, nU32, nU8, nSubL, nAddL, nAdd, nSub, nDiv, nMod, nZ, nLit, row_3, row_4, row_5, row_16, row_22, row_85, Ty.den, dflt_it, dflt_li, dflt_kv, Int.toNat_natCast, List.take_length, List.drop_zero]
        by_cases h2 : n2 > 0
        · refine br_go (tst_t (by omega)) ?_
          conv => lhs; whnf
          try simp (maxSteps := 2000000) (disch := omega) only [nI64, nU64, nU32, nU8, nSubL, nAddL, nAdd, nSub, nDiv, nMod, nZ, nLit, row_3, row_4, row_5, row_16, row_22, row_85, Ty.den, dflt_it, dflt_li, dflt_kv, Int.toNat_natCast, List.take_length, List.drop_zero]
          repeat (refine br_go ?_ ?_; (focus (((repeat' first | exact rfl | exact ordB_st rfl | exact ordB_of rfl | apply band | apply tst_t | apply nt_t)  <;> (try dsimp only [Ty.den, dflt_kv]) <;> (try simp only [List.length_append, List.length_cons, List.length_nil, List.length_take, List.length_drop, List.length_replicate]) <;> (first | trivial | assumption | omega | (change (_ : Int) ≤ _; omega) | (change (_ : Int) < _; omega) | (change (_ : Nat) * 1 ≤ _; omega) | (change (_ : Nat) * 48 ≤ _; omega) | (change (_ : Nat) * 24 ≤ _; omega) | (change (_ : Nat) * 8 ≤ _; omega) | (change (_ : Nat) * 64 ≤ _; omega) | decide)); done)); (conv => lhs; whnf); (try simp (maxSteps := 2000000) (disch := omega) only [nI64, nU64, nU32, nU8, nSubL, nAddL, nAdd, nSub, nDiv, nMod, nZ, nLit, row_3, row_4, row_5, row_16, row_22, row_85, Ty.den, dflt_it, dflt_li, dflt_kv, Int.toNat_natCast, List.take_length, List.drop_zero]))
          by_cases hq2 : b.getD (0 + i + a1 + 0) 0 = 0
          · refine br_go (tst_t (hq2)) ?_
            conv => lhs; whnf
            try simp (maxSteps := 2000000) (disch := omega) only [nI64, nU64, nU32, nU8, nSubL, nAddL, nAdd, nSub, nDiv, nMod, nZ, nLit, row_3, row_4, row_5, row_16, row_22, row_85, Ty.den, dflt_it, dflt_li, dflt_kv, Int.toNat_natCast, List.take_length, List.drop_zero]
            repeat (refine br_go ?_ ?_; (focus (((repeat' first | exact rfl | exact ordB_st rfl | exact ordB_of rfl | apply band | apply tst_t | apply nt_t)  <;> (try dsimp only [Ty.den, dflt_kv]) <;> (try simp only [List.length_append, List.length_cons, List.length_nil, List.length_take, List.length_drop, List.length_replicate]) <;> (first | trivial | assumption | omega | (change (_ : Int) ≤ _; omega) | (change (_ : Int) < _; omega) | (change (_ : Nat) * 1 ≤ _; omega) | (change (_ : Nat) * 48 ≤ _; omega) | (change (_ : Nat) * 24 ≤ _; omega) | (change (_ : Nat) * 8 ≤ _; omega) | (change (_ : Nat) * 64 ≤ _; omega) | decide)); done)); (conv => lhs; whnf); (try simp (maxSteps := 2000000) (disch := omega) only [nI64, nU64, nU32, nU8, nSubL, nAddL, nAdd, nSub, nDiv, nMod, nZ, nLit, row_3, row_4, row_5, row_16, row_22, row_85, Ty.den, dflt_it, dflt_li, dflt_kv, Int.toNat_natCast, List.take_length, List.drop_zero]))
            refine hK2 (a1 + 1, n2 - 1, _) ⟨by show a1 + 1 + (n2 - 1) = n1; omega, fun q h3 => ?_⟩ (by show n2 - 1 < n2; omega)
            rcases Nat.lt_or_ge q a1 with h | h
            · exact j4 q h
            · rw [show q = a1 by omega, ← Nat.zero_add i]; exact hq2
          · refine br_no (tst_f (hq2)) ?_
            conv => lhs; whnf
            try simp (maxSteps := 2000000) (disch := omega) only [nI64, nU64, nU32, nU8, nSubL, nAddL, nAdd, nSub, nDiv, nMod, nZ, nLit, row_3, row_4, row_5, row_16, row_22, row_85, Ty.den, dflt_it, dflt_li, dflt_kv, Int.toNat_natCast, List.take_length, List.drop_zero]
            repeat (refine br_go ?_ ?_; (focus (((repeat' first | exact rfl | exact ordB_st rfl | exact ordB_of rfl | apply band | apply tst_t | apply nt_t)  <;> (try dsimp only [Ty.den, dflt_kv]) <;> (try simp only [List.length_append, List.length_cons, List.length_nil, List.length_take, List.length_drop, List.length_replicate]) <;> (first | trivial | assumption | omega | (change (_ : Int) ≤ _; omega) | (change (_ : Int) < _; omega) | (change (_ : Nat) * 1 ≤ _; omega) | (change (_ : Nat) * 48 ≤ _; omega) | (change (_ : Nat) * 24 ≤ _; omega) | (change (_ : Nat) * 8 ≤ _; omega) | (change (_ : Nat) * 64 ≤ _; omega) | decide)); done)); (conv => lhs; whnf); (try simp (maxSteps := 2000000) (disch := omega) only [nI64, nU64, nU32, nU8, nSubL, nAddL, nAdd, nSub, nDiv, nMod, nZ, nLit, row_3, row_4, row_5, row_16, row_22, row_85, Ty.den, dflt_it, dflt_li, dflt_kv, Int.toNat_natCast, List.take_length, List.drop_zero]))
            refine br_no (tst_f (by omega)) ?_
            conv => lhs; whnf
            try simp (maxSteps := 2000000) (disch := omega) only [nI64, nU64, nU32, nU8, nSubL, nAddL, nAdd, nSub, nDiv, nMod, nZ, nLit, row_3, row_4, row_5, row_16, row_22, row_85, Ty.den, dflt_it, dflt_li, dflt_kv, Int.toNat_natCast, List.take_length, List.drop_zero]
            repeat (refine br_go ?_ ?_; (focus (((repeat' first | exact rfl | exact ordB_st rfl | exact ordB_of rfl | apply band | apply tst_t | apply nt_t)  <;> (try dsimp only [Ty.den, dflt_kv]) <;> (try simp only [List.length_append, List.length_cons, List.length_nil, List.length_take, List.length_drop, List.length_replicate]) <;> (first | trivial | assumption | omega | (change (_ : Int) ≤ _; omega) | (change (_ : Int) < _; omega) | (change (_ : Nat) * 1 ≤ _; omega) | (change (_ : Nat) * 48 ≤ _; omega) | (change (_ : Nat) * 24 ≤ _; omega) | (change (_ : Nat) * 8 ≤ _; omega) | (change (_ : Nat) * 64 ≤ _; omega) | decide)); done)); (conv => lhs; whnf); (try simp (maxSteps := 2000000) (disch := omega) only [nI64, nU64, nU32, nU8, nSubL, nAddL, nAdd, nSub, nDiv, nMod, nZ, nLit, row_3, row_4, row_5, row_16, row_22, row_85, Ty.den, dflt_it, dflt_li, dflt_kv, Int.toNat_natCast, List.take_length, List.drop_zero]))
            exact hnz a1 (by omega) (by rw [← Nat.zero_add i]; exact hq2) _ _ _ (by omega)
        · exfalso
          refine hq ?_
          rw [Nat.zero_add]
          exact j4 (n1 - 1) (by omega)
    · refine br_no (tst_f (by omega)) ?_
      conv => lhs; whnf
      try simp (maxSteps := 2000000) (disch := omega) only [nI64, nU64, nU32, nU8, nSubL, nAddL, nAdd, nSub, nDiv, nMod, nZ, nLit, row_3, row_4, row_5, row_16, row_22, row_85, Ty.den, dflt_it, dflt_li, dflt_kv, Int.toNat_natCast, List.take_length, List.drop_zero]
      repeat (refine br_go ?_ ?_; (focus (((repeat' first | exact rfl | exact ordB_st rfl | exact ordB_of rfl | apply band | apply tst_t | apply nt_t)  <;> (try dsimp only [Ty.den, dflt_kv]) <;> (try simp only [List.length_append, List.length_cons, List.length_nil, List.length_take, List.length_drop, List.length_replicate]) <;> (first | trivial | assumption | omega | (change (_ : Int) ≤ _; omega) | (change (_ : Int) < _; omega) | (change (_ : Nat) * 1 ≤ _; omega) | (change (_ : Nat) * 48 ≤ _; omega) | (change (_ : Nat) * 24 ≤ _; omega) | (change (_ : Nat) * 8 ≤ _; omega) | (change (_ : Nat) * 64 ≤ _; omega) | decide)); done)); (conv => lhs; whnf); (try simp (maxSteps := 2000000) (disch := omega) only [nI64, nU64, nU32, nU8, nSubL, nAddL, nAdd, nSub, nDiv, nMod, nZ, nLit, row_3, row_4, row_5, row_16, row_22, row_85, Ty.den, dflt_it, dflt_li, dflt_kv, Int.toNat_natCast, List.take_length, List.drop_zero]))
      try simp (maxSteps := 2000000) (disch := omega) only [nI64, nU64, nU32, nU8, nSubL, nAddL, nAdd, nSub, nDiv, nMod, nZ, nLit, row_3, row_4, row_5, row_16, row_22, row_85, Ty.den, dflt_it, dflt_li, dflt_kv, Int.toNat_natCast, List.take_length, List.drop_zero, eg]
      obtain rfl : n1 = 0 := by omega
      refine loop_more (by omega) ?_
      conv => lhs; whnf
      try simp (maxSteps := 2000000) (disch := omega) only [nI64, nU64, nU32, nU8, nSubL, nAddL, nAdd, nSub, nDiv, nMod, nZ, nLit, row_3, row_4, row_5, row_16, row_22, row_85, Ty.den, dflt_it, dflt_li, dflt_kv, Int.toNat_natCast, List.take_length, List.drop_zero]
      refine br_no (tst_f (by omega)) ?_
      conv => lhs; whnf
      try simp (maxSteps := 2000000) (disch := omega) only [nI64, nU64, nU32, nU8, nSubL, nAddL, nAdd, nSub, nDiv, nMod, nZ, nLit, row_3, row_4, row_5, row_16, row_22, row_85, Ty.den, dflt_it, dflt_li, dflt_kv, Int.toNat_natCast, List.take_length, List.drop_zero]
      repeat (refine br_go ?_ ?_; (focus (((repeat' first | exact rfl | exact ordB_st rfl | exact ordB_of rfl | apply band | apply tst_t | apply nt_t)  <;> (try dsimp only [Ty.den, dflt_kv]) <;> (try simp only [List.length_append, List.length_cons, List.length_nil, List.length_take, List.length_drop, List.length_replicate]) <;> (first | trivial | assumption | omega | (change (_ : Int) ≤ _; omega) | (change (_ : Int) < _; omega) | (change (_ : Nat) * 1 ≤ _; omega) | (change (_ : Nat) * 48 ≤ _; omega) | (change (_ : Nat) * 24 ≤ _; omega) | (change (_ : Nat) * 8 ≤ _; omega) | (change (_ : Nat) * 64 ≤ _; omega) | decide)); done)); (conv => lhs; whnf); (try simp (maxSteps := 2000000) (disch := omega) only [nI64, nU64, nU32, nU8, nSubL, nAddL, nAdd, nSub, nDiv, nMod, nZ, nLit, row_3, row_4, row_5, row_16, row_22, row_85, Ty.den, dflt_it, dflt_li, dflt_kv, Int.toNat_natCast, List.take_length, List.drop_zero]))
      exact hz2 (fun j hj => j2 j (by omega) hj) _
end Go.Proofs.YtbcfagackcnpkaaDoor.Ev
/- Logs: the program's next, gone into with a row that is read alone: by what is behind it. -/
namespace Go.Proofs.YtbcfagackcnpkaaDoor.Ev
open Go Go.RowKit
set_option linter.unusedVariables false
set_option linter.unusedSimpArgs false
set_option maxRecDepth 100000
set_option maxHeartbeats 16000000
abbrev pcFail : V := .tup [.d pc ((0 : Int), ([] : List Int), false, ()), vI 0, .d .bo false]
noncomputable abbrev pcYes (kk : Int) (A n z : Nat) (c : SCap) : V := .tup [.agg [.d by8 kk, .sr 0 0 (A + 7) z 1 c, .d .bo (tst (((A : Int) + 7 + (n : Int)) % 64 = 0))], .d i64 ((A : Int) + 7 + (n : Int)), .d .bo true]
noncomputable abbrev ext1 (kk : Int) (A n z : Nat) (c : SCap) : List Ent := [.obj [.d by8 kk, .sr 0 0 (A + 7) z 1 c, .d .bo (tst (((A : Int) + 7 + (n : Int)) % 64 = 0))], .fam 0, .gone, .gone, .gone, .gone, .gone, .gone]
theorem cut_zero2 {b : List Int} {a n : Nat} : (cutS b a (a + n)).all (· == 0) = true ↔ ∀ j, j < min (a + n) b.length - a → b.getD (a + j) 0 = 0 := by
  unfold cutS
  rw [List.all_eq_true]
  constructor
  · intro hz j hj
    have hm : b.getD (a + j) 0 ∈ (b.take (a + n)).drop a := by
      rw [getD_at (by omega)]
      refine List.mem_iff_getElem.2 ⟨j, by rw [List.length_drop, List.length_take]; omega, by rw [List.getElem_drop, List.getElem_take]⟩
    simpa using hz _ hm
  · intro hz x hx
    obtain ⟨j, hj, rfl⟩ := List.mem_iff_getElem.1 hx
    rw [List.length_drop, List.length_take] at hj
    rw [List.getElem_drop, List.getElem_take]
    have := hz j (by omega)
    rw [getD_at (by omega)] at this
    simp [this]
/-- what Trim tells of a window: nothing, where all is zero; else some of it -/
def TrimK (call : CallH V) (b o : List Int) (i N : Nat) (r : Option V) : Prop := ∀ (c : SCap) (id : Nat) (k : V → List Ent → Option V),
  ((∀ j, j < N → b.getD (i + j) 0 = 0) → k (.d byl ([] : List Int)) (s14 b o) = r) →
  (∀ j, j < N → b.getD (i + j) 0 ≠ 0 → ∀ a n c, 0 < n → k (.sr 0 0 a n 1 c) (bs b o extT) = r) →
  call 37 [.sr 0 0 (0 + i) N 1 c, .d .st (strInts { data := #[0] })] id (s14 b o) k = r
noncomputable abbrev ext2 (kk : Int) (A n z : Nat) (c : SCap) : List Ent := [.obj [.d by8 kk, .sr 0 0 (A + 7) z 1 c, .d .bo (tst (((A : Int) + 7 + (n : Int)) % 64 = 0))], .fam 0, .gone, .gone, .gone, .gone, .gone, .gone, .gone, .gone, .gone, .gone]
theorem next_gen (T : Tab) (call : CallH V) (F : Nat) (h1 : T 26 = roomSp.ent) (h2 : T 38 = unfixed4Sp.ent) (h3 : T 35 = sumSp.ent) (n3 : T 37 = none) (b : List Int) (i : Nat) (p2 : i ≤ b.length) (p3 : b.length ≤ 1099511627776) (hb : Bytes b) (o : List Int) (k : V → List Ent → Option V) (r : Option V)
    (hT : ∀ E, E = min (i + room i) b.length → TrimK call b o i (E - i) r)
    (hk0 : nextS b i = none → ∀ ext, k pcFail (base7 b o ext) = r)
    (hk1 : ∀ n z c, z = n → i + 7 + n ≤ b.length → nextS b i = some (b.getD (i + 6) 0, cutS b (i + 7) (i + 7 + n), i + 7 + n) → k (pcYes (b.getD (i + 6) 0) i n z c) (base7 b o (ext1 (b.getD (i + 6) 0) i n z c)) = r)
    (hk2 : ∀ A, A = i + room i → room i < 7 → ∀ n z c, z = n → A + 7 + n ≤ b.length → nextS b i = some (b.getD (A + 6) 0, cutS b (A + 7) (A + 7 + n), A + 7 + n) → k (pcYes (b.getD (A + 6) 0) A n z c) (base7 b o (ext2 (b.getD (A + 6) 0) A n z c)) = r) :
    evFn (ctxOf 31) T call F F31 [V.sr 0 0 0 (List.length b) 1 .unk, vI i] (base7 b o []) k = r := by
  rw [off_top n3, on_top h1, on_top h2, on_top h3]
  have hr := room_le i
  conv => lhs; whnf
  try simp (maxSteps := 2000000) (disch := omega) only [nI64, nU64, nU32, nU8, nSubL, nAddL, nAdd, nSub, nDiv, nMod, nZ, nLit, row_3, row_4, row_5, row_16, row_22, row_85, Ty.den, dflt_it, dflt_li, dflt_kv, Int.toNat_natCast, List.take_length, List.drop_zero]
  repeat (refine br_go ?_ ?_; (focus (((repeat' first | exact rfl | exact ordB_st rfl | exact ordB_of rfl | apply band | apply tst_t | apply nt_t)  <;> (try dsimp only [Ty.den, dflt_kv]) <;> (try simp only [List.length_append, List.length_cons, List.length_nil, List.length_take, List.length_drop, List.length_replicate]) <;> (first | trivial | assumption | omega | (change (_ : Int) ≤ _; omega) | (change (_ : Int) < _; omega) | (change (_ : Nat) * 1 ≤ _; omega) | (change (_ : Nat) * 48 ≤ _; omega) | (change (_ : Nat) * 24 ≤ _; omega) | (change (_ : Nat) * 8 ≤ _; omega) | (change (_ : Nat) * 64 ≤ _; omega) | decide)); done)); (conv => lhs; whnf); (try simp (maxSteps := 2000000) (disch := omega) only [nI64, nU64, nU32, nU8, nSubL, nAddL, nAdd, nSub, nDiv, nMod, nZ, nLit, row_3, row_4, row_5, row_16, row_22, row_85, Ty.den, dflt_it, dflt_li, dflt_kv, Int.toNat_natCast, List.take_length, List.drop_zero]))
  by_cases g1 : room i < 7
  · refine br_go (tst_t (by omega)) ?_
    conv => lhs; whnf
    try simp (maxSteps := 2000000) (disch := omega) only [nI64, nU64, nU32, nU8, nSubL, nAddL, nAdd, nSub, nDiv, nMod, nZ, nLit, row_3, row_4, row_5, row_16, row_22, row_85, Ty.den, dflt_it, dflt_li, dflt_kv, Int.toNat_natCast, List.take_length, List.drop_zero]
    repeat (refine br_go ?_ ?_; (focus (((repeat' first | exact rfl | exact ordB_st rfl | exact ordB_of rfl | apply band | apply tst_t | apply nt_t)  <;> (try dsimp only [Ty.den, dflt_kv]) <;> (try simp only [List.length_append, List.length_cons, List.length_nil, List.length_take, List.length_drop, List.length_replicate]) <;> (first | trivial | assumption | omega | (change (_ : Int) ≤ _; omega) | (change (_ : Int) < _; omega) | (change (_ : Nat) * 1 ≤ _; omega) | (change (_ : Nat) * 48 ≤ _; omega) | (change (_ : Nat) * 24 ≤ _; omega) | (change (_ : Nat) * 8 ≤ _; omega) | (change (_ : Nat) * 64 ≤ _; omega) | decide)); done)); (conv => lhs; whnf); (try simp (maxSteps := 2000000) (disch := omega) only [nI64, nU64, nU32, nU8, nSubL, nAddL, nAdd, nSub, nDiv, nMod, nZ, nLit, row_3, row_4, row_5, row_16, row_22, row_85, Ty.den, dflt_it, dflt_li, dflt_kv, Int.toNat_natCast, List.take_length, List.drop_zero]))
    try simp (maxSteps := 2000000) (disch := omega) only [nI64, nU64, nU32, nU8, nSubL, nAddL, nAdd, nSub, nDiv, nMod, nZ, nLit, row_3, row_4, row_5, row_16, row_22, row_85, Ty.den, dflt_it, dflt_li, dflt_kv, Int.toNat_natCast, List.take_length, List.drop_zero, mnI]
    obtain ⟨E, hE⟩ : ∃ E : Nat, E = min (i + room i) b.length := ⟨_, rfl⟩
    have ez : (min ((i : Int) + (room i : Int)) (b.length : Int)) = (E : Int) := by omega
    try simp (maxSteps := 2000000) (disch := omega) only [nI64, nU64, nU32, nU8, nSubL, nAddL, nAdd, nSub, nDiv, nMod, nZ, nLit, row_3, row_4, row_5, row_16, row_22, row_85, Ty.den, dflt_it, dflt_li, dflt_kv, Int.toNat_natCast, List.take_length, List.drop_zero, ez]
    repeat (refine br_go ?_ ?_; (focus (((repeat' first | exact rfl | exact ordB_st rfl | exact ordB_of rfl | apply band | apply tst_t | apply nt_t)  <;> (try dsimp only [Ty.den, dflt_kv]) <;> (try simp only [List.length_append, List.length_cons, List.length_nil, List.length_take, List.length_drop, List.length_replicate]) <;> (first | trivial | assumption | omega | (change (_ : Int) ≤ _; omega) | (change (_ : Int) < _; omega) | (change (_ : Nat) * 1 ≤ _; omega) | (change (_ : Nat) * 48 ≤ _; omega) | (change (_ : Nat) * 24 ≤ _; omega) | (change (_ : Nat) * 8 ≤ _; omega) | (change (_ : Nat) * 64 ≤ _; omega) | decide)); done)); (conv => lhs; whnf); (try simp (maxSteps := 2000000) (disch := omega) only [nI64, nU64, nU32, nU8, nSubL, nAddL, nAdd, nSub, nDiv, nMod, nZ, nLit, row_3, row_4, row_5, row_16, row_22, row_85, Ty.den, dflt_it, dflt_li, dflt_kv, Int.toNat_natCast, List.take_length, List.drop_zero]))
    have epad : (∀ j, j < E - i → b.getD (i + j) 0 = 0) → nextS b i = headS b (i + room i) := fun h => by
      unfold nextS
      rw [if_pos g1, if_pos ((cut_zero2 (n := room i)).2 (by rw [← hE]; exact h))]
    have enot : ∀ j, j < E - i → b.getD (i + j) 0 ≠ 0 → nextS b i = none := fun j hj h => by
      unfold nextS
      rw [if_pos g1, if_neg (fun hh => h ((cut_zero2 (n := room i)).1 hh j (by rw [← hE]; exact hj)))]
    refine hT E hE _ _ _ (fun hz => ?_) (fun j hj hne a n c hn => ?_)
    · have en := epad hz
      conv => lhs; whnf
      try simp (maxSteps := 2000000) (disch := omega) only [nI64, nU64, nU32, nU8, nSubL, nAddL, nAdd, nSub, nDiv, nMod, nZ, nLit, row_3, row_4, row_5, row_16, row_22, row_85, Ty.den, dflt_it, dflt_li, dflt_kv, Int.toNat_natCast, List.take_length, List.drop_zero]
      repeat (refine br_go ?_ ?_; (focus (((repeat' first | exact rfl | exact ordB_st rfl | exact ordB_of rfl | apply band | apply tst_t | apply nt_t)  <;> (try dsimp only [Ty.den, dflt_kv]) <;> (try simp only [List.length_append, List.length_cons, List.length_nil, List.length_take, List.length_drop, List.length_replicate]) <;> (first | trivial | assumption | omega | (change (_ : Int) ≤ _; omega) | (change (_ : Int) < _; omega) | (change (_ : Nat) * 1 ≤ _; omega) | (change (_ : Nat) * 48 ≤ _; omega) | (change (_ : Nat) * 24 ≤ _; omega) | (change (_ : Nat) * 8 ≤ _; omega) | (change (_ : Nat) * 64 ≤ _; omega) | decide)); done)); (conv => lhs; whnf); (try simp (maxSteps := 2000000) (disch := omega) only [nI64, nU64, nU32, nU8, nSubL, nAddL, nAdd, nSub, nDiv, nMod, nZ, nLit, row_3, row_4, row_5, row_16, row_22, row_85, Ty.den, dflt_it, dflt_li, dflt_kv, Int.toNat_natCast, List.take_length, List.drop_zero]))
      refine br_no (tst_f ((by simp))) ?_
      conv => lhs; whnf
      try simp (maxSteps := 2000000) (disch := omega) only [nI64, nU64, nU32, nU8, nSubL, nAddL, nAdd, nSub, nDiv, nMod, nZ, nLit, row_3, row_4, row_5, row_16, row_22, row_85, Ty.den, dflt_it, dflt_li, dflt_kv, Int.toNat_natCast, List.take_length, List.drop_zero]
      obtain ⟨A, hA⟩ : ∃ A : Nat, A = i + room i := ⟨_, rfl⟩
      have eA : (i : Int) + (room i : Int) = (A : Int) := by omega
      have hrA : room A = 64 := by rw [hA]; exact room_next'
      rw [← hA] at en
      try simp (maxSteps := 2000000) (disch := omega) only [nI64, nU64, nU32, nU8, nSubL, nAddL, nAdd, nSub, nDiv, nMod, nZ, nLit, row_3, row_4, row_5, row_16, row_22, row_85, Ty.den, dflt_it, dflt_li, dflt_kv, Int.toNat_natCast, List.take_length, List.drop_zero, eA]
      have hk3 := hk2 A hA g1
      repeat (refine br_go ?_ ?_; (focus (((repeat' first | exact rfl | exact ordB_st rfl | exact ordB_of rfl | apply band | apply tst_t | apply nt_t)  <;> (try dsimp only [Ty.den, dflt_kv]) <;> (try simp only [List.length_append, List.length_cons, List.length_nil, List.length_take, List.length_drop, List.length_replicate]) <;> (first | trivial | assumption | omega | (change (_ : Int) ≤ _; omega) | (change (_ : Int) < _; omega) | (change (_ : Nat) * 1 ≤ _; omega) | (change (_ : Nat) * 48 ≤ _; omega) | (change (_ : Nat) * 24 ≤ _; omega) | (change (_ : Nat) * 8 ≤ _; omega) | (change (_ : Nat) * 64 ≤ _; omega) | decide)); done)); (conv => lhs; whnf); (try simp (maxSteps := 2000000) (disch := omega) only [nI64, nU64, nU32, nU8, nSubL, nAddL, nAdd, nSub, nDiv, nMod, nZ, nLit, row_3, row_4, row_5, row_16, row_22, row_85, Ty.den, dflt_it, dflt_li, dflt_kv, Int.toNat_natCast, List.take_length, List.drop_zero]))
      by_cases g2 : b.length < A + 7
      · refine br_go (tst_t (by omega)) ?_
        conv => lhs; whnf
        try simp (maxSteps := 2000000) (disch := omega) only [nI64, nU64, nU32, nU8, nSubL, nAddL, nAdd, nSub, nDiv, nMod, nZ, nLit, row_3, row_4, row_5, row_16, row_22, row_85, Ty.den, dflt_it, dflt_li, dflt_kv, Int.toNat_natCast, List.take_length, List.drop_zero]
        repeat (refine br_go ?_ ?_; (focus (((repeat' first | exact rfl | exact ordB_st rfl | exact ordB_of rfl | apply band | apply tst_t | apply nt_t)  <;> (try dsimp only [Ty.den, dflt_kv]) <;> (try simp only [List.length_append, List.length_cons, List.length_nil, List.length_take, List.length_drop, List.length_replicate]) <;> (first | trivial | assumption | omega | (change (_ : Int) ≤ _; omega) | (change (_ : Int) < _; omega) | (change (_ : Nat) * 1 ≤ _; omega) | (change (_ : Nat) * 48 ≤ _; omega) | (change (_ : Nat) * 24 ≤ _; omega) | (change (_ : Nat) * 8 ≤ _; omega) | (change (_ : Nat) * 64 ≤ _; omega) | decide)); done)); (conv => lhs; whnf); (try simp (maxSteps := 2000000) (disch := omega) only [nI64, nU64, nU32, nU8, nSubL, nAddL, nAdd, nSub, nDiv, nMod, nZ, nLit, row_3, row_4, row_5, row_16, row_22, row_85, Ty.den, dflt_it, dflt_li, dflt_kv, Int.toNat_natCast, List.take_length, List.drop_zero]))
        exact hk0 (by rw [en]; unfold headS; rw [if_pos g2]) _
      · refine br_no (tst_f (by omega)) ?_
        conv => lhs; whnf
        try simp (maxSteps := 2000000) (disch := omega) only [nI64, nU64, nU32, nU8, nSubL, nAddL, nAdd, nSub, nDiv, nMod, nZ, nLit, row_3, row_4, row_5, row_16, row_22, row_85, Ty.den, dflt_it, dflt_li, dflt_kv, Int.toNat_natCast, List.take_length, List.drop_zero]
        repeat (refine br_go ?_ ?_; (focus (((repeat' first | exact rfl | exact ordB_st rfl | exact ordB_of rfl | apply band | apply tst_t | apply nt_t)  <;> (try dsimp only [Ty.den, dflt_kv]) <;> (try simp only [List.length_append, List.length_cons, List.length_nil, List.length_take, List.length_drop, List.length_replicate]) <;> (first | trivial | assumption | omega | (change (_ : Int) ≤ _; omega) | (change (_ : Int) < _; omega) | (change (_ : Nat) * 1 ≤ _; omega) | (change (_ : Nat) * 48 ≤ _; omega) | (change (_ : Nat) * 24 ≤ _; omega) | (change (_ : Nat) * 8 ≤ _; omega) | (change (_ : Nat) * 64 ≤ _; omega) | decide)); done)); (conv => lhs; whnf); (try simp (maxSteps := 2000000) (disch := omega) only [nI64, nU64, nU32, nU8, nSubL, nAddL, nAdd, nSub, nDiv, nMod, nZ, nLit, row_3, row_4, row_5, row_16, row_22, row_85, Ty.den, dflt_it, dflt_li, dflt_kv, Int.toNat_natCast, List.take_length, List.drop_zero]))
        have hx : 0 ≤ b.getD (A + 4) 0 ∧ b.getD (A + 4) 0 < 256 := rd_bytes hb ((A + 4 : Nat) : Int)
        have hy : 0 ≤ b.getD (A + 5) 0 ∧ b.getD (A + 5) 0 < 256 := rd_bytes hb ((A + 5 : Nat) : Int)
        have eo := or_len' hx hy
        obtain ⟨n, hn⟩ : ∃ n : Nat, b.getD (A + 4) 0 + 256 * b.getD (A + 5) 0 = (n : Int) := ⟨(b.getD (A + 4) 0 + 256 * b.getD (A + 5) 0).toNat, by omega⟩
        rw [hn] at eo
        try simp (maxSteps := 2000000) (disch := omega) only [nI64, nU64, nU32, nU8, nSubL, nAddL, nAdd, nSub, nDiv, nMod, nZ, nLit, row_3, row_4, row_5, row_16, row_22, row_85, Ty.den, dflt_it, dflt_li, dflt_kv, Int.toNat_natCast, List.take_length, List.drop_zero, Nat.zero_add, eo]
        have etk : List.take (b.length - A) (List.drop A b) = List.drop A b := List.take_of_length_le (by rw [List.length_drop]; omega)
        by_cases g3 : room A - 7 < n
        · have c3 : tst ((n : Int) > (room A : Int) - 7) = true := tst_t (by omega)
          try simp (maxSteps := 2000000) (disch := omega) only [nI64, nU64, nU32, nU8, nSubL, nAddL, nAdd, nSub, nDiv, nMod, nZ, nLit, row_3, row_4, row_5, row_16, row_22, row_85, Ty.den, dflt_it, dflt_li, dflt_kv, Int.toNat_natCast, List.take_length, List.drop_zero, c3]
          conv => lhs; whnf
          try simp (maxSteps := 2000000) (disch := omega) only [nI64, nU64, nU32, nU8, nSubL, nAddL, nAdd, nSub, nDiv, nMod, nZ, nLit, row_3, row_4, row_5, row_16, row_22, row_85, Ty.den, dflt_it, dflt_li, dflt_kv, Int.toNat_natCast, List.take_length, List.drop_zero]
          repeat (refine br_go ?_ ?_; (focus (((repeat' first | exact rfl | exact ordB_st rfl | exact ordB_of rfl | apply band | apply tst_t | apply nt_t)  <;> (try dsimp only [Ty.den, dflt_kv]) <;> (try simp only [List.length_append, List.length_cons, List.length_nil, List.length_take, List.length_drop, List.length_replicate]) <;> (first | trivial | assumption | omega | (change (_ : Int) ≤ _; omega) | (change (_ : Int) < _; omega) | (change (_ : Nat) * 1 ≤ _; omega) | (change (_ : Nat) * 48 ≤ _; omega) | (change (_ : Nat) * 24 ≤ _; omega) | (change (_ : Nat) * 8 ≤ _; omega) | (change (_ : Nat) * 64 ≤ _; omega) | decide)); done)); (conv => lhs; whnf); (try simp (maxSteps := 2000000) (disch := omega) only [nI64, nU64, nU32, nU8, nSubL, nAddL, nAdd, nSub, nDiv, nMod, nZ, nLit, row_3, row_4, row_5, row_16, row_22, row_85, Ty.den, dflt_it, dflt_li, dflt_kv, Int.toNat_natCast, List.take_length, List.drop_zero]))
          exact hk0 (by rw [en]; exact headS_long g2 hn (.inl g3)) _
        · have c3 : tst ((n : Int) > (room A : Int) - 7) = false := tst_f (by omega)
          try simp (maxSteps := 2000000) (disch := omega) only [nI64, nU64, nU32, nU8, nSubL, nAddL, nAdd, nSub, nDiv, nMod, nZ, nLit, row_3, row_4, row_5, row_16, row_22, row_85, Ty.den, dflt_it, dflt_li, dflt_kv, Int.toNat_natCast, List.take_length, List.drop_zero, c3]
          conv => lhs; whnf
          try simp (maxSteps := 2000000) (disch := omega) only [nI64, nU64, nU32, nU8, nSubL, nAddL, nAdd, nSub, nDiv, nMod, nZ, nLit, row_3, row_4, row_5, row_16, row_22, row_85, Ty.den, dflt_it, dflt_li, dflt_kv, Int.toNat_natCast, List.take_length, List.drop_zero]
          by_cases g4 : b.length < A + 7 + n
          · have c4 : tst ((n : Int) > (b.length : Int) - (A : Int) - 7) = true := tst_t (by omega)
            try simp (maxSteps := 2000000) (disch := omega) only [nI64, nU64, nU32, nU8, nSubL, nAddL, nAdd, nSub, nDiv, nMod, nZ, nLit, row_3, row_4, row_5, row_16, row_22, row_85, Ty.den, dflt_it, dflt_li, dflt_kv, Int.toNat_natCast, List.take_length, List.drop_zero, c4]
            conv => lhs; whnf
            try simp (maxSteps := 2000000) (disch := omega) only [nI64, nU64, nU32, nU8, nSubL, nAddL, nAdd, nSub, nDiv, nMod, nZ, nLit, row_3, row_4, row_5, row_16, row_22, row_85, Ty.den, dflt_it, dflt_li, dflt_kv, Int.toNat_natCast, List.take_length, List.drop_zero]
            repeat (refine br_go ?_ ?_; (focus (((repeat' first | exact rfl | exact ordB_st rfl | exact ordB_of rfl | apply band | apply tst_t | apply nt_t)  <;> (try dsimp only [Ty.den, dflt_kv]) <;> (try simp only [List.length_append, List.length_cons, List.length_nil, List.length_take, List.length_drop, List.length_replicate]) <;> (first | trivial | assumption | omega | (change (_ : Int) ≤ _; omega) | (change (_ : Int) < _; omega) | (change (_ : Nat) * 1 ≤ _; omega) | (change (_ : Nat) * 48 ≤ _; omega) | (change (_ : Nat) * 24 ≤ _; omega) | (change (_ : Nat) * 8 ≤ _; omega) | (change (_ : Nat) * 64 ≤ _; omega) | decide)); done)); (conv => lhs; whnf); (try simp (maxSteps := 2000000) (disch := omega) only [nI64, nU64, nU32, nU8, nSubL, nAddL, nAdd, nSub, nDiv, nMod, nZ, nLit, row_3, row_4, row_5, row_16, row_22, row_85, Ty.den, dflt_it, dflt_li, dflt_kv, Int.toNat_natCast, List.take_length, List.drop_zero]))
            exact hk0 (by rw [en]; exact headS_long g2 hn (.inr g4)) _
          · have c4 : tst ((n : Int) > (b.length : Int) - (A : Int) - 7) = false := tst_f (by omega)
            try simp (maxSteps := 2000000) (disch := omega) only [nI64, nU64, nU32, nU8, nSubL, nAddL, nAdd, nSub, nDiv, nMod, nZ, nLit, row_3, row_4, row_5, row_16, row_22, row_85, Ty.den, dflt_it, dflt_li, dflt_kv, Int.toNat_natCast, List.take_length, List.drop_zero, c4]
            conv => lhs; whnf
            try simp (maxSteps := 2000000) (disch := omega) only [nI64, nU64, nU32, nU8, nSubL, nAddL, nAdd, nSub, nDiv, nMod, nZ, nLit, row_3, row_4, row_5, row_16, row_22, row_85, Ty.den, dflt_it, dflt_li, dflt_kv, Int.toNat_natCast, List.take_length, List.drop_zero]
            repeat (refine br_go ?_ ?_; (focus (((repeat' first | exact rfl | exact ordB_st rfl | exact ordB_of rfl | apply band | apply tst_t | apply nt_t)  <;> (try dsimp only [Ty.den, dflt_kv]) <;> (try simp only [List.length_append, List.length_cons, List.length_nil, List.length_take, List.length_drop, List.length_replicate]) <;> (first | trivial | assumption | omega | (change (_ : Int) ≤ _; omega) | (change (_ : Int) < _; omega) | (change (_ : Nat) * 1 ≤ _; omega) | (change (_ : Nat) * 48 ≤ _; omega) | (change (_ : Nat) * 24 ≤ _; omega) | (change (_ : Nat) * 8 ≤ _; omega) | (change (_ : Nat) * 64 ≤ _; omega) | decide)); done)); (conv => lhs; whnf); (try simp (maxSteps := 2000000) (disch := omega) only [nI64, nU64, nU32, nU8, nSubL, nAddL, nAdd, nSub, nDiv, nMod, nZ, nLit, row_3, row_4, row_5, row_16, row_22, row_85, Ty.den, dflt_it, dflt_li, dflt_kv, Int.toNat_natCast, List.take_length, List.drop_zero]))
            have et : ((A : Int) + 7 + (n : Int)).toNat = A + 7 + n := by omega
            have eu : (unfixedS (List.drop A b) 4).1 = leVal (cutS b A (A + 4)) := by
              unfold unfixedS cutS
              rw [if_neg (by rw [List.length_drop]; omega), List.drop_take, show A + 4 - A = 4 by omega]
            have hg := headS_go g2 hn g3 g4
            have es : List.take (A + 7 + n - (A + 6)) (List.drop (0 + (A + 6)) b) = cutS b (A + 6) (A + 7 + n) := by unfold cutS; rw [Nat.zero_add, List.drop_take]
            try simp (maxSteps := 2000000) (disch := omega) only [nI64, nU64, nU32, nU8, nSubL, nAddL, nAdd, nSub, nDiv, nMod, nZ, nLit, row_3, row_4, row_5, row_16, row_22, row_85, Ty.den, dflt_it, dflt_li, dflt_kv, Int.toNat_natCast, List.take_length, List.drop_zero, et, etk, eu, es]
            by_cases g5 : sumS (cutS b (A + 6) (A + 7 + n)) ≠ leVal (cutS b A (A + 4))
            · have c5 := tst_t g5
              try simp (maxSteps := 2000000) (disch := omega) only [nI64, nU64, nU32, nU8, nSubL, nAddL, nAdd, nSub, nDiv, nMod, nZ, nLit, row_3, row_4, row_5, row_16, row_22, row_85, Ty.den, dflt_it, dflt_li, dflt_kv, Int.toNat_natCast, List.take_length, List.drop_zero, c5]
              conv => lhs; whnf
              try simp (maxSteps := 2000000) (disch := omega) only [nI64, nU64, nU32, nU8, nSubL, nAddL, nAdd, nSub, nDiv, nMod, nZ, nLit, row_3, row_4, row_5, row_16, row_22, row_85, Ty.den, dflt_it, dflt_li, dflt_kv, Int.toNat_natCast, List.take_length, List.drop_zero]
              repeat (refine br_go ?_ ?_; (focus (((repeat' first | exact rfl | exact ordB_st rfl | exact ordB_of rfl | apply band | apply tst_t | apply nt_t)  <;> (try dsimp only [Ty.den, dflt_kv]) <;> (try simp only [List.length_append, List.length_cons, List.length_nil, List.length_take, List.length_drop, List.length_replicate]) <;> (first | trivial | assumption | omega | (change (_ : Int) ≤ _; omega) | (change (_ : Int) < _; omega) | (change (_ : Nat) * 1 ≤ _; omega) | (change (_ : Nat) * 48 ≤ _; omega) | (change (_ : Nat) * 24 ≤ _; omega) | (change (_ : Nat) * 8 ≤ _; omega) | (change (_ : Nat) * 64 ≤ _; omega) | decide)); done)); (conv => lhs; whnf); (try simp (maxSteps := 2000000) (disch := omega) only [nI64, nU64, nU32, nU8, nSubL, nAddL, nAdd, nSub, nDiv, nMod, nZ, nLit, row_3, row_4, row_5, row_16, row_22, row_85, Ty.den, dflt_it, dflt_li, dflt_kv, Int.toNat_natCast, List.take_length, List.drop_zero]))
              exact hk0 (by rw [en, hg]; exact if_pos g5) _
            · have c5 := tst_f g5
              try simp (maxSteps := 2000000) (disch := omega) only [nI64, nU64, nU32, nU8, nSubL, nAddL, nAdd, nSub, nDiv, nMod, nZ, nLit, row_3, row_4, row_5, row_16, row_22, row_85, Ty.den, dflt_it, dflt_li, dflt_kv, Int.toNat_natCast, List.take_length, List.drop_zero, c5]
              conv => lhs; whnf
              try simp (maxSteps := 2000000) (disch := omega) only [nI64, nU64, nU32, nU8, nSubL, nAddL, nAdd, nSub, nDiv, nMod, nZ, nLit, row_3, row_4, row_5, row_16, row_22, row_85, Ty.den, dflt_it, dflt_li, dflt_kv, Int.toNat_natCast, List.take_length, List.drop_zero]
              repeat (refine br_go ?_ ?_; (focus (((repeat' first | exact rfl | exact ordB_st rfl | exact ordB_of rfl | apply band | apply tst_t | apply nt_t)  <;> (try dsimp only [Ty.den, dflt_kv]) <;> (try simp only [List.length_append, List.length_cons, List.length_nil, List.length_take, List.length_drop, List.length_replicate]) <;> (first | trivial | assumption | omega | (change (_ : Int) ≤ _; omega) | (change (_ : Int) < _; omega) | (change (_ : Nat) * 1 ≤ _; omega) | (change (_ : Nat) * 48 ≤ _; omega) | (change (_ : Nat) * 24 ≤ _; omega) | (change (_ : Nat) * 8 ≤ _; omega) | (change (_ : Nat) * 64 ≤ _; omega) | decide)); done)); (conv => lhs; whnf); (try simp (maxSteps := 2000000) (disch := omega) only [nI64, nU64, nU32, nU8, nSubL, nAddL, nAdd, nSub, nDiv, nMod, nZ, nLit, row_3, row_4, row_5, row_16, row_22, row_85, Ty.den, dflt_it, dflt_li, dflt_kv, Int.toNat_natCast, List.take_length, List.drop_zero]))
              try simp (maxSteps := 2000000) (disch := omega) only [nI64, nU64, nU32, nU8, nSubL, nAddL, nAdd, nSub, nDiv, nMod, nZ, nLit, row_3, row_4, row_5, row_16, row_22, row_85, Ty.den, dflt_it, dflt_li, dflt_kv, Int.toNat_natCast, List.take_length, List.drop_zero, Nat.zero_add]
              exact hk3 n _ _ (by omega) (by omega) (by rw [en, hg]; exact if_neg g5)
    · conv => lhs; whnf
      try simp (maxSteps := 2000000) (disch := omega) only [nI64, nU64, nU32, nU8, nSubL, nAddL, nAdd, nSub, nDiv, nMod, nZ, nLit, row_3, row_4, row_5, row_16, row_22, row_85, Ty.den, dflt_it, dflt_li, dflt_kv, Int.toNat_natCast, List.take_length, List.drop_zero]
      repeat (refine br_go ?_ ?_; (focus (((repeat' first | exact rfl | exact ordB_st rfl | exact ordB_of rfl | apply band | apply tst_t | apply nt_t)  <;> (try dsimp only [Ty.den, dflt_kv]) <;> (try simp only [List.length_append, List.length_cons, List.length_nil, List.length_take, List.length_drop, List.length_replicate]) <;> (first | trivial | assumption | omega | (change (_ : Int) ≤ _; omega) | (change (_ : Int) < _; omega) | (change (_ : Nat) * 1 ≤ _; omega) | (change (_ : Nat) * 48 ≤ _; omega) | (change (_ : Nat) * 24 ≤ _; omega) | (change (_ : Nat) * 8 ≤ _; omega) | (change (_ : Nat) * 64 ≤ _; omega) | decide)); done)); (conv => lhs; whnf); (try simp (maxSteps := 2000000) (disch := omega) only [nI64, nU64, nU32, nU8, nSubL, nAddL, nAdd, nSub, nDiv, nMod, nZ, nLit, row_3, row_4, row_5, row_16, row_22, row_85, Ty.den, dflt_it, dflt_li, dflt_kv, Int.toNat_natCast, List.take_length, List.drop_zero]))
      exact hk0 (enot j hj hne) _
  · refine br_no (tst_f (by omega)) ?_
    conv => lhs; whnf
    try simp (maxSteps := 2000000) (disch := omega) only [nI64, nU64, nU32, nU8, nSubL, nAddL, nAdd, nSub, nDiv, nMod, nZ, nLit, row_3, row_4, row_5, row_16, row_22, row_85, Ty.den, dflt_it, dflt_li, dflt_kv, Int.toNat_natCast, List.take_length, List.drop_zero]
    have en : nextS b i = headS b i := by unfold nextS; rw [if_neg g1]
    repeat (refine br_go ?_ ?_; (focus (((repeat' first | exact rfl | exact ordB_st rfl | exact ordB_of rfl | apply band | apply tst_t | apply nt_t)  <;> (try dsimp only [Ty.den, dflt_kv]) <;> (try simp only [List.length_append, List.length_cons, List.length_nil, List.length_take, List.length_drop, List.length_replicate]) <;> (first | trivial | assumption | omega | (change (_ : Int) ≤ _; omega) | (change (_ : Int) < _; omega) | (change (_ : Nat) * 1 ≤ _; omega) | (change (_ : Nat) * 48 ≤ _; omega) | (change (_ : Nat) * 24 ≤ _; omega) | (change (_ : Nat) * 8 ≤ _; omega) | (change (_ : Nat) * 64 ≤ _; omega) | decide)); done)); (conv => lhs; whnf); (try simp (maxSteps := 2000000) (disch := omega) only [nI64, nU64, nU32, nU8, nSubL, nAddL, nAdd, nSub, nDiv, nMod, nZ, nLit, row_3, row_4, row_5, row_16, row_22, row_85, Ty.den, dflt_it, dflt_li, dflt_kv, Int.toNat_natCast, List.take_length, List.drop_zero]))
    by_cases g2 : b.length < i + 7
    · refine br_go (tst_t (by omega)) ?_
      conv => lhs; whnf
      try simp (maxSteps := 2000000) (disch := omega) only [nI64, nU64, nU32, nU8, nSubL, nAddL, nAdd, nSub, nDiv, nMod, nZ, nLit, row_3, row_4, row_5, row_16, row_22, row_85, Ty.den, dflt_it, dflt_li, dflt_kv, Int.toNat_natCast, List.take_length, List.drop_zero]
      repeat (refine br_go ?_ ?_; (focus (((repeat' first | exact rfl | exact ordB_st rfl | exact ordB_of rfl | apply band | apply tst_t | apply nt_t)  <;> (try dsimp only [Ty.den, dflt_kv]) <;> (try simp only [List.length_append, List.length_cons, List.length_nil, List.length_take, List.length_drop, List.length_replicate]) <;> (first | trivial | assumption | omega | (change (_ : Int) ≤ _; omega) | (change (_ : Int) < _; omega) | (change (_ : Nat) * 1 ≤ _; omega) | (change (_ : Nat) * 48 ≤ _; omega) | (change (_ : Nat) * 24 ≤ _; omega) | (change (_ : Nat) * 8 ≤ _; omega) | (change (_ : Nat) * 64 ≤ _; omega) | decide)); done)); (conv => lhs; whnf); (try simp (maxSteps := 2000000) (disch := omega) only [nI64, nU64, nU32, nU8, nSubL, nAddL, nAdd, nSub, nDiv, nMod, nZ, nLit, row_3, row_4, row_5, row_16, row_22, row_85, Ty.den, dflt_it, dflt_li, dflt_kv, Int.toNat_natCast, List.take_length, List.drop_zero]))
      exact hk0 (by rw [en]; unfold headS; rw [if_pos g2]) _
    · refine br_no (tst_f (by omega)) ?_
      conv => lhs; whnf
      try simp (maxSteps := 2000000) (disch := omega) only [nI64, nU64, nU32, nU8, nSubL, nAddL, nAdd, nSub, nDiv, nMod, nZ, nLit, row_3, row_4, row_5, row_16, row_22, row_85, Ty.den, dflt_it, dflt_li, dflt_kv, Int.toNat_natCast, List.take_length, List.drop_zero]
      repeat (refine br_go ?_ ?_; (focus (((repeat' first | exact rfl | exact ordB_st rfl | exact ordB_of rfl | apply band | apply tst_t | apply nt_t)  <;> (try dsimp only [Ty.den, dflt_kv]) <;> (try simp only [List.length_append, List.length_cons, List.length_nil, List.length_take, List.length_drop, List.length_replicate]) <;> (first | trivial | assumption | omega | (change (_ : Int) ≤ _; omega) | (change (_ : Int) < _; omega) | (change (_ : Nat) * 1 ≤ _; omega) | (change (_ : Nat) * 48 ≤ _; omega) | (change (_ : Nat) * 24 ≤ _; omega) | (change (_ : Nat) * 8 ≤ _; omega) | (change (_ : Nat) * 64 ≤ _; omega) | decide)); done)); (conv => lhs; whnf); (try simp (maxSteps := 2000000) (disch := omega) only [nI64, nU64, nU32, nU8, nSubL, nAddL, nAdd, nSub, nDiv, nMod, nZ, nLit, row_3, row_4, row_5, row_16, row_22, row_85, Ty.den, dflt_it, dflt_li, dflt_kv, Int.toNat_natCast, List.take_length, List.drop_zero]))
      have hx : 0 ≤ b.getD (i + 4) 0 ∧ b.getD (i + 4) 0 < 256 := rd_bytes hb ((i + 4 : Nat) : Int)
      have hy : 0 ≤ b.getD (i + 5) 0 ∧ b.getD (i + 5) 0 < 256 := rd_bytes hb ((i + 5 : Nat) : Int)
      have eo := or_len' hx hy
      obtain ⟨n, hn⟩ : ∃ n : Nat, b.getD (i + 4) 0 + 256 * b.getD (i + 5) 0 = (n : Int) := ⟨(b.getD (i + 4) 0 + 256 * b.getD (i + 5) 0).toNat, by omega⟩
      rw [hn] at eo
      try simp (maxSteps := 2000000) (disch := omega) only [nI64, nU64, nU32, nU8, nSubL, nAddL, nAdd, nSub, nDiv, nMod, nZ, nLit, row_3, row_4, row_5, row_16, row_22, row_85, Ty.den, dflt_it, dflt_li, dflt_kv, Int.toNat_natCast, List.take_length, List.drop_zero, Nat.zero_add, eo]
      have etk : List.take (b.length - i) (List.drop i b) = List.drop i b := List.take_of_length_le (by rw [List.length_drop]; omega)
      by_cases g3 : room i - 7 < n
      · have c3 : tst ((n : Int) > (room i : Int) - 7) = true := tst_t (by omega)
        try simp (maxSteps := 2000000) (disch := omega) only [nI64, nU64, nU32, nU8, nSubL, nAddL, nAdd, nSub, nDiv, nMod, nZ, nLit, row_3, row_4, row_5, row_16, row_22, row_85, Ty.den, dflt_it, dflt_li, dflt_kv, Int.toNat_natCast, List.take_length, List.drop_zero, c3]
        conv => lhs; whnf
        try simp (maxSteps := 2000000) (disch := omega) only [nI64, nU64, nU32, nU8, nSubL, nAddL, nAdd, nSub, nDiv, nMod, nZ, nLit, row_3, row_4, row_5, row_16, row_22, row_85, Ty.den, dflt_it, dflt_li, dflt_kv, Int.toNat_natCast, List.take_length, List.drop_zero]
        repeat (refine br_go ?_ ?_; (focus (((repeat' first | exact rfl | exact ordB_st rfl | exact ordB_of rfl | apply band | apply tst_t | apply nt_t)  <;> (try dsimp only [Ty.den, dflt_kv]) <;> (try simp only [List.length_append, List.length_cons, List.length_nil, List.length_take, List.length_drop, List.length_replicate]) <;> (first | trivial | assumption | omega | (change (_ : Int) ≤ _; omega) | (change (_ : Int) < _; omega) | (change (_ : Nat) * 1 ≤ _; omega) | (change (_ : Nat) * 48 ≤ _; omega) | (change (_ : Nat) * 24 ≤ _; omega) | (change (_ : Nat) * 8 ≤ _; omega) | (change (_ : Nat) * 64 ≤ _; omega) | decide)); done)); (conv => lhs; whnf); (try simp (maxSteps := 2000000) (disch := omega) only [nI64, nU64, nU32, nU8, nSubL, nAddL, nAdd, nSub, nDiv, nMod, nZ, nLit, row_3, row_4, row_5, row_16, row_22, row_85, Ty.den, dflt_it, dflt_li, dflt_kv, Int.toNat_natCast, List.take_length, List.drop_zero]))
        exact hk0 (by rw [en]; exact headS_long g2 hn (.inl g3)) _
      · have c3 : tst ((n : Int) > (room i : Int) - 7) = false := tst_f (by omega)
        try simp (maxSteps := 2000000) (disch := omega) only [nI64, nU64, nU32, nU8, nSubL, nAddL, nAdd, nSub, nDiv, nMod, nZ, nLit, row_3, row_4, row_5, row_16, row_22, row_85, Ty.den, dflt_it, dflt_li, dflt_kv, Int.toNat_natCast, List.take_length, List.drop_zero, c3]
        conv => lhs; whnf
        try simp (maxSteps := 2000000) (disch := omega) only [nI64, nU64, nU32, nU8, nSubL, nAddL, nAdd, nSub, nDiv, nMod, nZ, nLit, row_3, row_4, row_5, row_16, row_22, row_85, Ty.den, dflt_it, dflt_li, dflt_kv, Int.toNat_natCast, List.take_length, List.drop_zero]
        by_cases g4 : b.length < i + 7 + n
        · have c4 : tst ((n : Int) > (b.length : Int) - (i : Int) - 7) = true := tst_t (by omega)
          try simp (maxSteps := 2000000) (disch := omega) only [nI64, nU64, nU32, nU8, nSubL, nAddL, nAdd, nSub, nDiv, nMod, nZ, nLit, row_3, row_4, row_5, row_16, row_22, row_85, Ty.den, dflt_it, dflt_li, dflt_kv, Int.toNat_natCast, List.take_length, List.drop_zero, c4]
          conv => lhs; whnf
          try simp (maxSteps := 2000000) (disch := omega) only [nI64, nU64, nU32, nU8, nSubL, nAddL, nAdd, nSub, nDiv, nMod, nZ, nLit, row_3, row_4, row_5, row_16, row_22, row_85, Ty.den, dflt_it, dflt_li, dflt_kv, Int.toNat_natCast, List.take_length, List.drop_zero]
          repeat (refine br_go ?_ ?_; (focus (((repeat' first | exact rfl | exact ordB_st rfl | exact ordB_of rfl | apply band | apply tst_t | apply nt_t)  <;> (try dsimp only [Ty.den, dflt_kv]) <;> (try simp only [List.length_append, List.length_cons, List.length_nil, List.length_take, List.length_drop, List.length_replicate]) <;> (first | trivial | assumption | omega | (change (_ : Int) ≤ _; omega) | (change (_ : Int) < _; omega) | (change (_ : Nat) * 1 ≤ _; omega) | (change (_ : Nat) * 48 ≤ _; omega) | (change (_ : Nat) * 24 ≤ _; omega) | (change (_ : Nat) * 8 ≤ _; omega) | (change (_ : Nat) * 64 ≤ _; omega) | decide)); done)); (conv => lhs; whnf); (try simp (maxSteps := 2000000) (disch := omega) only [nI64, nU64, nU32, nU8, nSubL, nAddL, nAdd, nSub, nDiv, nMod, nZ, nLit, row_3, row_4, row_5, row_16, row_22, row_85, Ty.den, dflt_it, dflt_li, dflt_kv, Int.toNat_natCast, List.take_length, List.drop_zero]))
          exact hk0 (by rw [en]; exact headS_long g2 hn (.inr g4)) _
        · have c4 : tst ((n : Int) > (b.length : Int) - (i : Int) - 7) = false := tst_f (by omega)
          try simp (maxSteps := 2000000) (disch := omega) only [nI64, nU64, nU32, nU8, nSubL, nAddL, nAdd, nSub, nDiv, nMod, nZ, nLit, row_3, row_4, row_5, row_16, row_22, row_85, Ty.den, dflt_it, dflt_li, dflt_kv, Int.toNat_natCast, List.take_length, List.drop_zero, c4]
          conv => lhs; whnf
          try simp (maxSteps := 2000000) (disch := omega) only [nI64, nU64, nU32, nU8, nSubL, nAddL, nAdd, nSub, nDiv, nMod, nZ, nLit, row_3, row_4, row_5, row_16, row_22, row_85, Ty.den, dflt_it, dflt_li, dflt_kv, Int.toNat_natCast, List.take_length, List.drop_zero]
          repeat (refine br_go ?_ ?_; (focus (((repeat' first | exact rfl | exact ordB_st rfl | exact ordB_of rfl | apply band | apply tst_t | apply nt_t)  <;> (try dsimp only [Ty.den, dflt_kv]) <;> (try simp only [List.length_append, List.length_cons, List.length_nil, List.length_take, List.length_drop, List.length_replicate]) <;> (first | trivial | assumption | omega | (change (_ : Int) ≤ _; omega) | (change (_ : Int) < _; omega) | (change (_ : Nat) * 1 ≤ _; omega) | (change (_ : Nat) * 48 ≤ _; omega) | (change (_ : Nat) * 24 ≤ _; omega) | (change (_ : Nat) * 8 ≤ _; omega) | (change (_ : Nat) * 64 ≤ _; omega) | decide)); done)); (conv => lhs; whnf); (try simp (maxSteps := 2000000) (disch := omega) only [nI64, nU64, nU32, nU8, nSubL, nAddL, nAdd, nSub, nDiv, nMod, nZ, nLit, row_3, row_4, row_5, row_16, row_22, row_85, Ty.den, dflt_it, dflt_li, dflt_kv, Int.toNat_natCast, List.take_length, List.drop_zero]))
          have et : ((i : Int) + 7 + (n : Int)).toNat = i + 7 + n := by omega
          have eu : (unfixedS (List.drop i b) 4).1 = leVal (cutS b i (i + 4)) := by
            unfold unfixedS cutS
            rw [if_neg (by rw [List.length_drop]; omega), List.drop_take, show i + 4 - i = 4 by omega]
          have hg := headS_go g2 hn g3 g4
          have es : List.take (i + 7 + n - (i + 6)) (List.drop (0 + (i + 6)) b) = cutS b (i + 6) (i + 7 + n) := by unfold cutS; rw [Nat.zero_add, List.drop_take]
          try simp (maxSteps := 2000000) (disch := omega) only [nI64, nU64, nU32, nU8, nSubL, nAddL, nAdd, nSub, nDiv, nMod, nZ, nLit, row_3, row_4, row_5, row_16, row_22, row_85, Ty.den, dflt_it, dflt_li, dflt_kv, Int.toNat_natCast, List.take_length, List.drop_zero, et, etk, eu, es]
          by_cases g5 : sumS (cutS b (i + 6) (i + 7 + n)) ≠ leVal (cutS b i (i + 4))
          · have c5 := tst_t g5
            try simp (maxSteps := 2000000) (disch := omega) only [nI64, nU64, nU32, nU8, nSubL, nAddL, nAdd, nSub, nDiv, nMod, nZ, nLit, row_3, row_4, row_5, row_16, row_22, row_85, Ty.den, dflt_it, dflt_li, dflt_kv, Int.toNat_natCast, List.take_length, List.drop_zero, c5]
            conv => lhs; whnf
            try simp (maxSteps := 2000000) (disch := omega) only [nI64, nU64, nU32, nU8, nSubL, nAddL, nAdd, nSub, nDiv, nMod, nZ, nLit, row_3, row_4, row_5, row_16, row_22, row_85, Ty.den, dflt_it, dflt_li, dflt_kv, Int.toNat_natCast, List.take_length, List.drop_zero]
            repeat (refine br_go ?_ ?_; (focus (((repeat' first | exact rfl | exact ordB_st rfl | exact ordB_of rfl | apply band | apply tst_t | apply nt_t)  <;> (try dsimp only [Ty.den, dflt_kv]) <;> (try simp only [List.length_append, List.length_cons, List.length_nil, List.length_take, List.length_drop, List.length_replicate]) <;> (first | trivial | assumption | omega | (change (_ : Int) ≤ _; omega) | (change (_ : Int) < _; omega) | (change (_ : Nat) * 1 ≤ _; omega) | (change (_ : Nat) * 48 ≤ _; omega) | (change (_ : Nat) * 24 ≤ _; omega) | (change (_ : Nat) * 8 ≤ _; omega) | (change (_ : Nat) * 64 ≤ _; omega) | decide)); done)); (conv => lhs; whnf); (try simp (maxSteps := 2000000) (disch := omega) only [nI64, nU64, nU32, nU8, nSubL, nAddL, nAdd, nSub, nDiv, nMod, nZ, nLit, row_3, row_4, row_5, row_16, row_22, row_85, Ty.den, dflt_it, dflt_li, dflt_kv, Int.toNat_natCast, List.take_length, List.drop_zero]))
            exact hk0 (by rw [en, hg]; exact if_pos g5) _
          · have c5 := tst_f g5
            try simp (maxSteps := 2000000) (disch := omega) only [nI64, nU64, nU32, nU8, nSubL, nAddL, nAdd, nSub, nDiv, nMod, nZ, nLit, row_3, row_4, row_5, row_16, row_22, row_85, Ty.den, dflt_it, dflt_li, dflt_kv, Int.toNat_natCast, List.take_length, List.drop_zero, c5]
            conv => lhs; whnf
            try simp (maxSteps := 2000000) (disch := omega) only [nI64, nU64, nU32, nU8, nSubL, nAddL, nAdd, nSub, nDiv, nMod, nZ, nLit, row_3, row_4, row_5, row_16, row_22, row_85, Ty.den, dflt_it, dflt_li, dflt_kv, Int.toNat_natCast, List.take_length, List.drop_zero]
            repeat (refine br_go ?_ ?_; (focus (((repeat' first | exact rfl | exact ordB_st rfl | exact ordB_of rfl | apply band | apply tst_t | apply nt_t)  <;> (try dsimp only [Ty.den, dflt_kv]) <;> (try simp only [List.length_append, List.length_cons, List.length_nil, List.length_take, List.length_drop, List.length_replicate]) <;> (first | trivial | assumption | omega | (change (_ : Int) ≤ _; omega) | (change (_ : Int) < _; omega) | (change (_ : Nat) * 1 ≤ _; omega) | (change (_ : Nat) * 48 ≤ _; omega) | (change (_ : Nat) * 24 ≤ _; omega) | (change (_ : Nat) * 8 ≤ _; omega) | (change (_ : Nat) * 64 ≤ _; omega) | decide)); done)); (conv => lhs; whnf); (try simp (maxSteps := 2000000) (disch := omega) only [nI64, nU64, nU32, nU8, nSubL, nAddL, nAdd, nSub, nDiv, nMod, nZ, nLit, row_3, row_4, row_5, row_16, row_22, row_85, Ty.den, dflt_it, dflt_li, dflt_kv, Int.toNat_natCast, List.take_length, List.drop_zero]))
            try simp (maxSteps := 2000000) (disch := omega) only [nI64, nU64, nU32, nU8, nSubL, nAddL, nAdd, nSub, nDiv, nMod, nZ, nLit, row_3, row_4, row_5, row_16, row_22, row_85, Ty.den, dflt_it, dflt_li, dflt_kv, Int.toNat_natCast, List.take_length, List.drop_zero, Nat.zero_add]
            exact hk1 n _ _ (by omega) (by omega) (by rw [en, hg]; exact if_neg g5)
end Go.Proofs.YtbcfagackcnpkaaDoor.Ev
/- Logs: the program reads a record of a row that may be written to later, whatever goes into its calls of next. -/
namespace Go.Proofs.YtbcfagackcnpkaaDoor.Ev
open Go Go.RowKit
set_option linter.unusedVariables false
set_option linter.unusedSimpArgs false
set_option maxRecDepth 100000
set_option maxHeartbeats 16000000
noncomputable def recA : ASp := ⟨[i64], fun b x => tst (0 ≤ x.1) && tst (x.1 ≤ (List.length b : Int)) && tst (List.length b ≤ 1099511627776), fun b x => .tup [vB (recS b (Int.toNat x.1) false []).1, vI ((recS b (Int.toNat x.1) false []).2.1 : Nat), .d .bo (recS b (Int.toNat x.1) false []).2.2]⟩
abbrev recC2 : Ctx := ⟨rows, (fun | 0 => ([0, 1, 7, 8, 9], [4, 5, 6]) | 1 => ([], [0, 1, 7, 8, 9]) | 2 => ([], []) | 3 => ([], [0, 7, 8, 9, 10, 11]) | 4 => ([], [0, 7, 8, 9, 10, 11]) | 5 => ([], [7, 9, 11]) | 6 => ([], [7, 9, 11]) | _ => ([], []))⟩
/-- what a call of next comes to -/
def NextK (call : CallH V) (b : List Int) : Prop := ∀ (i : Nat) (o : List Int) (k : V → List Ent → Option V) (r : Option V), i ≤ b.length →
  (nextS b i = none → k pcFail (base7 b o []) = r) →
  (∀ n z c, z = n → i + 7 + n ≤ b.length → nextS b i = some (b.getD (i + 6) 0, cutS b (i + 7) (i + 7 + n), i + 7 + n) → k (pcYes (b.getD (i + 6) 0) i n z c) (base7 b o (ext1 (b.getD (i + 6) 0) i n z c)) = r) →
  (∀ A, A = i + room i → room i < 7 → ∀ n z c, z = n → A + 7 + n ≤ b.length → nextS b i = some (b.getD (A + 6) 0, cutS b (A + 7) (A + 7 + n), A + 7 + n) → k (pcYes (b.getD (A + 6) 0) A n z c) (base7 b o (ext2 (b.getD (A + 6) 0) A n z c)) = r) →
  call 31 [V.sr 0 0 0 (List.length b) 1 .unk, vI i] 4 (base7 b o []) k = r
theorem rec_gen (T : Tab) (call : CallH V) (F : Nat) (n1 : T 31 = none) (n2 : T 30 = none) (b : List Int) (m : Nat) (p2 : m ≤ b.length) (p3 : b.length ≤ 1099511627776) (hb : Bytes b) (hF : b.length + 20 ≤ F) (Hn : NextK call b) (Hc : ∀ args id S k, call 30 args id S k = inlH ctxOf (tabNo (tabNo T 30) 31) F fnOf 5 30 args id S k) :
    evFn recC2 T call F F24 [V.sr 0 0 0 (List.length b) 1 .unk, vI m] [Ent.rdo 0 by8 b] (fun v S => exportFW recC2 (F24).resultTypes.toList v S) = some (V.tup [vB (recS b m false []).1, vI ((recS b m false []).2.1 : Nat), .d .bo (recS b m false []).2.2]) := by
  rw [off_top n1, off_top n2]
  conv => lhs; whnf
  try simp (maxSteps := 2000000) (disch := omega) only [nI64, nU64, nU32, nU8, nSubL, nAddL, nAdd, nSub, nDiv, nMod, nZ, nLit, row_3, row_4, row_5, row_16, row_22, row_85, Ty.den, dflt_it, dflt_li, dflt_kv, Int.toNat_natCast, List.take_length, List.drop_zero]
  generalize hR : recS b m false [] = R
  refine loop_rule (α := Nat × Bool × List Int) (fun s => s.1 ≤ b.length ∧ s.2.2.length ≤ 4194304 ∧ recS b s.1 s.2.1 s.2.2 = R) (fun s => b.length - s.1)
    (fun s => (V.sr 0 0 0 b.length 1 .unk :: vI s.1 :: V.bad :: V.bad :: V.bad :: V.bad :: V.bad :: V.p 2 0 :: V.fn 30 [] [V.p 2 0] :: V.d .bo s.2.1 :: V.bad :: V.bad :: V.bad :: V.bad :: V.bad :: V.bad :: V.bad :: V.bad :: V.bad :: V.bad :: V.bad :: V.bad :: V.bad :: V.bad :: V.bad :: V.bad :: V.bad :: V.bad :: V.bad :: V.bad :: V.bad :: V.bad :: V.bad :: V.bad :: V.bad :: V.bad :: V.bad :: V.bad :: V.bad :: V.bad :: V.bad :: V.bad :: V.bad :: V.bad :: V.bad :: V.bad :: V.bad :: V.bad :: V.bad :: V.bad :: V.bad :: V.bad :: V.bad :: V.bad :: V.bad :: V.bad :: V.bad :: V.bad :: V.bad :: V.bad :: []))
    (fun s => [.rdo 0 by8 b, .fam 0, .obj [vO 3 s.2.2], .fam s.2.2.length])
    (fun s => some (V.tup [vB R.1, vI (R.2.1 : Nat), .d .bo R.2.2])) ?_ F (m, false, []) ⟨by show m ≤ b.length; omega, by simp, hR⟩ (by show b.length - m < F; omega)
  rintro ⟨i, g, o⟩ K ⟨k1, k2, k3⟩ hK
  simp only at k1 k2 k3 hK ⊢
  have hr := room_le i
  have fail : nextS b i = none → R = ([], 0, false) := fun h => by rw [← k3, recS_none h]
  conv => lhs; whnf
  try simp (maxSteps := 2000000) (disch := omega) only [nI64, nU64, nU32, nU8, nSubL, nAddL, nAdd, nSub, nDiv, nMod, nZ, nLit, row_3, row_4, row_5, row_16, row_22, row_85, Ty.den, dflt_it, dflt_li, dflt_kv, Int.toNat_natCast, List.take_length, List.drop_zero]
  refine Hn i o _ _ k1 (fun h => ?_) (fun n z c hz hle hx => ?_) (fun A hA h7 n z c hz hle hx => ?_)
  · conv => lhs; whnf
    try simp (maxSteps := 2000000) (disch := omega) only [nI64, nU64, nU32, nU8, nSubL, nAddL, nAdd, nSub, nDiv, nMod, nZ, nLit, row_3, row_4, row_5, row_16, row_22, row_85, Ty.den, dflt_it, dflt_li, dflt_kv, Int.toNat_natCast, List.take_length, List.drop_zero]
    repeat (refine br_go ?_ ?_; (focus (((repeat' first | exact rfl | exact ordB_st rfl | exact ordB_of rfl | apply band | apply tst_t | apply nt_t)  <;> (try dsimp only [Ty.den, dflt_kv]) <;> (try simp only [List.length_append, List.length_cons, List.length_nil, List.length_take, List.length_drop, List.length_replicate]) <;> (first | trivial | assumption | omega | (change (_ : Int) ≤ _; omega) | (change (_ : Int) < _; omega) | (change (_ : Nat) * 1 ≤ _; omega) | (change (_ : Nat) * 48 ≤ _; omega) | (change (_ : Nat) * 24 ≤ _; omega) | (change (_ : Nat) * 8 ≤ _; omega) | (change (_ : Nat) * 64 ≤ _; omega) | decide)); done)); (conv => lhs; whnf); (try simp (maxSteps := 2000000) (disch := omega) only [nI64, nU64, nU32, nU8, nSubL, nAddL, nAdd, nSub, nDiv, nMod, nZ, nLit, row_3, row_4, row_5, row_16, row_22, row_85, Ty.den, dflt_it, dflt_li, dflt_kv, Int.toNat_natCast, List.take_length, List.drop_zero]))
    rw [fail h]
    rfl
  · skip
    have hcd : List.take n (List.drop (i + 7) b) = cutS b (i + 7) (i + 7 + n) := by unfold cutS; rw [List.drop_take, Nat.add_sub_cancel_left]
    have ez : ((i : Int) + 7 + (n : Int)) = ((i + 7 + n : Nat) : Int) := by omega
    have hdl : (cutS b (i + 7) (i + 7 + n)).length = n := by unfold cutS; rw [List.length_drop, List.length_take]; omega
    have he2 : i + 7 + n ≤ b.length := by omega
    have hme : i < i + 7 + n := by omega
    have hkb : 0 ≤ b.getD (i + 6) 0 ∧ b.getD (i + 6) 0 < 256 := rd_bytes hb ((i + 6 : Nat) : Int)
    rw [recS_some hx] at k3
    have hz2 := hz.symm
    subst hz2
    conv => lhs; whnf
    try simp (maxSteps := 2000000) (disch := omega) only [nI64, nU64, nU32, nU8, nSubL, nAddL, nAdd, nSub, nDiv, nMod, nZ, nLit, row_3, row_4, row_5, row_16, row_22, row_85, Ty.den, dflt_it, dflt_li, dflt_kv, Int.toNat_natCast, List.take_length, List.drop_zero]
    repeat (refine br_go ?_ ?_; (focus (((repeat' first | exact rfl | exact ordB_st rfl | exact ordB_of rfl | apply band | apply tst_t | apply nt_t)  <;> (try dsimp only [Ty.den, dflt_kv]) <;> (try simp only [List.length_append, List.length_cons, List.length_nil, List.length_take, List.length_drop, List.length_replicate]) <;> (first | trivial | assumption | omega | (change (_ : Int) ≤ _; omega) | (change (_ : Int) < _; omega) | (change (_ : Nat) * 1 ≤ _; omega) | (change (_ : Nat) * 48 ≤ _; omega) | (change (_ : Nat) * 24 ≤ _; omega) | (change (_ : Nat) * 8 ≤ _; omega) | (change (_ : Nat) * 64 ≤ _; omega) | decide)); done)); (conv => lhs; whnf); (try simp (maxSteps := 2000000) (disch := omega) only [nI64, nU64, nU32, nU8, nSubL, nAddL, nAdd, nSub, nDiv, nMod, nZ, nLit, row_3, row_4, row_5, row_16, row_22, row_85, Ty.den, dflt_it, dflt_li, dflt_kv, Int.toNat_natCast, List.take_length, List.drop_zero]))
    rw [Hc]
    conv => lhs; whnf
    try simp (maxSteps := 2000000) (disch := omega) only [nI64, nU64, nU32, nU8, nSubL, nAddL, nAdd, nSub, nDiv, nMod, nZ, nLit, row_3, row_4, row_5, row_16, row_22, row_85, Ty.den, dflt_it, dflt_li, dflt_kv, Int.toNat_natCast, List.take_length, List.drop_zero]
    repeat (refine br_go ?_ ?_; (focus (((repeat' first | exact rfl | exact ordB_st rfl | exact ordB_of rfl | apply band | apply tst_t | apply nt_t)  <;> (try dsimp only [Ty.den, dflt_kv]) <;> (try simp only [List.length_append, List.length_cons, List.length_nil, List.length_take, List.length_drop, List.length_replicate]) <;> (first | trivial | assumption | omega | (change (_ : Int) ≤ _; omega) | (change (_ : Int) < _; omega) | (change (_ : Nat) * 1 ≤ _; omega) | (change (_ : Nat) * 48 ≤ _; omega) | (change (_ : Nat) * 24 ≤ _; omega) | (change (_ : Nat) * 8 ≤ _; omega) | (change (_ : Nat) * 64 ≤ _; omega) | decide)); done)); (conv => lhs; whnf); (try simp (maxSteps := 2000000) (disch := omega) only [nI64, nU64, nU32, nU8, nSubL, nAddL, nAdd, nSub, nDiv, nMod, nZ, nLit, row_3, row_4, row_5, row_16, row_22, row_85, Ty.den, dflt_it, dflt_li, dflt_kv, Int.toNat_natCast, List.take_length, List.drop_zero]))
    try simp (maxSteps := 2000000) (disch := omega) only [nI64, nU64, nU32, nU8, nSubL, nAddL, nAdd, nSub, nDiv, nMod, nZ, nLit, row_3, row_4, row_5, row_16, row_22, row_85, Ty.den, dflt_it, dflt_li, dflt_kv, Int.toNat_natCast, List.take_length, List.drop_zero, hcd, ez]
    repeat (refine br_go ?_ ?_; (focus (((repeat' first | exact rfl | exact ordB_st rfl | exact ordB_of rfl | apply band | apply tst_t | apply nt_t)  <;> (try dsimp only [Ty.den, dflt_kv]) <;> (try simp only [List.length_append, List.length_cons, List.length_nil, List.length_take, List.length_drop, List.length_replicate]) <;> (first | trivial | assumption | omega | (change (_ : Int) ≤ _; omega) | (change (_ : Int) < _; omega) | (change (_ : Nat) * 1 ≤ _; omega) | (change (_ : Nat) * 48 ≤ _; omega) | (change (_ : Nat) * 24 ≤ _; omega) | (change (_ : Nat) * 8 ≤ _; omega) | (change (_ : Nat) * 64 ≤ _; omega) | decide)); done)); (conv => lhs; whnf); (try simp (maxSteps := 2000000) (disch := omega) only [nI64, nU64, nU32, nU8, nSubL, nAddL, nAdd, nSub, nDiv, nMod, nZ, nLit, row_3, row_4, row_5, row_16, row_22, row_85, Ty.den, dflt_it, dflt_li, dflt_kv, Int.toNat_natCast, List.take_length, List.drop_zero]))
    try simp (maxSteps := 2000000) (disch := omega) only [nI64, nU64, nU32, nU8, nSubL, nAddL, nAdd, nSub, nDiv, nMod, nZ, nLit, row_3, row_4, row_5, row_16, row_22, row_85, Ty.den, dflt_it, dflt_li, dflt_kv, Int.toNat_natCast, List.take_length, List.drop_zero, hcd, ez]
    generalize b.getD (i + 6) 0 = k at *
    generalize cutS b (i + 7) (i + 7 + n) = d at *
    obtain ⟨e, hee⟩ : ∃ e, e = i + 7 + n := ⟨_, rfl⟩
    rw [← hee] at k3 he2 hme ⊢
    by_cases q1 : 4194304 < (o ++ d).length
    · rw [if_pos q1] at k3
      refine br_go (nt_t (by omega)) ?_
      conv => lhs; whnf
      try simp (maxSteps := 2000000) (disch := omega) only [nI64, nU64, nU32, nU8, nSubL, nAddL, nAdd, nSub, nDiv, nMod, nZ, nLit, row_3, row_4, row_5, row_16, row_22, row_85, Ty.den, dflt_it, dflt_li, dflt_kv, Int.toNat_natCast, List.take_length, List.drop_zero]
      repeat (refine br_go ?_ ?_; (focus (((repeat' first | exact rfl | exact ordB_st rfl | exact ordB_of rfl | apply band | apply tst_t | apply nt_t)  <;> (try dsimp only [Ty.den, dflt_kv]) <;> (try simp only [List.length_append, List.length_cons, List.length_nil, List.length_take, List.length_drop, List.length_replicate]) <;> (first | trivial | assumption | omega | (change (_ : Int) ≤ _; omega) | (change (_ : Int) < _; omega) | (change (_ : Nat) * 1 ≤ _; omega) | (change (_ : Nat) * 48 ≤ _; omega) | (change (_ : Nat) * 24 ≤ _; omega) | (change (_ : Nat) * 8 ≤ _; omega) | (change (_ : Nat) * 64 ≤ _; omega) | decide)); done)); (conv => lhs; whnf); (try simp (maxSteps := 2000000) (disch := omega) only [nI64, nU64, nU32, nU8, nSubL, nAddL, nAdd, nSub, nDiv, nMod, nZ, nLit, row_3, row_4, row_5, row_16, row_22, row_85, Ty.den, dflt_it, dflt_li, dflt_kv, Int.toNat_natCast, List.take_length, List.drop_zero]))
      rw [← k3]
      rfl
    · rw [if_neg q1] at k3
      refine br_no (nt_f (by omega)) ?_
      conv => lhs; whnf
      try simp (maxSteps := 2000000) (disch := omega) only [nI64, nU64, nU32, nU8, nSubL, nAddL, nAdd, nSub, nDiv, nMod, nZ, nLit, row_3, row_4, row_5, row_16, row_22, row_85, Ty.den, dflt_it, dflt_li, dflt_kv, Int.toNat_natCast, List.take_length, List.drop_zero]
      by_cases q2 : k = 2
      · rw [if_pos q2] at k3
        refine br_go (tst_t (q2)) ?_
        conv => lhs; whnf
        try simp (maxSteps := 2000000) (disch := omega) only [nI64, nU64, nU32, nU8, nSubL, nAddL, nAdd, nSub, nDiv, nMod, nZ, nLit, row_3, row_4, row_5, row_16, row_22, row_85, Ty.den, dflt_it, dflt_li, dflt_kv, Int.toNat_natCast, List.take_length, List.drop_zero]
        cases g with
        | true =>
          rw [if_pos (.inl rfl)] at k3
          conv => lhs; whnf
          try simp (maxSteps := 2000000) (disch := omega) only [nI64, nU64, nU32, nU8, nSubL, nAddL, nAdd, nSub, nDiv, nMod, nZ, nLit, row_3, row_4, row_5, row_16, row_22, row_85, Ty.den, dflt_it, dflt_li, dflt_kv, Int.toNat_natCast, List.take_length, List.drop_zero]
          repeat (refine br_go ?_ ?_; (focus (((repeat' first | exact rfl | exact ordB_st rfl | exact ordB_of rfl | apply band | apply tst_t | apply nt_t)  <;> (try dsimp only [Ty.den, dflt_kv]) <;> (try simp only [List.length_append, List.length_cons, List.length_nil, List.length_take, List.length_drop, List.length_replicate]) <;> (first | trivial | assumption | omega | (change (_ : Int) ≤ _; omega) | (change (_ : Int) < _; omega) | (change (_ : Nat) * 1 ≤ _; omega) | (change (_ : Nat) * 48 ≤ _; omega) | (change (_ : Nat) * 24 ≤ _; omega) | (change (_ : Nat) * 8 ≤ _; omega) | (change (_ : Nat) * 64 ≤ _; omega) | decide)); done)); (conv => lhs; whnf); (try simp (maxSteps := 2000000) (disch := omega) only [nI64, nU64, nU32, nU8, nSubL, nAddL, nAdd, nSub, nDiv, nMod, nZ, nLit, row_3, row_4, row_5, row_16, row_22, row_85, Ty.den, dflt_it, dflt_li, dflt_kv, Int.toNat_natCast, List.take_length, List.drop_zero]))
          rw [← k3]
          rfl
        | false =>
          conv => lhs; whnf
          try simp (maxSteps := 2000000) (disch := omega) only [nI64, nU64, nU32, nU8, nSubL, nAddL, nAdd, nSub, nDiv, nMod, nZ, nLit, row_3, row_4, row_5, row_16, row_22, row_85, Ty.den, dflt_it, dflt_li, dflt_kv, Int.toNat_natCast, List.take_length, List.drop_zero]
          by_cases q3 : e % 64 = 0
          · rw [if_neg (by intro h; rcases h with h | h; cases h; exact h q3)] at k3
            refine br_no (nt_f (by omega)) ?_
            conv => lhs; whnf
            try simp (maxSteps := 2000000) (disch := omega) only [nI64, nU64, nU32, nU8, nSubL, nAddL, nAdd, nSub, nDiv, nMod, nZ, nLit, row_3, row_4, row_5, row_16, row_22, row_85, Ty.den, dflt_it, dflt_li, dflt_kv, Int.toNat_natCast, List.take_length, List.drop_zero]
            repeat (refine br_go ?_ ?_; (focus (((repeat' first | exact rfl | exact ordB_st rfl | exact ordB_of rfl | apply band | apply tst_t | apply nt_t)  <;> (try dsimp only [Ty.den, dflt_kv]) <;> (try simp only [List.length_append, List.length_cons, List.length_nil, List.length_take, List.length_drop, List.length_replicate]) <;> (first | trivial | assumption | omega | (change (_ : Int) ≤ _; omega) | (change (_ : Int) < _; omega) | (change (_ : Nat) * 1 ≤ _; omega) | (change (_ : Nat) * 48 ≤ _; omega) | (change (_ : Nat) * 24 ≤ _; omega) | (change (_ : Nat) * 8 ≤ _; omega) | (change (_ : Nat) * 64 ≤ _; omega) | decide)); done)); (conv => lhs; whnf); (try simp (maxSteps := 2000000) (disch := omega) only [nI64, nU64, nU32, nU8, nSubL, nAddL, nAdd, nSub, nDiv, nMod, nZ, nLit, row_3, row_4, row_5, row_16, row_22, row_85, Ty.den, dflt_it, dflt_li, dflt_kv, Int.toNat_natCast, List.take_length, List.drop_zero]))
            exact hK (e, true, o ++ d) ⟨he2, by show (o ++ d).length ≤ 4194304; omega, k3⟩ (by show b.length - e < b.length - i; omega)
          · rw [if_pos (.inr q3)] at k3
            refine br_go (nt_t (by omega)) ?_
            conv => lhs; whnf
            try simp (maxSteps := 2000000) (disch := omega) only [nI64, nU64, nU32, nU8, nSubL, nAddL, nAdd, nSub, nDiv, nMod, nZ, nLit, row_3, row_4, row_5, row_16, row_22, row_85, Ty.den, dflt_it, dflt_li, dflt_kv, Int.toNat_natCast, List.take_length, List.drop_zero]
            repeat (refine br_go ?_ ?_; (focus (((repeat' first | exact rfl | exact ordB_st rfl | exact ordB_of rfl | apply band | apply tst_t | apply nt_t)  <;> (try dsimp only [Ty.den, dflt_kv]) <;> (try simp only [List.length_append, List.length_cons, List.length_nil, List.length_take, List.length_drop, List.length_replicate]) <;> (first | trivial | assumption | omega | (change (_ : Int) ≤ _; omega) | (change (_ : Int) < _; omega) | (change (_ : Nat) * 1 ≤ _; omega) | (change (_ : Nat) * 48 ≤ _; omega) | (change (_ : Nat) * 24 ≤ _; omega) | (change (_ : Nat) * 8 ≤ _; omega) | (change (_ : Nat) * 64 ≤ _; omega) | decide)); done)); (conv => lhs; whnf); (try simp (maxSteps := 2000000) (disch := omega) only [nI64, nU64, nU32, nU8, nSubL, nAddL, nAdd, nSub, nDiv, nMod, nZ, nLit, row_3, row_4, row_5, row_16, row_22, row_85, Ty.den, dflt_it, dflt_li, dflt_kv, Int.toNat_natCast, List.take_length, List.drop_zero]))
            rw [← k3]
            rfl
      · rw [if_neg q2] at k3
        refine br_no (tst_f (q2)) ?_
        conv => lhs; whnf
        try simp (maxSteps := 2000000) (disch := omega) only [nI64, nU64, nU32, nU8, nSubL, nAddL, nAdd, nSub, nDiv, nMod, nZ, nLit, row_3, row_4, row_5, row_16, row_22, row_85, Ty.den, dflt_it, dflt_li, dflt_kv, Int.toNat_natCast, List.take_length, List.drop_zero]
        by_cases q3 : k = 3
        · rw [if_pos q3] at k3
          refine br_go (tst_t (q3)) ?_
          conv => lhs; whnf
          try simp (maxSteps := 2000000) (disch := omega) only [nI64, nU64, nU32, nU8, nSubL, nAddL, nAdd, nSub, nDiv, nMod, nZ, nLit, row_3, row_4, row_5, row_16, row_22, row_85, Ty.den, dflt_it, dflt_li, dflt_kv, Int.toNat_natCast, List.take_length, List.drop_zero]
          cases g with
          | false =>
            rw [if_pos (.inl rfl)] at k3
            conv => lhs; whnf
            try simp (maxSteps := 2000000) (disch := omega) only [nI64, nU64, nU32, nU8, nSubL, nAddL, nAdd, nSub, nDiv, nMod, nZ, nLit, row_3, row_4, row_5, row_16, row_22, row_85, Ty.den, dflt_it, dflt_li, dflt_kv, Int.toNat_natCast, List.take_length, List.drop_zero]
            repeat (refine br_go ?_ ?_; (focus (((repeat' first | exact rfl | exact ordB_st rfl | exact ordB_of rfl | apply band | apply tst_t | apply nt_t)  <;> (try dsimp only [Ty.den, dflt_kv]) <;> (try simp only [List.length_append, List.length_cons, List.length_nil, List.length_take, List.length_drop, List.length_replicate]) <;> (first | trivial | assumption | omega | (change (_ : Int) ≤ _; omega) | (change (_ : Int) < _; omega) | (change (_ : Nat) * 1 ≤ _; omega) | (change (_ : Nat) * 48 ≤ _; omega) | (change (_ : Nat) * 24 ≤ _; omega) | (change (_ : Nat) * 8 ≤ _; omega) | (change (_ : Nat) * 64 ≤ _; omega) | decide)); done)); (conv => lhs; whnf); (try simp (maxSteps := 2000000) (disch := omega) only [nI64, nU64, nU32, nU8, nSubL, nAddL, nAdd, nSub, nDiv, nMod, nZ, nLit, row_3, row_4, row_5, row_16, row_22, row_85, Ty.den, dflt_it, dflt_li, dflt_kv, Int.toNat_natCast, List.take_length, List.drop_zero]))
            rw [← k3]
            rfl
          | true =>
            conv => lhs; whnf
            try simp (maxSteps := 2000000) (disch := omega) only [nI64, nU64, nU32, nU8, nSubL, nAddL, nAdd, nSub, nDiv, nMod, nZ, nLit, row_3, row_4, row_5, row_16, row_22, row_85, Ty.den, dflt_it, dflt_li, dflt_kv, Int.toNat_natCast, List.take_length, List.drop_zero]
            by_cases q4 : e % 64 = 0
            · rw [if_neg (by intro h; rcases h with h | h; cases h; exact h q4)] at k3
              refine br_no (nt_f (by omega)) ?_
              conv => lhs; whnf
              try simp (maxSteps := 2000000) (disch := omega) only [nI64, nU64, nU32, nU8, nSubL, nAddL, nAdd, nSub, nDiv, nMod, nZ, nLit, row_3, row_4, row_5, row_16, row_22, row_85, Ty.den, dflt_it, dflt_li, dflt_kv, Int.toNat_natCast, List.take_length, List.drop_zero]
              repeat (refine br_go ?_ ?_; (focus (((repeat' first | exact rfl | exact ordB_st rfl | exact ordB_of rfl | apply band | apply tst_t | apply nt_t)  <;> (try dsimp only [Ty.den, dflt_kv]) <;> (try simp only [List.length_append, List.length_cons, List.length_nil, List.length_take, List.length_drop, List.length_replicate]) <;> (first | trivial | assumption | omega | (change (_ : Int) ≤ _; omega) | (change (_ : Int) < _; omega) | (change (_ : Nat) * 1 ≤ _; omega) | (change (_ : Nat) * 48 ≤ _; omega) | (change (_ : Nat) * 24 ≤ _; omega) | (change (_ : Nat) * 8 ≤ _; omega) | (change (_ : Nat) * 64 ≤ _; omega) | decide)); done)); (conv => lhs; whnf); (try simp (maxSteps := 2000000) (disch := omega) only [nI64, nU64, nU32, nU8, nSubL, nAddL, nAdd, nSub, nDiv, nMod, nZ, nLit, row_3, row_4, row_5, row_16, row_22, row_85, Ty.den, dflt_it, dflt_li, dflt_kv, Int.toNat_natCast, List.take_length, List.drop_zero]))
              exact hK (e, true, o ++ d) ⟨he2, by show (o ++ d).length ≤ 4194304; omega, k3⟩ (by show b.length - e < b.length - i; omega)
            · rw [if_pos (.inr q4)] at k3
              refine br_go (nt_t (by omega)) ?_
              conv => lhs; whnf
              try simp (maxSteps := 2000000) (disch := omega) only [nI64, nU64, nU32, nU8, nSubL, nAddL, nAdd, nSub, nDiv, nMod, nZ, nLit, row_3, row_4, row_5, row_16, row_22, row_85, Ty.den, dflt_it, dflt_li, dflt_kv, Int.toNat_natCast, List.take_length, List.drop_zero]
              repeat (refine br_go ?_ ?_; (focus (((repeat' first | exact rfl | exact ordB_st rfl | exact ordB_of rfl | apply band | apply tst_t | apply nt_t)  <;> (try dsimp only [Ty.den, dflt_kv]) <;> (try simp only [List.length_append, List.length_cons, List.length_nil, List.length_take, List.length_drop, List.length_replicate]) <;> (first | trivial | assumption | omega | (change (_ : Int) ≤ _; omega) | (change (_ : Int) < _; omega) | (change (_ : Nat) * 1 ≤ _; omega) | (change (_ : Nat) * 48 ≤ _; omega) | (change (_ : Nat) * 24 ≤ _; omega) | (change (_ : Nat) * 8 ≤ _; omega) | (change (_ : Nat) * 64 ≤ _; omega) | decide)); done)); (conv => lhs; whnf); (try simp (maxSteps := 2000000) (disch := omega) only [nI64, nU64, nU32, nU8, nSubL, nAddL, nAdd, nSub, nDiv, nMod, nZ, nLit, row_3, row_4, row_5, row_16, row_22, row_85, Ty.den, dflt_it, dflt_li, dflt_kv, Int.toNat_natCast, List.take_length, List.drop_zero]))
              rw [← k3]
              rfl
        · rw [if_neg q3] at k3
          refine br_no (tst_f (q3)) ?_
          conv => lhs; whnf
          try simp (maxSteps := 2000000) (disch := omega) only [nI64, nU64, nU32, nU8, nSubL, nAddL, nAdd, nSub, nDiv, nMod, nZ, nLit, row_3, row_4, row_5, row_16, row_22, row_85, Ty.den, dflt_it, dflt_li, dflt_kv, Int.toNat_natCast, List.take_length, List.drop_zero]
          by_cases q4 : k = 1
          · rw [if_pos q4] at k3
            refine br_go (tst_t (q4)) ?_
            conv => lhs; whnf
            try simp (maxSteps := 2000000) (disch := omega) only [nI64, nU64, nU32, nU8, nSubL, nAddL, nAdd, nSub, nDiv, nMod, nZ, nLit, row_3, row_4, row_5, row_16, row_22, row_85, Ty.den, dflt_it, dflt_li, dflt_kv, Int.toNat_natCast, List.take_length, List.drop_zero]
            repeat (refine br_go ?_ ?_; (focus (((repeat' first | exact rfl | exact ordB_st rfl | exact ordB_of rfl | apply band | apply tst_t | apply nt_t)  <;> (try dsimp only [Ty.den, dflt_kv]) <;> (try simp only [List.length_append, List.length_cons, List.length_nil, List.length_take, List.length_drop, List.length_replicate]) <;> (first | trivial | assumption | omega | (change (_ : Int) ≤ _; omega) | (change (_ : Int) < _; omega) | (change (_ : Nat) * 1 ≤ _; omega) | (change (_ : Nat) * 48 ≤ _; omega) | (change (_ : Nat) * 24 ≤ _; omega) | (change (_ : Nat) * 8 ≤ _; omega) | (change (_ : Nat) * 64 ≤ _; omega) | decide)); done)); (conv => lhs; whnf); (try simp (maxSteps := 2000000) (disch := omega) only [nI64, nU64, nU32, nU8, nSubL, nAddL, nAdd, nSub, nDiv, nMod, nZ, nLit, row_3, row_4, row_5, row_16, row_22, row_85, Ty.den, dflt_it, dflt_li, dflt_kv, Int.toNat_natCast, List.take_length, List.drop_zero]))
            rw [← k3]
          · rw [if_neg q4] at k3
            refine br_no (tst_f (q4)) ?_
            conv => lhs; whnf
            try simp (maxSteps := 2000000) (disch := omega) only [nI64, nU64, nU32, nU8, nSubL, nAddL, nAdd, nSub, nDiv, nMod, nZ, nLit, row_3, row_4, row_5, row_16, row_22, row_85, Ty.den, dflt_it, dflt_li, dflt_kv, Int.toNat_natCast, List.take_length, List.drop_zero]
            by_cases q5 : k = 4
            · rw [if_pos q5] at k3
              refine br_go (tst_t (q5)) ?_
              conv => lhs; whnf
              try simp (maxSteps := 2000000) (disch := omega) only [nI64, nU64, nU32, nU8, nSubL, nAddL, nAdd, nSub, nDiv, nMod, nZ, nLit, row_3, row_4, row_5, row_16, row_22, row_85, Ty.den, dflt_it, dflt_li, dflt_kv, Int.toNat_natCast, List.take_length, List.drop_zero]
              repeat (refine br_go ?_ ?_; (focus (((repeat' first | exact rfl | exact ordB_st rfl | exact ordB_of rfl | apply band | apply tst_t | apply nt_t)  <;> (try dsimp only [Ty.den, dflt_kv]) <;> (try simp only [List.length_append, List.length_cons, List.length_nil, List.length_take, List.length_drop, List.length_replicate]) <;> (first | trivial | assumption | omega | (change (_ : Int) ≤ _; omega) | (change (_ : Int) < _; omega) | (change (_ : Nat) * 1 ≤ _; omega) | (change (_ : Nat) * 48 ≤ _; omega) | (change (_ : Nat) * 24 ≤ _; omega) | (change (_ : Nat) * 8 ≤ _; omega) | (change (_ : Nat) * 64 ≤ _; omega) | decide)); done)); (conv => lhs; whnf); (try simp (maxSteps := 2000000) (disch := omega) only [nI64, nU64, nU32, nU8, nSubL, nAddL, nAdd, nSub, nDiv, nMod, nZ, nLit, row_3, row_4, row_5, row_16, row_22, row_85, Ty.den, dflt_it, dflt_li, dflt_kv, Int.toNat_natCast, List.take_length, List.drop_zero]))
              rw [← k3]
            · rw [if_neg q5] at k3
              refine br_no (tst_f (q5)) ?_
              conv => lhs; whnf
              try simp (maxSteps := 2000000) (disch := omega) only [nI64, nU64, nU32, nU8, nSubL, nAddL, nAdd, nSub, nDiv, nMod, nZ, nLit, row_3, row_4, row_5, row_16, row_22, row_85, Ty.den, dflt_it, dflt_li, dflt_kv, Int.toNat_natCast, List.take_length, List.drop_zero]
              repeat (refine br_go ?_ ?_; (focus (((repeat' first | exact rfl | exact ordB_st rfl | exact ordB_of rfl | apply band | apply tst_t | apply nt_t)  <;> (try dsimp only [Ty.den, dflt_kv]) <;> (try simp only [List.length_append, List.length_cons, List.length_nil, List.length_take, List.length_drop, List.length_replicate]) <;> (first | trivial | assumption | omega | (change (_ : Int) ≤ _; omega) | (change (_ : Int) < _; omega) | (change (_ : Nat) * 1 ≤ _; omega) | (change (_ : Nat) * 48 ≤ _; omega) | (change (_ : Nat) * 24 ≤ _; omega) | (change (_ : Nat) * 8 ≤ _; omega) | (change (_ : Nat) * 64 ≤ _; omega) | decide)); done)); (conv => lhs; whnf); (try simp (maxSteps := 2000000) (disch := omega) only [nI64, nU64, nU32, nU8, nSubL, nAddL, nAdd, nSub, nDiv, nMod, nZ, nLit, row_3, row_4, row_5, row_16, row_22, row_85, Ty.den, dflt_it, dflt_li, dflt_kv, Int.toNat_natCast, List.take_length, List.drop_zero]))
              rw [← k3]
              rfl
  · skip
    have hcd : List.take n (List.drop (A + 7) b) = cutS b (A + 7) (A + 7 + n) := by unfold cutS; rw [List.drop_take, Nat.add_sub_cancel_left]
    have ez : ((A : Int) + 7 + (n : Int)) = ((A + 7 + n : Nat) : Int) := by omega
    have hdl : (cutS b (A + 7) (A + 7 + n)).length = n := by unfold cutS; rw [List.length_drop, List.length_take]; omega
    have he2 : A + 7 + n ≤ b.length := by omega
    have hme : i < A + 7 + n := by omega
    have hkb : 0 ≤ b.getD (A + 6) 0 ∧ b.getD (A + 6) 0 < 256 := rd_bytes hb ((A + 6 : Nat) : Int)
    rw [recS_some hx] at k3
    have hz2 := hz.symm
    subst hz2
    conv => lhs; whnf
    try simp (maxSteps := 2000000) (disch := omega) only [nI64, nU64, nU32, nU8, nSubL, nAddL, nAdd, nSub, nDiv, nMod, nZ, nLit, row_3, row_4, row_5, row_16, row_22, row_85, Ty.den, dflt_it, dflt_li, dflt_kv, Int.toNat_natCast, List.take_length, List.drop_zero]
    repeat (refine br_go ?_ ?_; (focus (((repeat' first | exact rfl | exact ordB_st rfl | exact ordB_of rfl | apply band | apply tst_t | apply nt_t)  <;> (try dsimp only [Ty.den, dflt_kv]) <;> (try simp only [List.length_append, List.length_cons, List.length_nil, List.length_take, List.length_drop, List.length_replicate]) <;> (first | trivial | assumption | omega | (change (_ : Int) ≤ _; omega) | (change (_ : Int) < _; omega) | (change (_ : Nat) * 1 ≤ _; omega) | (change (_ : Nat) * 48 ≤ _; omega) | (change (_ : Nat) * 24 ≤ _; omega) | (change (_ : Nat) * 8 ≤ _; omega) | (change (_ : Nat) * 64 ≤ _; omega) | decide)); done)); (conv => lhs; whnf); (try simp (maxSteps := 2000000) (disch := omega) only [nI64, nU64, nU32, nU8, nSubL, nAddL, nAdd, nSub, nDiv, nMod, nZ, nLit, row_3, row_4, row_5, row_16, row_22, row_85, Ty.den, dflt_it, dflt_li, dflt_kv, Int.toNat_natCast, List.take_length, List.drop_zero]))
    rw [Hc]
    conv => lhs; whnf
    try simp (maxSteps := 2000000) (disch := omega) only [nI64, nU64, nU32, nU8, nSubL, nAddL, nAdd, nSub, nDiv, nMod, nZ, nLit, row_3, row_4, row_5, row_16, row_22, row_85, Ty.den, dflt_it, dflt_li, dflt_kv, Int.toNat_natCast, List.take_length, List.drop_zero]
    repeat (refine br_go ?_ ?_; (focus (((repeat' first | exact rfl | exact ordB_st rfl | exact ordB_of rfl | apply band | apply tst_t | apply nt_t)  <;> (try dsimp only [Ty.den, dflt_kv]) <;> (try simp only [List.length_append, List.length_cons, List.length_nil, List.length_take, List.length_drop, List.length_replicate]) <;> (first | trivial | assumption | omega | (change (_ : Int) ≤ _; omega) | (change (_ : Int) < _; omega) | (change (_ : Nat) * 1 ≤ _; omega) | (change (_ : Nat) * 48 ≤ _; omega) | (change (_ : Nat) * 24 ≤ _; omega) | (change (_ : Nat) * 8 ≤ _; omega) | (change (_ : Nat) * 64 ≤ _; omega) | decide)); done)); (conv => lhs; whnf); (try simp (maxSteps := 2000000) (disch := omega) only [nI64, nU64, nU32, nU8, nSubL, nAddL, nAdd, nSub, nDiv, nMod, nZ, nLit, row_3, row_4, row_5, row_16, row_22, row_85, Ty.den, dflt_it, dflt_li, dflt_kv, Int.toNat_natCast, List.take_length, List.drop_zero]))
    try simp (maxSteps := 2000000) (disch := omega) only [nI64, nU64, nU32, nU8, nSubL, nAddL, nAdd, nSub, nDiv, nMod, nZ, nLit, row_3, row_4, row_5, row_16, row_22, row_85, Ty.den, dflt_it, dflt_li, dflt_kv, Int.toNat_natCast, List.take_length, List.drop_zero, hcd, ez]
    repeat (refine br_go ?_ ?_; (focus (((repeat' first | exact rfl | exact ordB_st rfl | exact ordB_of rfl | apply band | apply tst_t | apply nt_t)  <;> (try dsimp only [Ty.den, dflt_kv]) <;> (try simp only [List.length_append, List.length_cons, List.length_nil, List.length_take, List.length_drop, List.length_replicate]) <;> (first | trivial | assumption | omega | (change (_ : Int) ≤ _; omega) | (change (_ : Int) < _; omega) | (change (_ : Nat) * 1 ≤ _; omega) | (change (_ : Nat) * 48 ≤ _; omega) | (change (_ : Nat) * 24 ≤ _; omega) | (change (_ : Nat) * 8 ≤ _; omega) | (change (_ : Nat) * 64 ≤ _; omega) | decide)); done)); (conv => lhs; whnf); (try simp (maxSteps := 2000000) (disch := omega) only [nI64, nU64, nU32, nU8, nSubL, nAddL, nAdd, nSub, nDiv, nMod, nZ, nLit, row_3, row_4, row_5, row_16, row_22, row_85, Ty.den, dflt_it, dflt_li, dflt_kv, Int.toNat_natCast, List.take_length, List.drop_zero]))
    try simp (maxSteps := 2000000) (disch := omega) only [nI64, nU64, nU32, nU8, nSubL, nAddL, nAdd, nSub, nDiv, nMod, nZ, nLit, row_3, row_4, row_5, row_16, row_22, row_85, Ty.den, dflt_it, dflt_li, dflt_kv, Int.toNat_natCast, List.take_length, List.drop_zero, hcd, ez]
    generalize b.getD (A + 6) 0 = k at *
    generalize cutS b (A + 7) (A + 7 + n) = d at *
    obtain ⟨e, hee⟩ : ∃ e, e = A + 7 + n := ⟨_, rfl⟩
    rw [← hee] at k3 he2 hme ⊢
    by_cases q1 : 4194304 < (o ++ d).length
    · rw [if_pos q1] at k3
      refine br_go (nt_t (by omega)) ?_
      conv => lhs; whnf
      try simp (maxSteps := 2000000) (disch := omega) only [nI64, nU64, nU32, nU8, nSubL, nAddL, nAdd, nSub, nDiv, nMod, nZ, nLit, row_3, row_4, row_5, row_16, row_22, row_85, Ty.den, dflt_it, dflt_li, dflt_kv, Int.toNat_natCast, List.take_length, List.drop_zero]
      repeat (refine br_go ?_ ?_; (focus (((repeat' first | exact rfl | exact ordB_st rfl | exact ordB_of rfl | apply band | apply tst_t | apply nt_t)  <;> (try dsimp only [Ty.den, dflt_kv]) <;> (try simp only [List.length_append, List.length_cons, List.length_nil, List.length_take, List.length_drop, List.length_replicate]) <;> (first | trivial | assumption | omega | (change (_ : Int) ≤ _; omega) | (change (_ : Int) < _; omega) | (change (_ : Nat) * 1 ≤ _; omega) | (change (_ : Nat) * 48 ≤ _; omega) | (change (_ : Nat) * 24 ≤ _; omega) | (change (_ : Nat) * 8 ≤ _; omega) | (change (_ : Nat) * 64 ≤ _; omega) | decide)); done)); (conv => lhs; whnf); (try simp (maxSteps := 2000000) (disch := omega) only [nI64, nU64, nU32, nU8, nSubL, nAddL, nAdd, nSub, nDiv, nMod, nZ, nLit, row_3, row_4, row_5, row_16, row_22, row_85, Ty.den, dflt_it, dflt_li, dflt_kv, Int.toNat_natCast, List.take_length, List.drop_zero]))
      rw [← k3]
      rfl
    · rw [if_neg q1] at k3
      refine br_no (nt_f (by omega)) ?_
      conv => lhs; whnf
      try simp (maxSteps := 2000000) (disch := omega) only [nI64, nU64, nU32, nU8, nSubL, nAddL, nAdd, nSub, nDiv, nMod, nZ, nLit, row_3, row_4, row_5, row_16, row_22, row_85, Ty.den, dflt_it, dflt_li, dflt_kv, Int.toNat_natCast, List.take_length, List.drop_zero]
      by_cases q2 : k = 2
      · rw [if_pos q2] at k3
        refine br_go (tst_t (q2)) ?_
        conv => lhs; whnf
        try simp (maxSteps := 2000000) (disch := omega) only [nI64, nU64, nU32, nU8, nSubL, nAddL, nAdd, nSub, nDiv, nMod, nZ, nLit, row_3, row_4, row_5, row_16, row_22, row_85, Ty.den, dflt_it, dflt_li, dflt_kv, Int.toNat_natCast, List.take_length, List.drop_zero]
        cases g with
        | true =>
          rw [if_pos (.inl rfl)] at k3
          conv => lhs; whnf
          try simp (maxSteps := 2000000) (disch := omega) only [nI64, nU64, nU32, nU8, nSubL, nAddL, nAdd, nSub, nDiv, nMod, nZ, nLit, row_3, row_4, row_5, row_16, row_22, row_85, Ty.den, dflt_it, dflt_li, dflt_kv, Int.toNat_natCast, List.take_length, List.drop_zero]
          repeat (refine br_go ?_ ?_; (focus (((repeat' first | exact rfl | exact ordB_st rfl | exact ordB_of rfl | apply band | apply tst_t | apply nt_t)  <;> (try dsimp only [Ty.den, dflt_kv]) <;> (try simp only [List.length_append, List.length_cons, List.length_nil, List.length_take, List.length_drop, List.length_replicate]) <;> (first | trivial | assumption | omega | (change (_ : Int) ≤ _; omega) | (change (_ : Int) < _; omega) | (change (_ : Nat) * 1 ≤ _; omega) | (change (_ : Nat) * 48 ≤ _; omega) | (change (_ : Nat) * 24 ≤ _; omega) | (change (_ : Nat) * 8 ≤ _; omega) | (change (_ : Nat) * 64 ≤ _; omega) | decide)); done)); (conv => lhs; whnf); (try simp (maxSteps := 2000000) (disch := omega) only [nI64, nU64, nU32, nU8, nSubL, nAddL, nAdd, nSub, nDiv, nMod, nZ, nLit, row_3, row_4, row_5, row_16, row_22, row_85, Ty.den, dflt_it, dflt_li, dflt_kv, Int.toNat_natCast, List.take_length, List.drop_zero]))
          rw [← k3]
          rfl
        | false =>
          conv => lhs; whnf
          try simp (maxSteps := 2000000) (disch := omega) only [nI64, nU64, nU32, nU8, nSubL, nAddL, nAdd, nSub, nDiv, nMod, nZ, nLit, row_3, row_4, row_5, row_16, row_22, row_85, Ty.den, dflt_it, dflt_li, dflt_kv, Int.toNat_natCast, List.take_length, List.drop_zero]
          by_cases q3 : e % 64 = 0
          · rw [if_neg (by intro h; rcases h with h | h; cases h; exact h q3)] at k3
            refine br_no (nt_f (by omega)) ?_
            conv => lhs; whnf
            try simp (maxSteps := 2000000) (disch := omega) only [nI64, nU64, nU32, nU8, nSubL, nAddL, nAdd, nSub, nDiv, nMod, nZ, nLit, row_3, row_4, row_5, row_16, row_22, row_85, Ty.den, dflt_it, dflt_li, dflt_kv, Int.toNat_natCast, List.take_length, List.drop_zero]
            repeat (refine br_go ?_ ?_; (focus (((repeat' first | exact rfl | exact ordB_st rfl | exact ordB_of rfl | apply band | apply tst_t | apply nt_t)  <;> (try dsimp only [Ty.den, dflt_kv]) <;> (try simp only [List.length_append, List.length_cons, List.length_nil, List.length_take, List.length_drop, List.length_replicate]) <;> (first | trivial | assumption | omega | (change (_ : Int) ≤ _; omega) | (change (_ : Int) < _; omega) | (change (_ : Nat) * 1 ≤ _; omega) | (change (_ : Nat) * 48 ≤ _; omega) | (change (_ : Nat) * 24 ≤ _; omega) | (change (_ : Nat) * 8 ≤ _; omega) | (change (_ : Nat) * 64 ≤ _; omega) | decide)); done)); (conv => lhs; whnf); (try simp (maxSteps := 2000000) (disch := omega) only [nI64, nU64, nU32, nU8, nSubL, nAddL, nAdd, nSub, nDiv, nMod, nZ, nLit, row_3, row_4, row_5, row_16, row_22, row_85, Ty.den, dflt_it, dflt_li, dflt_kv, Int.toNat_natCast, List.take_length, List.drop_zero]))
            exact hK (e, true, o ++ d) ⟨he2, by show (o ++ d).length ≤ 4194304; omega, k3⟩ (by show b.length - e < b.length - i; omega)
          · rw [if_pos (.inr q3)] at k3
            refine br_go (nt_t (by omega)) ?_
            conv => lhs; whnf
            try simp (maxSteps := 2000000) (disch := omega) only [nI64, nU64, nU32, nU8, nSubL, nAddL, nAdd, nSub, nDiv, nMod, nZ, nLit, row_3, row_4, row_5, row_16, row_22, row_85, Ty.den, dflt_it, dflt_li, dflt_kv, Int.toNat_natCast, List.take_length, List.drop_zero]
            repeat (refine br_go ?_ ?_; (focus (((repeat' first | exact rfl | exact ordB_st rfl | exact ordB_of rfl | apply band | apply tst_t | apply nt_t)  <;> (try dsimp only [Ty.den, dflt_kv]) <;> (try simp only [List.length_append, List.length_cons, List.length_nil, List.length_take, List.length_drop, List.length_replicate]) <;> (first | trivial | assumption | omega | (change (_ : Int) ≤ _; omega) | (change (_ : Int) < _; omega) | (change (_ : Nat) * 1 ≤ _; omega) | (change (_ : Nat) * 48 ≤ _; omega) | (change (_ : Nat) * 24 ≤ _; omega) | (change (_ : Nat) * 8 ≤ _; omega) | (change (_ : Nat) * 64 ≤ _; omega) | decide)); done)); (conv => lhs; whnf); (try simp (maxSteps := 2000000) (disch := omega) only [nI64, nU64, nU32, nU8, nSubL, nAddL, nAdd, nSub, nDiv, nMod, nZ, nLit, row_3, row_4, row_5, row_16, row_22, row_85, Ty.den, dflt_it, dflt_li, dflt_kv, Int.toNat_natCast, List.take_length, List.drop_zero]))
            rw [← k3]
            rfl
      · rw [if_neg q2] at k3
        refine br_no (tst_f (q2)) ?_
        conv => lhs; whnf
        try simp (maxSteps := 2000000) (disch := omega) only [nI64, nU64, nU32, nU8, nSubL, nAddL, nAdd, nSub, nDiv, nMod, nZ, nLit, row_3, row_4, row_5, row_16, row_22, row_85, Ty.den, dflt_it, dflt_li, dflt_kv, Int.toNat_natCast, List.take_length, List.drop_zero]
        by_cases q3 : k = 3
        · rw [if_pos q3] at k3
          refine br_go (tst_t (q3)) ?_
          conv => lhs; whnf
          try simp (maxSteps := 2000000) (disch := omega) only [nI64, nU64, nU32, nU8, nSubL, nAddL, nAdd, nSub, nDiv, nMod, nZ, nLit, row_3, row_4, row_5, row_16, row_22, row_85, Ty.den, dflt_it, dflt_li, dflt_kv, Int.toNat_natCast, List.take_length, List.drop_zero]
          cases g with
          | false =>
            rw [if_pos (.inl rfl)] at k3
            conv => lhs; whnf
            try simp (maxSteps := 2000000) (disch := omega) only [nI64, nU64, nU32, nU8, nSubL, nAddL, nAdd, nSub, nDiv, nMod, nZ, nLit, row_3, row_4, row_5, row_16, row_22, row_85, Ty.den, dflt_it, dflt_li, dflt_kv, Int.toNat_natCast, List.take_length, List.drop_zero]
            repeat (refine br_go ?_ ?_; (focus (((repeat' first | exact rfl | exact ordB_st rfl | exact ordB_of rfl | apply band | apply tst_t | apply nt_t)  <;> (try dsimp only [Ty.den, dflt_kv]) <;> (try simp only [List.length_append, List.length_cons, List.length_nil, List.length_take, List.length_drop, List.length_replicate]) <;> (first | trivial | assumption | omega | (change (_ : Int) ≤ _; omega) | (change (_ : Int) < _; omega) | (change (_ : Nat) * 1 ≤ _; omega) | (change (_ : Nat) * 48 ≤ _; omega) | (change (_ : Nat) * 24 ≤ _; omega) | (change (_ : Nat) * 8 ≤ _; omega) | (change (_ : Nat) * 64 ≤ _; omega) | decide)); done)); (conv => lhs; whnf); (try simp (maxSteps := 2000000) (disch := omega) only [nI64, nU64, nU32, nU8, nSubL, nAddL, nAdd, nSub, nDiv, nMod, nZ, nLit, row_3, row_4, row_5, row_16, row_22, row_85, Ty.den, dflt_it, dflt_li, dflt_kv, Int.toNat_natCast, List.take_length, List.drop_zero]))
            rw [← k3]
            rfl
          | true =>
            conv => lhs; whnf
            try simp (maxSteps := 2000000) (disch := omega) only [nI64, nU64, nU32, nU8, nSubL, nAddL, nAdd, nSub, nDiv, nMod, nZ, nLit, row_3, row_4, row_5, row_16, row_22, row_85, Ty.den, dflt_it, dflt_li, dflt_kv, Int.toNat_natCast, List.take_length, List.drop_zero]
            by_cases q4 : e % 64 = 0
            · rw [if_neg (by intro h; rcases h with h | h; cases h; exact h q4)] at k3
              refine br_no (nt_f (by omega)) ?_
              conv => lhs; whnf
              try simp (maxSteps := 2000000) (disch := omega) only [nI64, nU64, nU32, nU8, nSubL, nAddL, nAdd, nSub, nDiv, nMod, nZ, nLit, row_3, row_4, row_5, row_16, row_22, row_85, Ty.den, dflt_it, dflt_li, dflt_kv, Int.toNat_natCast, List.take_length, List.drop_zero]
              repeat (refine br_go ?_ ?_; (focus (((repeat' first | exact rfl | exact ordB_st rfl | exact ordB_of rfl | apply band | apply tst_t | apply nt_t)  <;> (try dsimp only [Ty.den, dflt_kv]) <;> (try simp only [List.length_append, List.length_cons, List.length_nil, List.length_take, List.length_drop, List.length_replicate]) <;> (first | trivial | assumption | omega | (change (_ : Int) ≤ _; omega) | (change (_ : Int) < _; omega) | (change (_ : Nat) * 1 ≤ _; omega) | (change (_ : Nat) * 48 ≤ _; omega) | (change (_ : Nat) * 24 ≤ _; omega) | (change (_ : Nat) * 8 ≤ _; omega) | (change (_ : Nat) * 64 ≤ _; omega) | decide)); done)); (conv => lhs; whnf); (try simp (maxSteps := 2000000) (disch := omega) only [nI64, nU64, nU32, nU8, nSubL, nAddL, nAdd, nSub, nDiv, nMod, nZ, nLit, row_3, row_4, row_5, row_16, row_22, row_85, Ty.den, dflt_it, dflt_li, dflt_kv, Int.toNat_natCast, List.take_length, List.drop_zero]))
              exact hK (e, true, o ++ d) ⟨he2, by show (o ++ d).length ≤ 4194304; omega, k3⟩ (by show b.length - e < b.length - i; omega)
            · rw [if_pos (.inr q4)] at k3
              refine br_go (nt_t (by omega)) ?_
              conv => lhs; whnf
              try simp (maxSteps := 2000000) (disch := omega) only [nI64, nU64, nU32, nU8, nSubL, nAddL, nAdd, nSub, nDiv, nMod, nZ, nLit, row_3, row_4, row_5, row_16, row_22, row_85, Ty.den, dflt_it, dflt_li, dflt_kv, Int.toNat_natCast, List.take_length, List.drop_zero]
              repeat (refine br_go ?_ ?_; (focus (((repeat' first | exact rfl | exact ordB_st rfl | exact ordB_of rfl | apply band | apply tst_t | apply nt_t)  <;> (try dsimp only [Ty.den, dflt_kv]) <;> (try simp only [List.length_append, List.length_cons, List.length_nil, List.length_take, List.length_drop, List.length_replicate]) <;> (first | trivial | assumption | omega | (change (_ : Int) ≤ _; omega) | (change (_ : Int) < _; omega) | (change (_ : Nat) * 1 ≤ _; omega) | (change (_ : Nat) * 48 ≤ _; omega) | (change (_ : Nat) * 24 ≤ _; omega) | (change (_ : Nat) * 8 ≤ _; omega) | (change (_ : Nat) * 64 ≤ _; omega) | decide)); done)); (conv => lhs; whnf); (try simp (maxSteps := 2000000) (disch := omega) only [nI64, nU64, nU32, nU8, nSubL, nAddL, nAdd, nSub, nDiv, nMod, nZ, nLit, row_3, row_4, row_5, row_16, row_22, row_85, Ty.den, dflt_it, dflt_li, dflt_kv, Int.toNat_natCast, List.take_length, List.drop_zero]))
              rw [← k3]
              rfl
        · rw [if_neg q3] at k3
          refine br_no (tst_f (q3)) ?_
          conv => lhs; whnf
          try simp (maxSteps := 2000000) (disch := omega) only [nI64, nU64, nU32, nU8, nSubL, nAddL, nAdd, nSub, nDiv, nMod, nZ, nLit, row_3, row_4, row_5, row_16, row_22, row_85, Ty.den, dflt_it, dflt_li, dflt_kv, Int.toNat_natCast, List.take_length, List.drop_zero]
          by_cases q4 : k = 1
          · rw [if_pos q4] at k3
            refine br_go (tst_t (q4)) ?_
            conv => lhs; whnf
            try simp (maxSteps := 2000000) (disch := omega) only [nI64, nU64, nU32, nU8, nSubL, nAddL, nAdd, nSub, nDiv, nMod, nZ, nLit, row_3, row_4, row_5, row_16, row_22, row_85, Ty.den, dflt_it, dflt_li, dflt_kv, Int.toNat_natCast, List.take_length, List.drop_zero]
            repeat (refine br_go ?_ ?_; (focus (((repeat' first | exact rfl | exact ordB_st rfl | exact ordB_of rfl | apply band | apply tst_t | apply nt_t)  <;> (try dsimp only [Ty.den, dflt_kv]) <;> (try simp only [List.length_append, List.length_cons, List.length_nil, List.length_take, List.length_drop, List.length_replicate]) <;> (first | trivial | assumption | omega | (change (_ : Int) ≤ _; omega) | (change (_ : Int) < _; omega) | (change (_ : Nat) * 1 ≤ _; omega) | (change (_ : Nat) * 48 ≤ _; omega) | (change (_ : Nat) * 24 ≤ _; omega) | (change (_ : Nat) * 8 ≤ _; omega) | (change (_ : Nat) * 64 ≤ _; omega) | decide)); done)); (conv => lhs; whnf); (try simp (maxSteps := 2000000) (disch := omega) only [nI64, nU64, nU32, nU8, nSubL, nAddL, nAdd, nSub, nDiv, nMod, nZ, nLit, row_3, row_4, row_5, row_16, row_22, row_85, Ty.den, dflt_it, dflt_li, dflt_kv, Int.toNat_natCast, List.take_length, List.drop_zero]))
            rw [← k3]
          · rw [if_neg q4] at k3
            refine br_no (tst_f (q4)) ?_
            conv => lhs; whnf
            try simp (maxSteps := 2000000) (disch := omega) only [nI64, nU64, nU32, nU8, nSubL, nAddL, nAdd, nSub, nDiv, nMod, nZ, nLit, row_3, row_4, row_5, row_16, row_22, row_85, Ty.den, dflt_it, dflt_li, dflt_kv, Int.toNat_natCast, List.take_length, List.drop_zero]
            by_cases q5 : k = 4
            · rw [if_pos q5] at k3
              refine br_go (tst_t (q5)) ?_
              conv => lhs; whnf
              try simp (maxSteps := 2000000) (disch := omega) only [nI64, nU64, nU32, nU8, nSubL, nAddL, nAdd, nSub, nDiv, nMod, nZ, nLit, row_3, row_4, row_5, row_16, row_22, row_85, Ty.den, dflt_it, dflt_li, dflt_kv, Int.toNat_natCast, List.take_length, List.drop_zero]
              repeat (refine br_go ?_ ?_; (focus (((repeat' first | exact rfl | exact ordB_st rfl | exact ordB_of rfl | apply band | apply tst_t | apply nt_t)  <;> (try dsimp only [Ty.den, dflt_kv]) <;> (try simp only [List.length_append, List.length_cons, List.length_nil, List.length_take, List.length_drop, List.length_replicate]) <;> (first | trivial | assumption | omega | (change (_ : Int) ≤ _; omega) | (change (_ : Int) < _; omega) | (change (_ : Nat) * 1 ≤ _; omega) | (change (_ : Nat) * 48 ≤ _; omega) | (change (_ : Nat) * 24 ≤ _; omega) | (change (_ : Nat) * 8 ≤ _; omega) | (change (_ : Nat) * 64 ≤ _; omega) | decide)); done)); (conv => lhs; whnf); (try simp (maxSteps := 2000000) (disch := omega) only [nI64, nU64, nU32, nU8, nSubL, nAddL, nAdd, nSub, nDiv, nMod, nZ, nLit, row_3, row_4, row_5, row_16, row_22, row_85, Ty.den, dflt_it, dflt_li, dflt_kv, Int.toNat_natCast, List.take_length, List.drop_zero]))
              rw [← k3]
            · rw [if_neg q5] at k3
              refine br_no (tst_f (q5)) ?_
              conv => lhs; whnf
              try simp (maxSteps := 2000000) (disch := omega) only [nI64, nU64, nU32, nU8, nSubL, nAddL, nAdd, nSub, nDiv, nMod, nZ, nLit, row_3, row_4, row_5, row_16, row_22, row_85, Ty.den, dflt_it, dflt_li, dflt_kv, Int.toNat_natCast, List.take_length, List.drop_zero]
              repeat (refine br_go ?_ ?_; (focus (((repeat' first | exact rfl | exact ordB_st rfl | exact ordB_of rfl | apply band | apply tst_t | apply nt_t)  <;> (try dsimp only [Ty.den, dflt_kv]) <;> (try simp only [List.length_append, List.length_cons, List.length_nil, List.length_take, List.length_drop, List.length_replicate]) <;> (first | trivial | assumption | omega | (change (_ : Int) ≤ _; omega) | (change (_ : Int) < _; omega) | (change (_ : Nat) * 1 ≤ _; omega) | (change (_ : Nat) * 48 ≤ _; omega) | (change (_ : Nat) * 24 ≤ _; omega) | (change (_ : Nat) * 8 ≤ _; omega) | (change (_ : Nat) * 64 ≤ _; omega) | decide)); done)); (conv => lhs; whnf); (try simp (maxSteps := 2000000) (disch := omega) only [nI64, nU64, nU32, nU8, nSubL, nAddL, nAdd, nSub, nDiv, nMod, nZ, nLit, row_3, row_4, row_5, row_16, row_22, row_85, Ty.den, dflt_it, dflt_li, dflt_kv, Int.toNat_natCast, List.take_length, List.drop_zero]))
              rw [← k3]
              rfl
end Go.Proofs.YtbcfagackcnpkaaDoor.Ev
/- Logs: the program reads all records of a row that may be written to later: what it tells lies apart. -/
namespace Go.Proofs.YtbcfagackcnpkaaDoor.Ev
open Go Go.RowKit
set_option linter.unusedVariables false
set_option linter.unusedSimpArgs false
set_option maxRecDepth 100000
set_option maxHeartbeats 8000000
/-- what stands behind a call that was gone into -/
def wrapI (n : Nat) (v : V) (S' : List Ent) (k : V → List Ent → Option V) : Option V :=
  match notBad v with
  | true => (match rowR v with
    | false => forceV (finV n v) fun v => truncK n S' fun S => k v S
    | true => forceV v fun v => k v S')
  | false => none
theorem inl_eq (C : FuncId → Ctx) (tab : Tab) (fuel : Nat) (fns : FuncId → Option Func) (d : Nat) (g : FuncId) (fn : Func) (hg : fns g = some fn) (args : List V) (id : Nat) (S : List Ent) (k : V → List Ent → Option V) (n : Nat) (hn : 0 + S.length = n) :
    inlH C tab fuel fns (d + 1) g args id S k = evFn (C g) tab (inlH C tab fuel fns d) fuel fn args S (fun v S' => wrapI n v S' k) := by
  subst hn
  show (match fns g with | some fn => lenK S 0 fun n => evFn (C g) tab (inlH C tab fuel fns d) fuel fn args S (fun v S' => wrapI n v S' k) | none => none) = _
  rw [hg]
  show (lenK S 0 fun n => evFn (C g) tab (inlH C tab fuel fns d) fuel fn args S (fun v S' => wrapI n v S' k)) = _
  rw [lenK_eq]
theorem callA_eq (T : Tab) (F d : Nat) (g : FuncId) (args : List V) (id : Nat) (S : List Ent) (k : V → List Ent → Option V) : callA A0 T F d g args id S k = inlH ctxOf T F fnOf d g args id S k := rfl
theorem wrap_fail (b o : List Int) (ext : List Ent) (k : V → List Ent → Option V) : wrapI 7 pcFail (base7 b o ext) k = k pcFail (base7 b o []) := rfl
theorem wrap_yes (kk : Int) (A n z : Nat) (c : SCap) (S : List Ent) (k : V → List Ent → Option V) : wrapI 7 (pcYes kk A n z c) S k = k (pcYes kk A n z c) S := rfl
theorem wrap_own (b o : List Int) (ext : List Ent) (k : V → List Ent → Option V) : wrapI 14 (.own 16 by8 []) (bs b o ext) k = k (.d byl ([] : List Int)) (s14 b o) := rfl
theorem wrap_d (b o : List Int) (ext : List Ent) (k : V → List Ent → Option V) : wrapI 14 (.d byl ([] : List Int)) (bs b o ext) k = k (.d byl ([] : List Int)) (s14 b o) := rfl
theorem wrap_sr (a n : Nat) (c : SCap) (S : List Ent) (k : V → List Ent → Option V) : wrapI 14 (.sr 0 0 a n 1 c) S k = k (.sr 0 0 a n 1 c) S := rfl
theorem fn_next : fnOf 31 = some F31 := by kernel_rfl
theorem fn_trim : fnOf 37 = some F37 := by kernel_rfl
theorem nextK_ok (T : Tab) (F : Nat) (h1 : T 26 = roomSp.ent) (h2 : T 38 = unfixed4Sp.ent) (h3 : T 35 = sumSp.ent) (n3 : T 37 = none) (n4 : T 42 = none) (n5 : T 41 = none) (b : List Int) (p3 : b.length ≤ 1099511627776) (hb : Bytes b) (hF : 100 ≤ F) : NextK (callA A0 T F 5) b := by
  intro i o k r p2 hk0 hk1 hk2
  have hr := room_le i
  rw [callA_eq, inl_eq ctxOf T F fnOf 4 31 _ fn_next _ 4 _ k 7 rfl]
  refine next_gen T _ F h1 h2 h3 n3 b i p2 p3 hb o _ r (fun E hE => ?_) (fun h ext => ?_) (fun n z c hz hle hx => ?_) (fun A hA h7 n z c hz hle hx => ?_)
  · intro c id k' hz hnz
    rw [inl_eq ctxOf T F fnOf 3 37 _ fn_trim _ id _ k' 14 rfl]
    refine trim_gen T F 2 n4 n5 b i (E - i) (by omega) (by omega) hF p3 o _ r c (fun h ext => ?_) (fun h ext => ?_) (fun j hj hne a n c hn => ?_)
    · rw [wrap_own]; exact hz (fun j hj => absurd hj (by omega))
    · rw [wrap_d]; exact hz h
    · rw [wrap_sr]; exact hnz j hj hne a n c hn
  · rw [wrap_fail]; exact hk0 h
  · rw [wrap_yes]; exact hk1 n z c hz hle hx
  · rw [wrap_yes]; exact hk2 A hA h7 n z c hz hle hx
theorem recA_ok (T : Tab) (h1 : T 26 = roomSp.ent) (h2 : T 38 = unfixed4Sp.ent) (h3 : T 35 = sumSp.ent) (n1 : T 31 = none) (n2 : T 30 = none) (n3 : T 37 = none) (n4 : T 42 = none) (n5 : T 41 = none) : recA.OkW A0 T recC2 F24 := by
  rintro b ⟨(a : Int), _⟩ hfb hf hp
  have hp : (0 ≤ a ∧ a ≤ (b.length : Int)) ∧ b.length ≤ 1099511627776 := by simpa only [recA, Bool.and_eq_true, tst_iff] using hp
  obtain ⟨⟨p1, p2⟩, p3⟩ := hp
  obtain ⟨m, rfl⟩ : ∃ m : Nat, a = m := ⟨a.toNat, by omega⟩
  have hb : Bytes b := bytes_of hfb
  refine ⟨b.length + 100, 5, ?_⟩
  refine rec_gen T (callA A0 T (b.length + 100) 5) (b.length + 100) n1 n2 b m (by omega) p3 hb (by omega) (nextK_ok T _ h1 h2 h3 n3 n4 n5 b p3 hb (by omega)) ?_
  intro args id S k
  have e : tabNo (tabNo T 30) 31 = T := by rw [← off_top n2, ← off_top n1]
  rw [e]
  rfl
noncomputable def readA : ASp := ⟨[], fun b _ => tst (List.length b ≤ 1099511627776), fun b _ => .tup [.own 0 byl (readS b 0).1, vI ((readS b 0).2 : Nat)]⟩
abbrev readC2 : Ctx := ⟨rows, (fun | 0 => ([0, 4, 5], [2, 3]) | 1 => ([], [0, 4, 5]) | _ => ([], []))⟩
theorem readA_ok (A : ATab) (T : Tab) (h0 : A 24 = some recA.ent) (n1 : T 24 = none) : readA.Ok A T readC2 F11 := by
  rw [a_on_top h0, off_top n1]
  rintro b _ hfb hf hp
  have p3 : b.length ≤ 1099511627776 := tst_iff.1 hp
  obtain ⟨F, hF⟩ : ∃ F : Nat, F = b.length + 5 := ⟨_, rfl⟩
  refine ⟨F, 1, ?_⟩
  show evFn _ _ _ _ _ [V.sr 0 0 0 (List.length b) 1 .unk] [Ent.rdo 0 by8 b] _ = some (V.tup [.own 0 byl (readS b 0).1, vI ((readS b 0).2 : Nat)])
  conv => lhs; whnf
  try simp (maxSteps := 2000000) (disch := omega) only [nI64, nU64, nU32, nU8, nSubL, nAddL, nAdd, nSub, nDiv, nMod, nZ, nLit, row_3, row_4, row_5, row_16, row_22, row_85, Ty.den, dflt_it, dflt_li, dflt_kv, Int.toNat_natCast, List.take_length, List.drop_zero]
  generalize hR : readS b 0 = R
  refine loop_rule (α := Nat × List (List Int)) (fun s => s.1 ≤ b.length ∧ s.2.length ≤ s.1 ∧ (s.2 ++ (readS b s.1).1, (readS b s.1).2) = R) (fun s => b.length - s.1)
    (fun s => (V.sr 0 0 0 b.length 1 .unk :: V.bad :: V.bad :: V.bad :: V.own 2 byl s.2 :: vI s.1 :: V.bad :: V.bad :: V.bad :: V.bad :: V.bad :: V.bad :: V.bad :: V.bad :: V.bad :: V.bad :: V.bad :: V.bad :: V.bad :: V.bad :: V.bad :: V.bad :: V.bad :: V.bad :: V.bad :: []))
    (fun s => [.rdo 0 by8 b, .fam 0, .fam s.2.length])
    (fun s => some (V.tup [.own 0 byl R.1, vI (R.2 : Nat)])) ?_ F (0, []) ⟨Nat.zero_le _, Nat.le_refl _, hR⟩ (by show b.length - 0 < F; omega)
  rintro ⟨i, o⟩ K ⟨k1, k2, k3⟩ hK
  simp only at k1 k2 k3 hK ⊢
  conv => lhs; whnf
  try simp (maxSteps := 2000000) (disch := omega) only [nI64, nU64, nU32, nU8, nSubL, nAddL, nAdd, nSub, nDiv, nMod, nZ, nLit, row_3, row_4, row_5, row_16, row_22, row_85, Ty.den, dflt_it, dflt_li, dflt_kv, Int.toNat_natCast, List.take_length, List.drop_zero]
  repeat (refine br_go ?_ ?_; (focus (((repeat' first | exact rfl | exact ordB_st rfl | exact ordB_of rfl | apply band | apply tst_t | apply nt_t)  <;> (try dsimp only [Ty.den, dflt_kv]) <;> (try simp only [List.length_append, List.length_cons, List.length_nil, List.length_take, List.length_drop, List.length_replicate]) <;> (first | trivial | assumption | omega | (change (_ : Int) ≤ _; omega) | (change (_ : Int) < _; omega) | (change (_ : Nat) * 1 ≤ _; omega) | (change (_ : Nat) * 48 ≤ _; omega) | (change (_ : Nat) * 24 ≤ _; omega) | (change (_ : Nat) * 8 ≤ _; omega) | (change (_ : Nat) * 64 ≤ _; omega) | decide)); done)); (conv => lhs; whnf); (try simp (maxSteps := 2000000) (disch := omega) only [nI64, nU64, nU32, nU8, nSubL, nAddL, nAdd, nSub, nDiv, nMod, nZ, nLit, row_3, row_4, row_5, row_16, row_22, row_85, Ty.den, dflt_it, dflt_li, dflt_kv, Int.toNat_natCast, List.take_length, List.drop_zero]))
  cases hx : (recS b i false []).2.2 with
  | false =>
    rw [readS_no' hx, List.append_nil] at k3
    try simp (maxSteps := 2000000) (disch := omega) only [nI64, nU64, nU32, nU8, nSubL, nAddL, nAdd, nSub, nDiv, nMod, nZ, nLit, row_3, row_4, row_5, row_16, row_22, row_85, Ty.den, dflt_it, dflt_li, dflt_kv, Int.toNat_natCast, List.take_length, List.drop_zero, hx]
    conv => lhs; whnf
    try simp (maxSteps := 2000000) (disch := omega) only [nI64, nU64, nU32, nU8, nSubL, nAddL, nAdd, nSub, nDiv, nMod, nZ, nLit, row_3, row_4, row_5, row_16, row_22, row_85, Ty.den, dflt_it, dflt_li, dflt_kv, Int.toNat_natCast, List.take_length, List.drop_zero]
    repeat (refine br_go ?_ ?_; (focus (((repeat' first | exact rfl | exact ordB_st rfl | exact ordB_of rfl | apply band | apply tst_t | apply nt_t)  <;> (try dsimp only [Ty.den, dflt_kv]) <;> (try simp only [List.length_append, List.length_cons, List.length_nil, List.length_take, List.length_drop, List.length_replicate]) <;> (first | trivial | assumption | omega | (change (_ : Int) ≤ _; omega) | (change (_ : Int) < _; omega) | (change (_ : Nat) * 1 ≤ _; omega) | (change (_ : Nat) * 48 ≤ _; omega) | (change (_ : Nat) * 24 ≤ _; omega) | (change (_ : Nat) * 8 ≤ _; omega) | (change (_ : Nat) * 64 ≤ _; omega) | decide)); done)); (conv => lhs; whnf); (try simp (maxSteps := 2000000) (disch := omega) only [nI64, nU64, nU32, nU8, nSubL, nAddL, nAdd, nSub, nDiv, nMod, nZ, nLit, row_3, row_4, row_5, row_16, row_22, row_85, Ty.den, dflt_it, dflt_li, dflt_kv, Int.toNat_natCast, List.take_length, List.drop_zero]))
    rw [← k3]
  | true =>
    rw [readS_yes' hx] at k3
    have he := recS_end b _ i false [] (Nat.le_refl _) hx
    try simp (maxSteps := 2000000) (disch := omega) only [nI64, nU64, nU32, nU8, nSubL, nAddL, nAdd, nSub, nDiv, nMod, nZ, nLit, row_3, row_4, row_5, row_16, row_22, row_85, Ty.den, dflt_it, dflt_li, dflt_kv, Int.toNat_natCast, List.take_length, List.drop_zero, hx]
    conv => lhs; whnf
    try simp (maxSteps := 2000000) (disch := omega) only [nI64, nU64, nU32, nU8, nSubL, nAddL, nAdd, nSub, nDiv, nMod, nZ, nLit, row_3, row_4, row_5, row_16, row_22, row_85, Ty.den, dflt_it, dflt_li, dflt_kv, Int.toNat_natCast, List.take_length, List.drop_zero]
    repeat (refine br_go ?_ ?_; (focus (((repeat' first | exact rfl | exact ordB_st rfl | exact ordB_of rfl | apply band | apply tst_t | apply nt_t)  <;> (try dsimp only [Ty.den, dflt_kv]) <;> (try simp only [List.length_append, List.length_cons, List.length_nil, List.length_take, List.length_drop, List.length_replicate]) <;> (first | trivial | assumption | omega | (change (_ : Int) ≤ _; omega) | (change (_ : Int) < _; omega) | (change (_ : Nat) * 1 ≤ _; omega) | (change (_ : Nat) * 48 ≤ _; omega) | (change (_ : Nat) * 24 ≤ _; omega) | (change (_ : Nat) * 8 ≤ _; omega) | (change (_ : Nat) * 64 ≤ _; omega) | decide)); done)); (conv => lhs; whnf); (try simp (maxSteps := 2000000) (disch := omega) only [nI64, nU64, nU32, nU8, nSubL, nAddL, nAdd, nSub, nDiv, nMod, nZ, nLit, row_3, row_4, row_5, row_16, row_22, row_85, Ty.den, dflt_it, dflt_li, dflt_kv, Int.toNat_natCast, List.take_length, List.drop_zero]))
    exact hK ((recS b i false []).2.1, o ++ [(recS b i false []).1]) ⟨he.2, by show (o ++ [_]).length ≤ _; rw [List.length_append]; simp; omega, by rw [← k3, List.append_assoc]; rfl⟩ (by show b.length - _ < b.length - i; omega)
end Go.Proofs.YtbcfagackcnpkaaDoor.Ev
/- Logs: what is laid down is read again; torn records are refused. -/
namespace Go.Proofs.YtbcfagackcnpkaaDoor.Ev
open Go Go.RowKit
set_option linter.unusedVariables false
set_option linter.unusedSimpArgs false
set_option maxRecDepth 100000
set_option maxHeartbeats 1000000
theorem cutS_seg {b p m q : List Int} {i j : Nat} (h : b = p ++ (m ++ q)) (hi : i = p.length) (hj : j = i + m.length) : cutS b i j = m := by
  subst h hi hj
  unfold cutS
  rw [← List.append_assoc, List.take_left' (by rw [List.length_append]), List.drop_left' rfl]
theorem getD_seg {b p q : List Int} {x : Int} {i : Nat} (h : b = p ++ (x :: q)) (hi : i = p.length) : b.getD i 0 = x := by
  subst h hi
  rw [List.getD_eq_getElem?_getD, List.getElem?_append_right (Nat.le_refl _), Nat.sub_self]
  rfl
theorem headS_frag {b p q : List Int} {k : Int} {d : List Int} {a : Nat} (h : b = p ++ (fragS k d ++ q)) (ha : a = p.length) (h7 : ¬ room a < 7) (hd : d.length ≤ room a - 7) : headS b a = some (k, d, a + 7 + d.length) := by
  have hr := room_le a
  have hbl : b.length = a + (7 + d.length) + q.length := by rw [h, List.length_append, List.length_append, fragS_len, ha]; omega
  have e1 : b = (p ++ fixedL (sumS (k :: d)) 4) ++ (((d.length % 256 : Nat) : Int) :: (((d.length / 256 % 256 : Nat) : Int) :: k :: (d ++ q))) := by
    rw [h]; unfold fragS; simp only [List.append_assoc, List.cons_append, List.nil_append]
  have e2 : b = (p ++ fixedL (sumS (k :: d)) 4 ++ [((d.length % 256 : Nat) : Int)]) ++ (((d.length / 256 % 256 : Nat) : Int) :: (k :: (d ++ q))) := by
    rw [e1]; simp only [List.append_assoc, List.cons_append, List.nil_append]
  have e3 : b = (p ++ fixedL (sumS (k :: d)) 4 ++ [((d.length % 256 : Nat) : Int), ((d.length / 256 % 256 : Nat) : Int)]) ++ (k :: (d ++ q)) := by
    rw [e1]; simp only [List.append_assoc, List.cons_append, List.nil_append]
  have e4 : b = (p ++ fixedL (sumS (k :: d)) 4 ++ [((d.length % 256 : Nat) : Int), ((d.length / 256 % 256 : Nat) : Int), k]) ++ (d ++ q) := by
    rw [e1]; simp only [List.append_assoc, List.cons_append, List.nil_append]
  have g4 := getD_seg e1 (i := a + 4) (by rw [List.length_append, fixedL_length, ha])
  have g5 := getD_seg e2 (i := a + 5) (by rw [List.length_append, List.length_append, fixedL_length, ha]; rfl)
  have g6 := getD_seg e3 (i := a + 6) (by rw [List.length_append, List.length_append, fixedL_length, ha]; rfl)
  have hn : (b.getD (a + 4) 0 + 256 * b.getD (a + 5) 0).toNat = d.length := by rw [g4, g5]; omega
  have c1 : cutS b a (a + 4) = fixedL (sumS (k :: d)) 4 := cutS_seg (p := p) (m := fixedL (sumS (k :: d)) 4) (by rw [h]; unfold fragS; rw [List.append_assoc]) ha (by rw [fixedL_length])
  have c2 : cutS b (a + 6) (a + 7 + d.length) = k :: d := cutS_seg (m := k :: d) e3 (by rw [List.length_append, List.length_append, fixedL_length, ha]; rfl) (by rw [List.length_cons]; omega)
  have c3 : cutS b (a + 7) (a + 7 + d.length) = d := cutS_seg (m := d) e4 (by rw [List.length_append, List.length_append, fixedL_length, ha]; rfl) rfl
  have hs := sumS_lt (k :: d)
  unfold headS
  rw [if_neg (by omega)]
  simp only
  rw [hn, if_neg (by omega), c1, c2, leVal_fixedL hs.1, if_neg (by
    intro hx
    apply hx
    rw [show ((256 ^ 4 : Nat) : Int) = 4294967296 by decide]
    omega), g6, c3]
theorem nextS_frag {b p q : List Int} {k : Int} {d : List Int} {a : Nat} (h : b = p ++ (fragS k d ++ q)) (ha : a = p.length) (h7 : ¬ room a < 7) (hd : d.length ≤ room a - 7) : nextS b a = some (k, d, a + 7 + d.length) := by
  unfold nextS
  rw [if_neg h7, headS_frag h ha h7 hd]
theorem room_next {a : Nat} : room (a + room a) = 64 := by unfold room; omega
theorem nextS_pad {b : List Int} {a : Nat} (h7 : room a < 7) (hz : (cutS b a (a + room a)).all (· == 0) = true) : nextS b a = nextS b (a + room a) := by
  have h1 : ¬ room (a + room a) < 7 := by rw [room_next]; decide
  unfold nextS
  rw [if_pos h7, if_pos hz, if_neg h1]
theorem recS_congr {b : List Int} {a c : Nat} (h : nextS b a = nextS b c) (g : Bool) (out : List Int) : recS b a g out = recS b c g out := by
  cases hx : nextS b c with
  | none => rw [recS_none hx, recS_none (h.trans hx)]
  | some x => obtain ⟨k, d, e⟩ := x; rw [recS_some hx, recS_some (h.trans hx)]
theorem zeros_all (n : Nat) : (List.replicate n (0 : Int)).all (· == 0) = true := by
  rw [List.all_eq_true]; intro x hx; rw [List.eq_of_mem_replicate hx]; rfl
theorem end_mod {a n : Nat} (h7 : ¬ room a < 7) (hn : n = room a - 7) : (a + 7 + n) % 64 = 0 := by unfold room at *; omega
theorem recS_app (b q : List Int) (a : Nat) (bg : Bool) (l : List Int) : ∀ (p : List Int) (g : Bool) (out : List Int), b = p ++ (appA a bg l ++ q) → a = p.length → bg = !g → (out ++ l).length ≤ 4194304 → recS b a g out = (out ++ l, a + (appA a bg l).length, true) := by
  induction a, bg, l using appA_ind with
  | h1 a bg l h7 ih =>
    intro p g out hb ha hg hl
    rw [appA_pad bg l h7] at hb ⊢
    have hz : (cutS b a (a + room a)).all (· == 0) = true := by
      rw [cutS_seg (p := p) (m := List.replicate (room a) 0) (q := appA (a + room a) bg l ++ q) (by rw [hb, List.append_assoc]) ha (by rw [List.length_replicate])]
      exact zeros_all _
    rw [recS_congr (nextS_pad h7 hz), ih (p ++ List.replicate (room a) 0) g out (by rw [hb]; simp only [List.append_assoc]) (by rw [List.length_append, List.length_replicate, ha]) hg hl, List.length_append, List.length_replicate, Nat.add_assoc]
  | h2 a bg l h7 h8 =>
    intro p g out hb ha hg hl
    rw [appA_end bg h7 h8] at hb ⊢
    rw [recS_some (nextS_frag hb ha h7 h8), if_neg (by omega), fragS_len]
    subst hg
    cases g
    · rw [if_neg (by decide), if_neg (by decide), if_pos (by rfl)]
      rw [show a + (7 + l.length) = a + 7 + l.length by omega]; rfl
    · rw [if_neg (by decide), if_neg (by decide), if_neg (by decide), if_pos (by rfl)]
      rw [show a + (7 + l.length) = a + 7 + l.length by omega]
  | h3 a bg l h7 h8 ih =>
    intro p g out hb ha hg hl
    rw [appA_go bg h7 h8] at hb ⊢
    have htl : (l.take (room a - 7)).length = room a - 7 := by rw [List.length_take]; omega
    have hb2 : b = p ++ (fragS (kindS bg false) (l.take (room a - 7)) ++ (appA (a + room a) false (l.drop (room a - 7)) ++ q)) := by rw [hb, List.append_assoc]
    have hla : (out ++ l.take (room a - 7)).length ≤ 4194304 := by rw [List.length_append] at hl ⊢; omega
    have he : a + 7 + (l.take (room a - 7)).length = a + room a := by rw [htl]; omega
    have hnx := nextS_frag hb2 ha h7 (by rw [htl]; exact Nat.le_refl _)
    have hmod : ¬ (a + room a) % 64 ≠ 0 := by rw [← he]; intro hx; exact hx (end_mod h7 htl)
    rw [he] at hnx
    have hih := ih (p ++ fragS (kindS bg false) (l.take (room a - 7))) true (out ++ l.take (room a - 7)) (by rw [hb2]; simp only [List.append_assoc]) (by rw [List.length_append, fragS_len, htl, ← ha]; omega) rfl (by rw [List.append_assoc, List.take_append_drop]; exact hl)
    rw [List.append_assoc, List.take_append_drop] at hih
    rw [recS_some hnx, if_neg (by omega), List.length_append, fragS_len, htl]
    subst hg
    cases g
    · rw [if_pos (by rfl), if_neg (by intro hx; rcases hx with hx | hx; cases hx; exact hmod hx), hih]
      congr 2; omega
    · rw [if_neg (by decide), if_pos (by rfl), if_neg (by intro hx; rcases hx with hx | hx; cases hx; exact hmod hx), hih]
      congr 2; omega
/-- torn off: refused -/
theorem headS_torn {b p : List Int} {k : Int} {d : List Int} {a c : Nat} (h : b = p ++ (fragS k d).take c) (ha : a = p.length) (hc : c < 7 + d.length) (h57 : d.length ≤ 57) : headS b a = none := by
  have hbl : b.length = a + c := by rw [h, List.length_append, List.length_take, fragS_len, ha]; omega
  unfold headS
  by_cases h7 : c < 7
  · rw [if_pos (by omega)]
  · rw [if_neg (by omega)]
    simp only
    have gd : ∀ i, i < c → b.getD (a + i) 0 = (fragS k d).getD i 0 := by
      intro i hi
      rw [h, List.getD_eq_getElem?_getD, List.getElem?_append_right (by omega), show a + i - p.length = i by omega, List.getElem?_take_of_lt hi, List.getD_eq_getElem?_getD]
    have f4 : (fragS k d).getD 4 0 = ((d.length % 256 : Nat) : Int) := getD_seg (p := fixedL (sumS (k :: d)) 4) rfl (by rw [fixedL_length])
    have f5 : (fragS k d).getD 5 0 = ((d.length / 256 % 256 : Nat) : Int) := getD_seg (p := fixedL (sumS (k :: d)) 4 ++ [((d.length % 256 : Nat) : Int)]) (q := k :: d) (by unfold fragS; simp only [List.append_assoc, List.cons_append, List.nil_append]) (by rw [List.length_append, fixedL_length]; rfl)
    have hn : (b.getD (a + 4) 0 + 256 * b.getD (a + 5) 0).toNat = d.length := by rw [gd 4 (by omega), gd 5 (by omega), f4, f5]; omega
    rw [hn, if_pos (by omega)]
theorem recS_torn (b : List Int) (a : Nat) (bg : Bool) (l : List Int) : ∀ (p : List Int) (g : Bool) (out : List Int) (c : Nat), b = p ++ (appA a bg l).take c → a = p.length → bg = !g → c < (appA a bg l).length → (recS b a g out).2.2 = false := by
  induction a, bg, l using appA_ind with
  | h1 a bg l h7 ih =>
    intro p g out c hb ha hg hc
    rw [appA_pad bg l h7] at hb hc
    by_cases hcr : c ≤ room a
    · have hbl : b.length = a + c := by rw [hb, List.length_append, List.length_take]; omega
      have hnx : nextS b a = none := by
        unfold nextS
        rw [if_pos h7]
        split
        · unfold headS; rw [if_pos (by omega)]
        · rfl
      rw [recS_none hnx]
    · rw [List.take_append, List.take_of_length_le (by rw [List.length_replicate]; omega), List.length_replicate] at hb
      have hz : (cutS b a (a + room a)).all (· == 0) = true := by
        rw [cutS_seg (p := p) (m := List.replicate (room a) 0) hb ha (by rw [List.length_replicate])]
        exact zeros_all _
      rw [recS_congr (nextS_pad h7 hz)]
      exact ih (p ++ List.replicate (room a) 0) g out (c - room a) (by rw [hb, List.append_assoc]) (by rw [List.length_append, List.length_replicate, ha]) hg (by rw [List.length_append, List.length_replicate] at hc; omega)
  | h2 a bg l h7 h8 =>
    intro p g out c hb ha hg hc
    have hr := room_le a
    rw [appA_end bg h7 h8] at hb hc
    rw [fragS_len] at hc
    have hnx : nextS b a = none := by unfold nextS; rw [if_neg h7, headS_torn hb ha hc (by omega)]
    rw [recS_none hnx]
  | h3 a bg l h7 h8 ih =>
    intro p g out c hb ha hg hc
    have hr := room_le a
    rw [appA_go bg h7 h8] at hb hc
    have htl : (l.take (room a - 7)).length = room a - 7 := by rw [List.length_take]; omega
    by_cases hcf : c < 7 + (l.take (room a - 7)).length
    · rw [List.take_append_of_le_length (by rw [fragS_len]; omega)] at hb
      have hnx : nextS b a = none := by unfold nextS; rw [if_neg h7, headS_torn hb ha hcf (by omega)]
      rw [recS_none hnx]
    · rw [List.take_append, List.take_of_length_le (by rw [fragS_len]; omega), fragS_len] at hb
      have hnx := nextS_frag hb ha h7 (by rw [htl]; exact Nat.le_refl _)
      have he : a + 7 + (l.take (room a - 7)).length = a + room a := by rw [htl]; omega
      rw [he] at hnx
      have hih := fun o => ih (p ++ fragS (kindS bg false) (l.take (room a - 7))) true o (c - (7 + (l.take (room a - 7)).length)) (by rw [hb, List.append_assoc]) (by rw [List.length_append, fragS_len, htl, ← ha]; omega) rfl (by rw [List.length_append, fragS_len] at hc; omega)
      rw [recS_some hnx]
      split
      · rfl
      · subst hg
        cases g
        · rw [if_pos (by rfl)]
          split
          · rfl
          · exact hih _
        · rw [if_neg (by decide), if_pos (by rfl)]
          split
          · rfl
          · exact hih _
/-! logs of records -/
def logL (a : Nat) : List (List Int) → List Int
  | [] => []
  | r :: rs => appA a true r ++ logL (a + (appA a true r).length) rs
theorem readS_yes {b : List Int} {a : Nat} {o : List Int} {e : Nat} (h : recS b a false [] = (o, e, true)) : readS b a = (o :: (readS b e).1, (readS b e).2) := by
  rw [readS, dif_pos (by rw [h]), h]
theorem readS_no {b : List Int} {a : Nat} (h : (recS b a false []).2.2 = false) : readS b a = ([], a) := by
  rw [readS, dif_neg (by rw [h]; decide)]
theorem readS_log (b q : List Int) : ∀ (rs : List (List Int)) (p : List Int) (a : Nat), b = p ++ (logL a rs ++ q) → a = p.length → (∀ r ∈ rs, r.length ≤ 4194304) →
    readS b a = (rs ++ (readS b (a + (logL a rs).length)).1, (readS b (a + (logL a rs).length)).2)
  | [], p, a, hb, ha, hr => rfl
  | r :: rs, p, a, hb, ha, hr => by
    rw [logL] at hb ⊢
    have h1 := recS_app b (logL (a + (appA a true r).length) rs ++ q) a true r p false [] (by rw [hb, List.append_assoc]) ha rfl (by rw [List.nil_append]; exact hr r List.mem_cons_self)
    rw [readS_yes h1, readS_log b q rs (p ++ appA a true r) (a + (appA a true r).length) (by rw [hb]; simp only [List.append_assoc]) (by rw [List.length_append, ha]) (fun x hx => hr x (List.mem_cons_of_mem _ hx)), List.length_append, Nat.add_assoc]
    rfl
theorem recS_over (b : List Int) (g : Bool) (out : List Int) : (recS b b.length g out).2.2 = false := by
  have hnx : nextS b b.length = none := by
    unfold nextS
    split
    · split
      · unfold headS; rw [if_pos (by omega)]
      · rfl
    · unfold headS; rw [if_pos (by omega)]
  rw [recS_none hnx]
theorem readS_end (b : List Int) : readS b b.length = ([], b.length) := readS_no (recS_over b false [])
/-- a whole log is read -/
theorem readS_whole {rs : List (List Int)} (hr : ∀ r ∈ rs, r.length ≤ 4194304) : readS (logL 0 rs) 0 = (rs, (logL 0 rs).length) := by
  rw [readS_log (logL 0 rs) [] rs [] 0 (by simp) rfl hr, Nat.zero_add, readS_end, List.append_nil]
end Go.Proofs.YtbcfagackcnpkaaDoor.Ev
/- Numbers of fixed width, read by the document. -/
namespace Go.Proofs.YtbcfagackcnpkaaDoor.Ev
open Go Go.RowKit
set_option linter.unusedVariables false
set_option maxRecDepth 100000
abbrev runfixedC : Ctx := ⟨rows, (fun | 0 => ([0, 1, 7, 8], [7]) | 1 => ([], [0, 1, 7, 8]) | _ => ([], []))⟩
theorem runfixed_ev (tab : Tab) (l : List Int) (hb : Bytes l) (a m F : Nat) (hm : m ≤ 8) (hml : a + m ≤ l.length) (hl : l.length ≤ 140737488355328) (hF : m < F) : evFn runfixedC tab noCall F F32 [.d (.li (.it .u8)) l, .d (.it .i64) (a : Int), .d (.it .i64) (m : Int)] [] (fun v S => exportF runfixedC F32.resultTypes.toList v S) = some (.d (.it .u64) (leVal ((l.drop a).take m))) := by
  conv => lhs; whnf
  have h0 : IntKind.i64.wrap ((m : Int) - 1) = (m : Int) - 1 := wrapI64 (by omega) (by omega)
  rw [h0]
  refine loop_rule (α := Nat × Int) (fun s => s.1 ≤ m ∧ s.2 = leVal ((l.drop (a + s.1)).take (m - s.1))) (fun s => s.1)
    (fun s => [.d (.li (.it .u8)) l, .d (.it .i64) (a : Int), .bad, .bad, .bad, .bad, .bad, .d (.it .u64) s.2, .d (.it .i64) ((s.1 : Int) - 1), .bad, .bad, .bad, .bad, .bad, .bad, .bad, .bad, .bad, .bad, .bad, .bad, .bad, .bad, .bad, .bad, .bad]) (fun s => [])
    (fun s => some (V.d (.it .u64) (leVal ((l.drop a).take m)))) ?_ F (m, 0) ⟨Nat.le_refl _, by simp [leVal]⟩ hF
  rintro ⟨n, acc⟩ K ⟨hn, hacc⟩ hK
  simp only at hn hacc hK ⊢
  conv => lhs; whnf
  by_cases ha : (n : Int) - 1 ≥ 0
  · refine br_go (tst_t ha) ?_
    conv => lhs; whnf
    have e1 : IntKind.i64.wrap ((a : Int) + ((n : Int) - 1)) = ((a + (n - 1) : Nat) : Int) := by rw [wrapI64 (by omega) (by omega)]; omega
    rw [e1]
    refine br_go (band (tst_t (show (0 : Int) ≤ ((a + (n - 1) : Nat) : Int) by omega)) (tst_t (show ((a + (n - 1) : Nat) : Int) < ((List.length l : Nat) : Int) by omega))) ?_
    conv => lhs; whnf
    have hx := rd_bytes hb ((a + (n - 1) : Nat) : Int)
    have ht := (hb.drop (a + n)).take (m - n)
    have hr := leVal_range ht
    have p : (256 : Nat) ^ ((l.drop (a + n)).take (m - n)).length ≤ 256 ^ 7 := Nat.pow_le_pow_right (by decide) (by rw [List.length_take]; omega)
    have p' : ((256 ^ ((l.drop (a + n)).take (m - n)).length : Nat) : Int) ≤ 72057594037927936 := by
      have : (256 : Nat) ^ 7 = 72057594037927936 := by decide
      omega
    rw [← hacc] at hr
    have e : IntKind.u64.wrap (IntKind.u64.wrap (256 * acc) + IntKind.u64.wrap (rd l ((a + (n - 1) : Nat) : Int))) = leVal ((l.drop (a + (n - 1))).take (m - (n - 1))) := by
      rw [wrapU64_id hx.1 (by omega), wrapU64_id (n := 256 * _) (by omega) (by omega), wrapU64_id (by omega) (by omega), hacc]
      have em : m - (n - 1) = (m - n) + 1 := by omega
      have en : a + (n - 1) + 1 = a + n := by omega
      rw [drop_cons (l := l) (i := a + (n - 1)) (by omega), em, List.take_succ_cons, leVal, en, Int.add_comm]
    have e2 : IntKind.i64.wrap ((n : Int) - 1 - 1) = ((n - 1 : Nat) : Int) - 1 := by rw [wrapI64 (by omega) (by omega)]; omega
    have := hK (n - 1, _) ⟨by omega, e⟩ (by simp only; omega)
    simp only at this
    rw [← e2] at this
    exact this
  · refine br_no (tst_f ha) ?_
    have : n = 0 := by omega
    subst this
    conv => lhs; whnf
    rw [hacc]; rfl
end Go.Proofs.YtbcfagackcnpkaaDoor.Ev
/- Numbers laid down, seven bits a byte, by the document. -/
namespace Go.Proofs.YtbcfagackcnpkaaDoor.Ev
open Go Go.RowKit
set_option linter.unusedVariables false
set_option maxRecDepth 100000
end Go.Proofs.YtbcfagackcnpkaaDoor.Ev
/- Keys taken apart and held against one another, by the document. -/
namespace Go.Proofs.YtbcfagackcnpkaaDoor.Ev
open Go Go.RowKit
set_option linter.unusedVariables false
set_option linter.unusedSimpArgs false
set_option maxRecDepth 100000
set_option maxHeartbeats 8000000
theorem rfixed_ok (T : Tab) : fixedSp.Ok T rfixedC F40 := by
  rintro ⟨(n : Int), (m : Int), _⟩ hf hp
  have hp : (0 : Int) ≤ m ∧ (m : Int) ≤ 8 := by simpa only [fixedSp, Bool.and_eq_true, tst_iff] using hp
  have := rfixed_ev T n (Int.toNat m) (Int.toNat m + 1) (Int.toNat_le.2 hp.2) (Nat.lt_succ_self _)
  rw [Int.toNat_of_nonneg hp.1] at this
  exact ⟨_, 0, this⟩
theorem runfixed_ok (T : Tab) : runfixedSp.Ok T runfixedC F32 := by
  rintro ⟨(l : List Int), (a : Int), (m : Int), _⟩ hf hp
  have hp : (((0 : Int) ≤ a ∧ 0 ≤ m) ∧ m ≤ 8) ∧ a + m ≤ (l.length : Int) := by simpa only [runfixedSp, runfixedPre, Bool.and_eq_true, tst_iff] using hp
  have hb : Bytes l := bytes_of hf.1
  have := runfixed_ev T l hb (Int.toNat a) (Int.toNat m) (Int.toNat m + 1) (Int.toNat_le.2 hp.1.2) (by omega) (fits_by.1 hf.1).1 (Nat.lt_succ_self _)
  rw [Int.toNat_of_nonneg hp.1.1.1, Int.toNat_of_nonneg hp.1.1.2] at this
  exact ⟨_, 0, this⟩
theorem rd_cons {l : List Int} {i : Nat} (h : i < l.length) : l.drop i = l.getD i 0 :: l.drop (i + 1) := by rw [List.getD_eq_getElem?_getD, List.getElem?_eq_getElem h]; exact List.drop_eq_getElem_cons h
end Go.Proofs.YtbcfagackcnpkaaDoor.Ev
/- Logs: the document reads a record, and all. -/
namespace Go.Proofs.YtbcfagackcnpkaaDoor.Ev
open Go Go.RowKit
set_option linter.unusedVariables false
set_option linter.unusedSimpArgs false
set_option maxRecDepth 100000
set_option maxHeartbeats 8000000
/-- what the document tells of a record: nothing, where it isn't right -/
def oneS (b : List Int) (a : Nat) (g : Bool) (o : List Int) : List Int × Nat × Bool := if (recS b a g o).2.2 = true then recS b a g o else ([], 0, false)
theorem oneS_no {b : List Int} {a : Nat} {g : Bool} {o : List Int} (h : (recS b a g o).2.2 = false) : oneS b a g o = ([], 0, false) := by unfold oneS; rw [if_neg (by rw [h]; decide)]
theorem cut_zero {b : List Int} {a n : Nat} (h : a + n ≤ b.length) : (cutS b a (a + n)).all (· == 0) = true ↔ ∀ j, j < n → b.getD (a + j) 0 = 0 := by
  unfold cutS
  rw [List.all_eq_true]
  constructor
  · intro hz j hj
    have hm : b.getD (a + j) 0 ∈ (b.take (a + n)).drop a := by
      rw [getD_at (by omega)]
      refine List.mem_iff_getElem.2 ⟨j, by rw [List.length_drop, List.length_take]; omega, by rw [List.getElem_drop, List.getElem_take]⟩
    simpa using hz _ hm
  · intro hz x hx
    obtain ⟨j, hj, rfl⟩ := List.mem_iff_getElem.1 hx
    rw [List.length_drop, List.length_take] at hj
    rw [List.getElem_drop, List.getElem_take]
    have := hz j (by omega)
    rw [getD_at (by omega)] at this
    simp [this]
theorem headS_short {b : List Int} {a : Nat} (h : b.length < a + 7) : headS b a = none := by unfold headS; rw [if_pos h]
noncomputable def oneSp : Sp := ⟨[byl, i64], fun x => tst (0 ≤ x.2.1) && tst (x.2.1 ≤ (List.length x.1 : Int)) && tst (List.length x.1 ≤ 1099511627776), fun x => .tup [vB (oneS x.1 (Int.toNat x.2.1) false []).1, vI ((oneS x.1 (Int.toNat x.2.1) false []).2.1 : Nat), .d .bo (oneS x.1 (Int.toNat x.2.1) false []).2.2]⟩
abbrev roneC : Ctx := ⟨rows, (fun | 0 => ([0, 1, 7, 8], [4, 5, 6]) | 1 => ([], [0, 1, 7, 8]) | 2 => ([0, 1, 7, 8, 9, 10], [0, 1, 7, 8, 9]) | 3 => ([], [0, 1, 7, 8, 9, 10]) | _ => ([], []))⟩
theorem rone_ok (T : Tab) (h1 : T 32 = runfixedSp.ent) (h2 : T 33 = sumSp.ent) : oneSp.OkW T roneC F25 := by
  rw [on_top h1, on_top h2]
  rintro ⟨(b : List Int), (a : Int), _⟩ hf hp
  have hp : (0 ≤ a ∧ a ≤ (b.length : Int)) ∧ b.length ≤ 1099511627776 := by simpa only [oneSp, Bool.and_eq_true, tst_iff] using hp
  obtain ⟨⟨p1, p2⟩, p3⟩ := hp
  obtain ⟨m, rfl⟩ : ∃ m : Nat, a = m := ⟨a.toNat, by omega⟩
  have hb : Bytes b := bytes_of hf.1
  obtain ⟨F, hF⟩ : ∃ F : Nat, F = b.length + 10 := ⟨_, rfl⟩
  refine ⟨F, 1, ?_⟩
  show evFn _ _ _ _ _ [vB b, vI m] [] _ = some (.tup [vB (oneS b m false []).1, vI ((oneS b m false []).2.1 : Nat), .d .bo (oneS b m false []).2.2] : V)
  conv => lhs; whnf
  try simp (maxSteps := 2000000) (disch := omega) only [nI64, nU64, nU32, nU8, nSubL, nAddL, nAdd, nSub, nDiv, nMod, nZ, nLit, row_3, row_4, row_5, row_16, row_22, row_85, Ty.den, dflt_it, dflt_li, dflt_kv, Int.toNat_natCast, List.take_length, List.drop_zero]
  generalize hR : oneS b m false [] = R
  refine loop_rule (α := Nat × Bool × List Int) (fun s => s.1 ≤ b.length ∧ s.2.2.length ≤ 4194304 ∧ oneS b s.1 s.2.1 s.2.2 = R) (fun s => b.length - s.1)
    (fun s => (vB b :: vI s.1 :: V.bad :: V.bad :: V.bad :: V.bad :: V.bad :: vO 1 s.2.2 :: V.d .bo s.2.1 :: V.bad :: V.bad :: V.bad :: V.bad :: V.bad :: V.bad :: V.bad :: V.bad :: V.bad :: V.bad :: V.bad :: V.bad :: V.bad :: V.bad :: V.bad :: V.bad :: V.bad :: V.bad :: V.bad :: V.bad :: V.bad :: V.bad :: V.bad :: V.bad :: V.bad :: V.bad :: V.bad :: V.bad :: V.bad :: V.bad :: V.bad :: V.bad :: V.bad :: V.bad :: V.bad :: V.bad :: V.bad :: V.bad :: V.bad :: V.bad :: V.bad :: V.bad :: V.bad :: V.bad :: V.bad :: V.bad :: V.bad :: V.bad :: V.bad :: V.bad :: V.bad :: V.bad :: V.bad :: V.bad :: V.bad :: V.bad :: V.bad :: V.bad :: V.bad :: V.bad :: V.bad :: V.bad :: V.bad :: V.bad :: V.bad :: V.bad :: V.bad :: V.bad :: V.bad :: V.bad :: V.bad :: V.bad :: V.bad :: V.bad :: V.bad :: V.bad :: V.bad :: V.bad :: V.bad :: V.bad :: V.bad :: V.bad :: V.bad :: V.bad :: V.bad :: V.bad :: V.bad :: V.bad :: V.bad :: V.bad :: V.bad :: V.bad :: V.bad :: V.bad :: V.bad :: V.bad :: V.bad :: V.bad :: V.bad :: V.bad :: V.bad :: V.bad :: V.bad :: V.bad :: V.bad :: V.bad :: V.bad :: V.bad :: V.bad :: V.bad :: V.bad :: V.bad :: V.bad :: V.bad :: V.bad :: V.bad :: V.bad :: V.bad :: V.bad :: V.bad :: V.bad :: V.bad :: V.bad :: V.bad :: V.bad :: V.bad :: V.bad :: V.bad :: V.bad :: V.bad :: V.bad :: V.bad :: V.bad :: V.bad :: V.bad :: []))
    (fun s => [.fam 0, .fam s.2.2.length])
    (fun s => some (V.tup [vB R.1, vI (R.2.1 : Nat), .d .bo R.2.2])) ?_ F (m, false, []) ⟨by show m ≤ b.length; omega, by simp, hR⟩ (by show b.length - m < F; omega)
  rintro ⟨i, g, o⟩ K ⟨k1, k2, k3⟩ hK
  simp only at k1 k2 k3 hK ⊢
  have hrm := room_le i
  have hr : room i = 64 - i % 64 := rfl
  have fail : nextS b i = none → R = ([], 0, false) := fun h => by rw [← k3, oneS_no (by rw [recS_none h])]
  have er : (64 - (i : Int) % 64) = ((room i : Nat) : Int) := by omega
  conv => lhs; whnf
  try simp (maxSteps := 2000000) (disch := omega) only [nI64, nU64, nU32, nU8, nSubL, nAddL, nAdd, nSub, nDiv, nMod, nZ, nLit, row_3, row_4, row_5, row_16, row_22, row_85, Ty.den, dflt_it, dflt_li, dflt_kv, Int.toNat_natCast, List.take_length, List.drop_zero]
  repeat (refine br_go ?_ ?_; (focus (((repeat' first | exact rfl | exact ordB_st rfl | exact ordB_of rfl | apply band | apply tst_t | apply nt_t)  <;> (try dsimp only [Ty.den, dflt_kv]) <;> (try simp only [List.length_append, List.length_cons, List.length_nil, List.length_take, List.length_drop, List.length_replicate]) <;> (first | trivial | assumption | omega | (change (_ : Int) ≤ _; omega) | (change (_ : Int) < _; omega) | (change (_ : Nat) * 1 ≤ _; omega) | (change (_ : Nat) * 48 ≤ _; omega) | (change (_ : Nat) * 24 ≤ _; omega) | (change (_ : Nat) * 8 ≤ _; omega) | (change (_ : Nat) * 64 ≤ _; omega) | decide)); done)); (conv => lhs; whnf); (try simp (maxSteps := 2000000) (disch := omega) only [nI64, nU64, nU32, nU8, nSubL, nAddL, nAdd, nSub, nDiv, nMod, nZ, nLit, row_3, row_4, row_5, row_16, row_22, row_85, Ty.den, dflt_it, dflt_li, dflt_kv, Int.toNat_natCast, List.take_length, List.drop_zero]))
  try simp (maxSteps := 2000000) (disch := omega) only [nI64, nU64, nU32, nU8, nSubL, nAddL, nAdd, nSub, nDiv, nMod, nZ, nLit, row_3, row_4, row_5, row_16, row_22, row_85, Ty.den, dflt_it, dflt_li, dflt_kv, Int.toNat_natCast, List.take_length, List.drop_zero, er]
  by_cases h7 : room i < 7
  · refine br_go (tst_t (by omega)) ?_
    conv => lhs; whnf
    try simp (maxSteps := 2000000) (disch := omega) only [nI64, nU64, nU32, nU8, nSubL, nAddL, nAdd, nSub, nDiv, nMod, nZ, nLit, row_3, row_4, row_5, row_16, row_22, row_85, Ty.den, dflt_it, dflt_li, dflt_kv, Int.toNat_natCast, List.take_length, List.drop_zero]
    repeat (refine br_go ?_ ?_; (focus (((repeat' first | exact rfl | exact ordB_st rfl | exact ordB_of rfl | apply band | apply tst_t | apply nt_t)  <;> (try dsimp only [Ty.den, dflt_kv]) <;> (try simp only [List.length_append, List.length_cons, List.length_nil, List.length_take, List.length_drop, List.length_replicate]) <;> (first | trivial | assumption | omega | (change (_ : Int) ≤ _; omega) | (change (_ : Int) < _; omega) | (change (_ : Nat) * 1 ≤ _; omega) | (change (_ : Nat) * 48 ≤ _; omega) | (change (_ : Nat) * 24 ≤ _; omega) | (change (_ : Nat) * 8 ≤ _; omega) | (change (_ : Nat) * 64 ≤ _; omega) | decide)); done)); (conv => lhs; whnf); (try simp (maxSteps := 2000000) (disch := omega) only [nI64, nU64, nU32, nU8, nSubL, nAddL, nAdd, nSub, nDiv, nMod, nZ, nLit, row_3, row_4, row_5, row_16, row_22, row_85, Ty.den, dflt_it, dflt_li, dflt_kv, Int.toNat_natCast, List.take_length, List.drop_zero]))
    by_cases h8 : i + room i > b.length
    · refine br_go (tst_t (by omega)) ?_
      conv => lhs; whnf
      try simp (maxSteps := 2000000) (disch := omega) only [nI64, nU64, nU32, nU8, nSubL, nAddL, nAdd, nSub, nDiv, nMod, nZ, nLit, row_3, row_4, row_5, row_16, row_22, row_85, Ty.den, dflt_it, dflt_li, dflt_kv, Int.toNat_natCast, List.take_length, List.drop_zero]
      repeat (refine br_go ?_ ?_; (focus (((repeat' first | exact rfl | exact ordB_st rfl | exact ordB_of rfl | apply band | apply tst_t | apply nt_t)  <;> (try dsimp only [Ty.den, dflt_kv]) <;> (try simp only [List.length_append, List.length_cons, List.length_nil, List.length_take, List.length_drop, List.length_replicate]) <;> (first | trivial | assumption | omega | (change (_ : Int) ≤ _; omega) | (change (_ : Int) < _; omega) | (change (_ : Nat) * 1 ≤ _; omega) | (change (_ : Nat) * 48 ≤ _; omega) | (change (_ : Nat) * 24 ≤ _; omega) | (change (_ : Nat) * 8 ≤ _; omega) | (change (_ : Nat) * 64 ≤ _; omega) | decide)); done)); (conv => lhs; whnf); (try simp (maxSteps := 2000000) (disch := omega) only [nI64, nU64, nU32, nU8, nSubL, nAddL, nAdd, nSub, nDiv, nMod, nZ, nLit, row_3, row_4, row_5, row_16, row_22, row_85, Ty.den, dflt_it, dflt_li, dflt_kv, Int.toNat_natCast, List.take_length, List.drop_zero]))
      rw [fail (by
        unfold nextS
        rw [if_pos h7]
        split
        · exact headS_short (by omega)
        · rfl)]
      rfl
    · refine br_no (tst_f (by omega)) ?_
      conv => lhs; whnf
      try simp (maxSteps := 2000000) (disch := omega) only [nI64, nU64, nU32, nU8, nSubL, nAddL, nAdd, nSub, nDiv, nMod, nZ, nLit, row_3, row_4, row_5, row_16, row_22, row_85, Ty.den, dflt_it, dflt_li, dflt_kv, Int.toNat_natCast, List.take_length, List.drop_zero]
      repeat (refine br_go ?_ ?_; (focus (((repeat' first | exact rfl | exact ordB_st rfl | exact ordB_of rfl | apply band | apply tst_t | apply nt_t)  <;> (try dsimp only [Ty.den, dflt_kv]) <;> (try simp only [List.length_append, List.length_cons, List.length_nil, List.length_take, List.length_drop, List.length_replicate]) <;> (first | trivial | assumption | omega | (change (_ : Int) ≤ _; omega) | (change (_ : Int) < _; omega) | (change (_ : Nat) * 1 ≤ _; omega) | (change (_ : Nat) * 48 ≤ _; omega) | (change (_ : Nat) * 24 ≤ _; omega) | (change (_ : Nat) * 8 ≤ _; omega) | (change (_ : Nat) * 64 ≤ _; omega) | decide)); done)); (conv => lhs; whnf); (try simp (maxSteps := 2000000) (disch := omega) only [nI64, nU64, nU32, nU8, nSubL, nAddL, nAdd, nSub, nDiv, nMod, nZ, nLit, row_3, row_4, row_5, row_16, row_22, row_85, Ty.den, dflt_it, dflt_li, dflt_kv, Int.toNat_natCast, List.take_length, List.drop_zero]))
      refine loop_rule (α := Nat) (fun j => j ≤ room i ∧ ∀ q, q < j → b.getD (i + q) 0 = 0) (fun j => room i - j)
        (fun j => (vB b :: vI i :: V.bad :: V.bad :: V.bad :: V.bad :: V.bad :: vO 1 o :: V.d .bo g :: vI (room i) :: vI j :: V.bad :: V.bad :: V.bad :: V.bad :: V.bad :: V.bad :: V.bad :: V.bad :: V.bad :: V.bad :: V.bad :: V.bad :: V.bad :: V.bad :: V.bad :: V.bad :: V.bad :: V.bad :: V.bad :: V.bad :: V.bad :: V.bad :: V.bad :: V.bad :: V.bad :: V.bad :: V.bad :: V.bad :: V.bad :: V.bad :: V.bad :: V.bad :: V.bad :: V.bad :: V.bad :: V.bad :: V.bad :: V.bad :: V.bad :: V.bad :: V.bad :: V.bad :: V.bad :: V.bad :: V.bad :: V.bad :: V.bad :: V.bad :: V.bad :: V.bad :: V.bad :: V.bad :: V.bad :: V.bad :: V.bad :: V.bad :: V.bad :: V.bad :: V.bad :: V.bad :: V.bad :: V.bad :: V.bad :: V.bad :: V.bad :: V.bad :: V.bad :: V.bad :: V.bad :: V.bad :: V.bad :: V.bad :: V.bad :: V.bad :: V.bad :: V.bad :: V.bad :: V.bad :: V.bad :: V.bad :: V.bad :: V.bad :: V.bad :: V.bad :: V.bad :: V.bad :: V.bad :: V.bad :: V.bad :: V.bad :: V.bad :: V.bad :: V.bad :: V.bad :: V.bad :: V.bad :: V.bad :: V.bad :: V.bad :: V.bad :: V.bad :: V.bad :: V.bad :: V.bad :: V.bad :: V.bad :: V.bad :: V.bad :: V.bad :: V.bad :: V.bad :: V.bad :: V.bad :: V.bad :: V.bad :: V.bad :: V.bad :: V.bad :: V.bad :: V.bad :: V.bad :: V.bad :: V.bad :: V.bad :: V.bad :: V.bad :: V.bad :: V.bad :: V.bad :: V.bad :: V.bad :: V.bad :: V.bad :: []))
        (fun j => [.fam 0, .fam o.length, .gone])
        (fun j => some (V.tup [vB R.1, vI (R.2.1 : Nat), .d .bo R.2.2])) ?_ F 0 ⟨Nat.zero_le _, fun q hq => absurd hq (by omega)⟩ (by show room i - 0 < F; omega)
      rintro j K2 ⟨j1, j2⟩ hK2
      conv => lhs; whnf
      try simp (maxSteps := 2000000) (disch := omega) only [nI64, nU64, nU32, nU8, nSubL, nAddL, nAdd, nSub, nDiv, nMod, nZ, nLit, row_3, row_4, row_5, row_16, row_22, row_85, Ty.den, dflt_it, dflt_li, dflt_kv, Int.toNat_natCast, List.take_length, List.drop_zero]
      by_cases hj : j < room i
      · refine br_go (tst_t (by omega)) ?_
        conv => lhs; whnf
        try simp (maxSteps := 2000000) (disch := omega) only [nI64, nU64, nU32, nU8, nSubL, nAddL, nAdd, nSub, nDiv, nMod, nZ, nLit, row_3, row_4, row_5, row_16, row_22, row_85, Ty.den, dflt_it, dflt_li, dflt_kv, Int.toNat_natCast, List.take_length, List.drop_zero]
        repeat (refine br_go ?_ ?_; (focus (((repeat' first | exact rfl | exact ordB_st rfl | exact ordB_of rfl | apply band | apply tst_t | apply nt_t)  <;> (try dsimp only [Ty.den, dflt_kv]) <;> (try simp only [List.length_append, List.length_cons, List.length_nil, List.length_take, List.length_drop, List.length_replicate]) <;> (first | trivial | assumption | omega | (change (_ : Int) ≤ _; omega) | (change (_ : Int) < _; omega) | (change (_ : Nat) * 1 ≤ _; omega) | (change (_ : Nat) * 48 ≤ _; omega) | (change (_ : Nat) * 24 ≤ _; omega) | (change (_ : Nat) * 8 ≤ _; omega) | (change (_ : Nat) * 64 ≤ _; omega) | decide)); done)); (conv => lhs; whnf); (try simp (maxSteps := 2000000) (disch := omega) only [nI64, nU64, nU32, nU8, nSubL, nAddL, nAdd, nSub, nDiv, nMod, nZ, nLit, row_3, row_4, row_5, row_16, row_22, row_85, Ty.den, dflt_it, dflt_li, dflt_kv, Int.toNat_natCast, List.take_length, List.drop_zero]))
        by_cases hz : b.getD (i + j) 0 = 0
        · refine br_no (tst_f ((fun h => h hz))) ?_
          conv => lhs; whnf
          try simp (maxSteps := 2000000) (disch := omega) only [nI64, nU64, nU32, nU8, nSubL, nAddL, nAdd, nSub, nDiv, nMod, nZ, nLit, row_3, row_4, row_5, row_16, row_22, row_85, Ty.den, dflt_it, dflt_li, dflt_kv, Int.toNat_natCast, List.take_length, List.drop_zero]
          repeat (refine br_go ?_ ?_; (focus (((repeat' first | exact rfl | exact ordB_st rfl | exact ordB_of rfl | apply band | apply tst_t | apply nt_t)  <;> (try dsimp only [Ty.den, dflt_kv]) <;> (try simp only [List.length_append, List.length_cons, List.length_nil, List.length_take, List.length_drop, List.length_replicate]) <;> (first | trivial | assumption | omega | (change (_ : Int) ≤ _; omega) | (change (_ : Int) < _; omega) | (change (_ : Nat) * 1 ≤ _; omega) | (change (_ : Nat) * 48 ≤ _; omega) | (change (_ : Nat) * 24 ≤ _; omega) | (change (_ : Nat) * 8 ≤ _; omega) | (change (_ : Nat) * 64 ≤ _; omega) | decide)); done)); (conv => lhs; whnf); (try simp (maxSteps := 2000000) (disch := omega) only [nI64, nU64, nU32, nU8, nSubL, nAddL, nAdd, nSub, nDiv, nMod, nZ, nLit, row_3, row_4, row_5, row_16, row_22, row_85, Ty.den, dflt_it, dflt_li, dflt_kv, Int.toNat_natCast, List.take_length, List.drop_zero]))
          exact hK2 (j + 1) ⟨by omega, fun q hq => by rcases Nat.lt_or_ge q j with h | h; exact j2 q h; rw [show q = j by omega]; exact hz⟩ (by omega)
        · refine br_go (tst_t (hz)) ?_
          conv => lhs; whnf
          try simp (maxSteps := 2000000) (disch := omega) only [nI64, nU64, nU32, nU8, nSubL, nAddL, nAdd, nSub, nDiv, nMod, nZ, nLit, row_3, row_4, row_5, row_16, row_22, row_85, Ty.den, dflt_it, dflt_li, dflt_kv, Int.toNat_natCast, List.take_length, List.drop_zero]
          repeat (refine br_go ?_ ?_; (focus (((repeat' first | exact rfl | exact ordB_st rfl | exact ordB_of rfl | apply band | apply tst_t | apply nt_t)  <;> (try dsimp only [Ty.den, dflt_kv]) <;> (try simp only [List.length_append, List.length_cons, List.length_nil, List.length_take, List.length_drop, List.length_replicate]) <;> (first | trivial | assumption | omega | (change (_ : Int) ≤ _; omega) | (change (_ : Int) < _; omega) | (change (_ : Nat) * 1 ≤ _; omega) | (change (_ : Nat) * 48 ≤ _; omega) | (change (_ : Nat) * 24 ≤ _; omega) | (change (_ : Nat) * 8 ≤ _; omega) | (change (_ : Nat) * 64 ≤ _; omega) | decide)); done)); (conv => lhs; whnf); (try simp (maxSteps := 2000000) (disch := omega) only [nI64, nU64, nU32, nU8, nSubL, nAddL, nAdd, nSub, nDiv, nMod, nZ, nLit, row_3, row_4, row_5, row_16, row_22, row_85, Ty.den, dflt_it, dflt_li, dflt_kv, Int.toNat_natCast, List.take_length, List.drop_zero]))
          rw [fail (by
            unfold nextS
            rw [if_pos h7, if_neg (fun h => hz ((cut_zero (by omega)).1 h j hj))])]
          rfl
      · refine br_no (tst_f (by omega)) ?_
        conv => lhs; whnf
        try simp (maxSteps := 2000000) (disch := omega) only [nI64, nU64, nU32, nU8, nSubL, nAddL, nAdd, nSub, nDiv, nMod, nZ, nLit, row_3, row_4, row_5, row_16, row_22, row_85, Ty.den, dflt_it, dflt_li, dflt_kv, Int.toNat_natCast, List.take_length, List.drop_zero]
        repeat (refine br_go ?_ ?_; (focus (((repeat' first | exact rfl | exact ordB_st rfl | exact ordB_of rfl | apply band | apply tst_t | apply nt_t)  <;> (try dsimp only [Ty.den, dflt_kv]) <;> (try simp only [List.length_append, List.length_cons, List.length_nil, List.length_take, List.length_drop, List.length_replicate]) <;> (first | trivial | assumption | omega | (change (_ : Int) ≤ _; omega) | (change (_ : Int) < _; omega) | (change (_ : Nat) * 1 ≤ _; omega) | (change (_ : Nat) * 48 ≤ _; omega) | (change (_ : Nat) * 24 ≤ _; omega) | (change (_ : Nat) * 8 ≤ _; omega) | (change (_ : Nat) * 64 ≤ _; omega) | decide)); done)); (conv => lhs; whnf); (try simp (maxSteps := 2000000) (disch := omega) only [nI64, nU64, nU32, nU8, nSubL, nAddL, nAdd, nSub, nDiv, nMod, nZ, nLit, row_3, row_4, row_5, row_16, row_22, row_85, Ty.den, dflt_it, dflt_li, dflt_kv, Int.toNat_natCast, List.take_length, List.drop_zero]))
        have hzz : (cutS b i (i + room i)).all (· == 0) = true := (cut_zero (by omega)).2 (fun q hq => j2 q (by omega))
        have hcg := recS_congr (nextS_pad h7 hzz) g o
        have e : ((i : Int) + (room i : Int)) = ((i + room i : Nat) : Int) := by omega
        rw [e]
        exact hK (i + room i, g, o) ⟨by show i + room i ≤ _; omega, k2, by rw [← k3]; unfold oneS; rw [hcg]⟩ (by show b.length - (i + room i) < b.length - i; omega)
  · refine br_no (tst_f (by omega)) ?_
    conv => lhs; whnf
    try simp (maxSteps := 2000000) (disch := omega) only [nI64, nU64, nU32, nU8, nSubL, nAddL, nAdd, nSub, nDiv, nMod, nZ, nLit, row_3, row_4, row_5, row_16, row_22, row_85, Ty.den, dflt_it, dflt_li, dflt_kv, Int.toNat_natCast, List.take_length, List.drop_zero]
    repeat (refine br_go ?_ ?_; (focus (((repeat' first | exact rfl | exact ordB_st rfl | exact ordB_of rfl | apply band | apply tst_t | apply nt_t)  <;> (try dsimp only [Ty.den, dflt_kv]) <;> (try simp only [List.length_append, List.length_cons, List.length_nil, List.length_take, List.length_drop, List.length_replicate]) <;> (first | trivial | assumption | omega | (change (_ : Int) ≤ _; omega) | (change (_ : Int) < _; omega) | (change (_ : Nat) * 1 ≤ _; omega) | (change (_ : Nat) * 48 ≤ _; omega) | (change (_ : Nat) * 24 ≤ _; omega) | (change (_ : Nat) * 8 ≤ _; omega) | (change (_ : Nat) * 64 ≤ _; omega) | decide)); done)); (conv => lhs; whnf); (try simp (maxSteps := 2000000) (disch := omega) only [nI64, nU64, nU32, nU8, nSubL, nAddL, nAdd, nSub, nDiv, nMod, nZ, nLit, row_3, row_4, row_5, row_16, row_22, row_85, Ty.den, dflt_it, dflt_li, dflt_kv, Int.toNat_natCast, List.take_length, List.drop_zero]))
    by_cases h8 : i + 7 > b.length
    · refine br_go (tst_t (by omega)) ?_
      conv => lhs; whnf
      try simp (maxSteps := 2000000) (disch := omega) only [nI64, nU64, nU32, nU8, nSubL, nAddL, nAdd, nSub, nDiv, nMod, nZ, nLit, row_3, row_4, row_5, row_16, row_22, row_85, Ty.den, dflt_it, dflt_li, dflt_kv, Int.toNat_natCast, List.take_length, List.drop_zero]
      repeat (refine br_go ?_ ?_; (focus (((repeat' first | exact rfl | exact ordB_st rfl | exact ordB_of rfl | apply band | apply tst_t | apply nt_t)  <;> (try dsimp only [Ty.den, dflt_kv]) <;> (try simp only [List.length_append, List.length_cons, List.length_nil, List.length_take, List.length_drop, List.length_replicate]) <;> (first | trivial | assumption | omega | (change (_ : Int) ≤ _; omega) | (change (_ : Int) < _; omega) | (change (_ : Nat) * 1 ≤ _; omega) | (change (_ : Nat) * 48 ≤ _; omega) | (change (_ : Nat) * 24 ≤ _; omega) | (change (_ : Nat) * 8 ≤ _; omega) | (change (_ : Nat) * 64 ≤ _; omega) | decide)); done)); (conv => lhs; whnf); (try simp (maxSteps := 2000000) (disch := omega) only [nI64, nU64, nU32, nU8, nSubL, nAddL, nAdd, nSub, nDiv, nMod, nZ, nLit, row_3, row_4, row_5, row_16, row_22, row_85, Ty.den, dflt_it, dflt_li, dflt_kv, Int.toNat_natCast, List.take_length, List.drop_zero]))
      rw [fail (by unfold nextS; rw [if_neg h7]; exact headS_short (by omega))]
      rfl
    · refine br_no (tst_f (by omega)) ?_
      conv => lhs; whnf
      try simp (maxSteps := 2000000) (disch := omega) only [nI64, nU64, nU32, nU8, nSubL, nAddL, nAdd, nSub, nDiv, nMod, nZ, nLit, row_3, row_4, row_5, row_16, row_22, row_85, Ty.den, dflt_it, dflt_li, dflt_kv, Int.toNat_natCast, List.take_length, List.drop_zero]
      have hx : 0 ≤ b.getD (i + 4) 0 ∧ b.getD (i + 4) 0 < 256 := rd_bytes hb ((i + 4 : Nat) : Int)
      have hy : 0 ≤ b.getD (i + 5) 0 ∧ b.getD (i + 5) 0 < 256 := rd_bytes hb ((i + 5 : Nat) : Int)
      have hz : 0 ≤ b.getD (i + 6) 0 ∧ b.getD (i + 6) 0 < 256 := rd_bytes hb ((i + 6 : Nat) : Int)
      obtain ⟨n, hn⟩ : ∃ n : Nat, b.getD (i + 4) 0 + 256 * b.getD (i + 5) 0 = (n : Int) := ⟨(b.getD (i + 4) 0 + 256 * b.getD (i + 5) 0).toNat, by omega⟩
      have hnx : nextS b i = headS b i := by unfold nextS; rw [if_neg h7]
      repeat (refine br_go ?_ ?_; (focus (((repeat' first | exact rfl | exact ordB_st rfl | exact ordB_of rfl | apply band | apply tst_t | apply nt_t)  <;> (try dsimp only [Ty.den, dflt_kv]) <;> (try simp only [List.length_append, List.length_cons, List.length_nil, List.length_take, List.length_drop, List.length_replicate]) <;> (first | trivial | assumption | omega | (change (_ : Int) ≤ _; omega) | (change (_ : Int) < _; omega) | (change (_ : Nat) * 1 ≤ _; omega) | (change (_ : Nat) * 48 ≤ _; omega) | (change (_ : Nat) * 24 ≤ _; omega) | (change (_ : Nat) * 8 ≤ _; omega) | (change (_ : Nat) * 64 ≤ _; omega) | decide)); done)); (conv => lhs; whnf); (try simp (maxSteps := 2000000) (disch := omega) only [nI64, nU64, nU32, nU8, nSubL, nAddL, nAdd, nSub, nDiv, nMod, nZ, nLit, row_3, row_4, row_5, row_16, row_22, row_85, Ty.den, dflt_it, dflt_li, dflt_kv, Int.toNat_natCast, List.take_length, List.drop_zero]))
      try simp (maxSteps := 2000000) (disch := omega) only [nI64, nU64, nU32, nU8, nSubL, nAddL, nAdd, nSub, nDiv, nMod, nZ, nLit, row_3, row_4, row_5, row_16, row_22, row_85, Ty.den, dflt_it, dflt_li, dflt_kv, Int.toNat_natCast, List.take_length, List.drop_zero, hn]
      have g2 : ¬ b.length < i + 7 := by omega
      by_cases g3 : room i - 7 < n
      · have c3 : tst ((n : Int) > (room i : Int) - 7) = true := tst_t (by omega)
        try simp (maxSteps := 2000000) (disch := omega) only [nI64, nU64, nU32, nU8, nSubL, nAddL, nAdd, nSub, nDiv, nMod, nZ, nLit, row_3, row_4, row_5, row_16, row_22, row_85, Ty.den, dflt_it, dflt_li, dflt_kv, Int.toNat_natCast, List.take_length, List.drop_zero, c3]
        conv => lhs; whnf
        try simp (maxSteps := 2000000) (disch := omega) only [nI64, nU64, nU32, nU8, nSubL, nAddL, nAdd, nSub, nDiv, nMod, nZ, nLit, row_3, row_4, row_5, row_16, row_22, row_85, Ty.den, dflt_it, dflt_li, dflt_kv, Int.toNat_natCast, List.take_length, List.drop_zero]
        repeat (refine br_go ?_ ?_; (focus (((repeat' first | exact rfl | exact ordB_st rfl | exact ordB_of rfl | apply band | apply tst_t | apply nt_t)  <;> (try dsimp only [Ty.den, dflt_kv]) <;> (try simp only [List.length_append, List.length_cons, List.length_nil, List.length_take, List.length_drop, List.length_replicate]) <;> (first | trivial | assumption | omega | (change (_ : Int) ≤ _; omega) | (change (_ : Int) < _; omega) | (change (_ : Nat) * 1 ≤ _; omega) | (change (_ : Nat) * 48 ≤ _; omega) | (change (_ : Nat) * 24 ≤ _; omega) | (change (_ : Nat) * 8 ≤ _; omega) | (change (_ : Nat) * 64 ≤ _; omega) | decide)); done)); (conv => lhs; whnf); (try simp (maxSteps := 2000000) (disch := omega) only [nI64, nU64, nU32, nU8, nSubL, nAddL, nAdd, nSub, nDiv, nMod, nZ, nLit, row_3, row_4, row_5, row_16, row_22, row_85, Ty.den, dflt_it, dflt_li, dflt_kv, Int.toNat_natCast, List.take_length, List.drop_zero]))
        rw [fail (by rw [hnx]; exact headS_long g2 hn (.inl g3))]
        rfl
      · have c3 : tst ((n : Int) > (room i : Int) - 7) = false := tst_f (by omega)
        try simp (maxSteps := 2000000) (disch := omega) only [nI64, nU64, nU32, nU8, nSubL, nAddL, nAdd, nSub, nDiv, nMod, nZ, nLit, row_3, row_4, row_5, row_16, row_22, row_85, Ty.den, dflt_it, dflt_li, dflt_kv, Int.toNat_natCast, List.take_length, List.drop_zero, c3]
        conv => lhs; whnf
        try simp (maxSteps := 2000000) (disch := omega) only [nI64, nU64, nU32, nU8, nSubL, nAddL, nAdd, nSub, nDiv, nMod, nZ, nLit, row_3, row_4, row_5, row_16, row_22, row_85, Ty.den, dflt_it, dflt_li, dflt_kv, Int.toNat_natCast, List.take_length, List.drop_zero]
        repeat (refine br_go ?_ ?_; (focus (((repeat' first | exact rfl | exact ordB_st rfl | exact ordB_of rfl | apply band | apply tst_t | apply nt_t)  <;> (try dsimp only [Ty.den, dflt_kv]) <;> (try simp only [List.length_append, List.length_cons, List.length_nil, List.length_take, List.length_drop, List.length_replicate]) <;> (first | trivial | assumption | omega | (change (_ : Int) ≤ _; omega) | (change (_ : Int) < _; omega) | (change (_ : Nat) * 1 ≤ _; omega) | (change (_ : Nat) * 48 ≤ _; omega) | (change (_ : Nat) * 24 ≤ _; omega) | (change (_ : Nat) * 8 ≤ _; omega) | (change (_ : Nat) * 64 ≤ _; omega) | decide)); done)); (conv => lhs; whnf); (try simp (maxSteps := 2000000) (disch := omega) only [nI64, nU64, nU32, nU8, nSubL, nAddL, nAdd, nSub, nDiv, nMod, nZ, nLit, row_3, row_4, row_5, row_16, row_22, row_85, Ty.den, dflt_it, dflt_li, dflt_kv, Int.toNat_natCast, List.take_length, List.drop_zero]))
        by_cases g4 : b.length < i + 7 + n
        · have c4 : tst ((i : Int) + 7 + (n : Int) > (b.length : Int)) = true := tst_t (by omega)
          try simp (maxSteps := 2000000) (disch := omega) only [nI64, nU64, nU32, nU8, nSubL, nAddL, nAdd, nSub, nDiv, nMod, nZ, nLit, row_3, row_4, row_5, row_16, row_22, row_85, Ty.den, dflt_it, dflt_li, dflt_kv, Int.toNat_natCast, List.take_length, List.drop_zero, c4]
          conv => lhs; whnf
          try simp (maxSteps := 2000000) (disch := omega) only [nI64, nU64, nU32, nU8, nSubL, nAddL, nAdd, nSub, nDiv, nMod, nZ, nLit, row_3, row_4, row_5, row_16, row_22, row_85, Ty.den, dflt_it, dflt_li, dflt_kv, Int.toNat_natCast, List.take_length, List.drop_zero]
          repeat (refine br_go ?_ ?_; (focus (((repeat' first | exact rfl | exact ordB_st rfl | exact ordB_of rfl | apply band | apply tst_t | apply nt_t)  <;> (try dsimp only [Ty.den, dflt_kv]) <;> (try simp only [List.length_append, List.length_cons, List.length_nil, List.length_take, List.length_drop, List.length_replicate]) <;> (first | trivial | assumption | omega | (change (_ : Int) ≤ _; omega) | (change (_ : Int) < _; omega) | (change (_ : Nat) * 1 ≤ _; omega) | (change (_ : Nat) * 48 ≤ _; omega) | (change (_ : Nat) * 24 ≤ _; omega) | (change (_ : Nat) * 8 ≤ _; omega) | (change (_ : Nat) * 64 ≤ _; omega) | decide)); done)); (conv => lhs; whnf); (try simp (maxSteps := 2000000) (disch := omega) only [nI64, nU64, nU32, nU8, nSubL, nAddL, nAdd, nSub, nDiv, nMod, nZ, nLit, row_3, row_4, row_5, row_16, row_22, row_85, Ty.den, dflt_it, dflt_li, dflt_kv, Int.toNat_natCast, List.take_length, List.drop_zero]))
          rw [fail (by rw [hnx]; exact headS_long g2 hn (.inr g4))]
          rfl
        · have c4 : tst ((i : Int) + 7 + (n : Int) > (b.length : Int)) = false := tst_f (by omega)
          try simp (maxSteps := 2000000) (disch := omega) only [nI64, nU64, nU32, nU8, nSubL, nAddL, nAdd, nSub, nDiv, nMod, nZ, nLit, row_3, row_4, row_5, row_16, row_22, row_85, Ty.den, dflt_it, dflt_li, dflt_kv, Int.toNat_natCast, List.take_length, List.drop_zero, c4]
          conv => lhs; whnf
          try simp (maxSteps := 2000000) (disch := omega) only [nI64, nU64, nU32, nU8, nSubL, nAddL, nAdd, nSub, nDiv, nMod, nZ, nLit, row_3, row_4, row_5, row_16, row_22, row_85, Ty.den, dflt_it, dflt_li, dflt_kv, Int.toNat_natCast, List.take_length, List.drop_zero]
          repeat (refine br_go ?_ ?_; (focus (((repeat' first | exact rfl | exact ordB_st rfl | exact ordB_of rfl | apply band | apply tst_t | apply nt_t)  <;> (try dsimp only [Ty.den, dflt_kv]) <;> (try simp only [List.length_append, List.length_cons, List.length_nil, List.length_take, List.length_drop, List.length_replicate]) <;> (first | trivial | assumption | omega | (change (_ : Int) ≤ _; omega) | (change (_ : Int) < _; omega) | (change (_ : Nat) * 1 ≤ _; omega) | (change (_ : Nat) * 48 ≤ _; omega) | (change (_ : Nat) * 24 ≤ _; omega) | (change (_ : Nat) * 8 ≤ _; omega) | (change (_ : Nat) * 64 ≤ _; omega) | decide)); done)); (conv => lhs; whnf); (try simp (maxSteps := 2000000) (disch := omega) only [nI64, nU64, nU32, nU8, nSubL, nAddL, nAdd, nSub, nDiv, nMod, nZ, nLit, row_3, row_4, row_5, row_16, row_22, row_85, Ty.den, dflt_it, dflt_li, dflt_kv, Int.toNat_natCast, List.take_length, List.drop_zero]))
          have hg := headS_go g2 hn g3 g4
          have et : ((i : Int) + 7 + (n : Int)).toNat = i + 7 + n := by omega
          have eu : (List.take 4 (List.drop i b)) = cutS b i (i + 4) := by unfold cutS; rw [List.drop_take, show i + 4 - i = 4 by omega]
          try simp (maxSteps := 2000000) (disch := omega) only [nI64, nU64, nU32, nU8, nSubL, nAddL, nAdd, nSub, nDiv, nMod, nZ, nLit, row_3, row_4, row_5, row_16, row_22, row_85, Ty.den, dflt_it, dflt_li, dflt_kv, Int.toNat_natCast, List.take_length, List.drop_zero, et, eu]
          have hsl := sumS_lt (List.drop (i + 6) (List.take (i + 7 + n) b))
          have es : IntKind.u64.wrap (sumS (List.drop (i + 6) (List.take (i + 7 + n) b))) = sumS (List.drop (i + 6) (List.take (i + 7 + n) b)) := nU64 (by omega) (by omega)
          try simp (maxSteps := 2000000) (disch := omega) only [nI64, nU64, nU32, nU8, nSubL, nAddL, nAdd, nSub, nDiv, nMod, nZ, nLit, row_3, row_4, row_5, row_16, row_22, row_85, Ty.den, dflt_it, dflt_li, dflt_kv, Int.toNat_natCast, List.take_length, List.drop_zero, es]
          by_cases g5 : leVal (cutS b i (i + 4)) ≠ sumS (List.drop (i + 6) (List.take (i + 7 + n) b))
          · have c5 := tst_t g5
            try simp (maxSteps := 2000000) (disch := omega) only [nI64, nU64, nU32, nU8, nSubL, nAddL, nAdd, nSub, nDiv, nMod, nZ, nLit, row_3, row_4, row_5, row_16, row_22, row_85, Ty.den, dflt_it, dflt_li, dflt_kv, Int.toNat_natCast, List.take_length, List.drop_zero, c5]
            conv => lhs; whnf
            try simp (maxSteps := 2000000) (disch := omega) only [nI64, nU64, nU32, nU8, nSubL, nAddL, nAdd, nSub, nDiv, nMod, nZ, nLit, row_3, row_4, row_5, row_16, row_22, row_85, Ty.den, dflt_it, dflt_li, dflt_kv, Int.toNat_natCast, List.take_length, List.drop_zero]
            repeat (refine br_go ?_ ?_; (focus (((repeat' first | exact rfl | exact ordB_st rfl | exact ordB_of rfl | apply band | apply tst_t | apply nt_t)  <;> (try dsimp only [Ty.den, dflt_kv]) <;> (try simp only [List.length_append, List.length_cons, List.length_nil, List.length_take, List.length_drop, List.length_replicate]) <;> (first | trivial | assumption | omega | (change (_ : Int) ≤ _; omega) | (change (_ : Int) < _; omega) | (change (_ : Nat) * 1 ≤ _; omega) | (change (_ : Nat) * 48 ≤ _; omega) | (change (_ : Nat) * 24 ≤ _; omega) | (change (_ : Nat) * 8 ≤ _; omega) | (change (_ : Nat) * 64 ≤ _; omega) | decide)); done)); (conv => lhs; whnf); (try simp (maxSteps := 2000000) (disch := omega) only [nI64, nU64, nU32, nU8, nSubL, nAddL, nAdd, nSub, nDiv, nMod, nZ, nLit, row_3, row_4, row_5, row_16, row_22, row_85, Ty.den, dflt_it, dflt_li, dflt_kv, Int.toNat_natCast, List.take_length, List.drop_zero]))
            rw [fail (by rw [hnx, hg]; exact if_pos (fun h => g5 h.symm))]
            rfl
          · have c5 := tst_f g5
            try simp (maxSteps := 2000000) (disch := omega) only [nI64, nU64, nU32, nU8, nSubL, nAddL, nAdd, nSub, nDiv, nMod, nZ, nLit, row_3, row_4, row_5, row_16, row_22, row_85, Ty.den, dflt_it, dflt_li, dflt_kv, Int.toNat_natCast, List.take_length, List.drop_zero, c5]
            conv => lhs; whnf
            try simp (maxSteps := 2000000) (disch := omega) only [nI64, nU64, nU32, nU8, nSubL, nAddL, nAdd, nSub, nDiv, nMod, nZ, nLit, row_3, row_4, row_5, row_16, row_22, row_85, Ty.den, dflt_it, dflt_li, dflt_kv, Int.toNat_natCast, List.take_length, List.drop_zero]
            have hx0 : nextS b i = some (b.getD (i + 6) 0, cutS b (i + 7) (i + 7 + n), i + 7 + n) := by rw [hnx, hg]; exact if_neg (fun h => g5 (fun h2 => h h2.symm))
            have hrs := recS_some (g := g) (out := o) hx0
            have hdl : (cutS b (i + 7) (i + 7 + n)).length = n := by unfold cutS; rw [List.length_drop, List.length_take]; omega
            have hcd : List.drop (i + 7) (List.take (i + 7 + n) b) = cutS b (i + 7) (i + 7 + n) := rfl
            generalize b.getD (i + 6) 0 = k at *
            repeat (refine br_go ?_ ?_; (focus (((repeat' first | exact rfl | exact ordB_st rfl | exact ordB_of rfl | apply band | apply tst_t | apply nt_t)  <;> (try dsimp only [Ty.den, dflt_kv]) <;> (try simp only [List.length_append, List.length_cons, List.length_nil, List.length_take, List.length_drop, List.length_replicate]) <;> (first | trivial | assumption | omega | (change (_ : Int) ≤ _; omega) | (change (_ : Int) < _; omega) | (change (_ : Nat) * 1 ≤ _; omega) | (change (_ : Nat) * 48 ≤ _; omega) | (change (_ : Nat) * 24 ≤ _; omega) | (change (_ : Nat) * 8 ≤ _; omega) | (change (_ : Nat) * 64 ≤ _; omega) | decide)); done)); (conv => lhs; whnf); (try simp (maxSteps := 2000000) (disch := omega) only [nI64, nU64, nU32, nU8, nSubL, nAddL, nAdd, nSub, nDiv, nMod, nZ, nLit, row_3, row_4, row_5, row_16, row_22, row_85, Ty.den, dflt_it, dflt_li, dflt_kv, Int.toNat_natCast, List.take_length, List.drop_zero]))
            try simp (maxSteps := 2000000) (disch := omega) only [nI64, nU64, nU32, nU8, nSubL, nAddL, nAdd, nSub, nDiv, nMod, nZ, nLit, row_3, row_4, row_5, row_16, row_22, row_85, Ty.den, dflt_it, dflt_li, dflt_kv, Int.toNat_natCast, List.take_length, List.drop_zero, et, hcd]
            have b1 : tst ((false : Bool) ≠ true) = true := tst_t (by decide)
            have b2 : tst ((false : Bool) ≠ false) = false := tst_f (by decide)
            have b3 : tst ((true : Bool) ≠ true) = false := tst_f (by decide)
            have b4 : tst ((true : Bool) ≠ false) = true := tst_t (by decide)
            have hbad : (recS b i g o).2.2 = false → R = ([], 0, false) := fun h => by rw [← k3, oneS_no h]
            have hyes : (recS b i g o).2.2 = true → R = recS b i g o := fun h => by rw [← k3]; unfold oneS; rw [if_pos h]
            have hem : (i + 7 + n) % 64 = 0 ↔ ¬ n < room i - 7 := by omega
            by_cases e3 : k = 3
            · have t1 : tst (k = 1) = false := tst_f (by omega)
              have t3 : tst (k = 3) = true := tst_t (by omega)
              have t4 : tst (k = 4) = false := tst_f (by omega)
              have tl : tst (k < 1) = false := tst_f (by omega)
              have tg : tst (k > 4) = false := tst_f (by omega)
              cases g with
              | false =>
                rw [hbad (by rw [hrs, if_neg (show ¬ k = 2 by omega), if_pos e3, if_pos (show (false = false ∨ (i + 7 + n) % 64 ≠ 0) from .inl rfl)]; split <;> rfl)]
                try simp (maxSteps := 2000000) (disch := omega) only [nI64, nU64, nU32, nU8, nSubL, nAddL, nAdd, nSub, nDiv, nMod, nZ, nLit, row_3, row_4, row_5, row_16, row_22, row_85, Ty.den, dflt_it, dflt_li, dflt_kv, Int.toNat_natCast, List.take_length, List.drop_zero, t1, t3, t4, tl, tg, b1, b2, b3, b4]
                conv => lhs; whnf
                try simp (maxSteps := 2000000) (disch := omega) only [nI64, nU64, nU32, nU8, nSubL, nAddL, nAdd, nSub, nDiv, nMod, nZ, nLit, row_3, row_4, row_5, row_16, row_22, row_85, Ty.den, dflt_it, dflt_li, dflt_kv, Int.toNat_natCast, List.take_length, List.drop_zero]
                try simp (maxSteps := 2000000) (disch := omega) only [nI64, nU64, nU32, nU8, nSubL, nAddL, nAdd, nSub, nDiv, nMod, nZ, nLit, row_3, row_4, row_5, row_16, row_22, row_85, Ty.den, dflt_it, dflt_li, dflt_kv, Int.toNat_natCast, List.take_length, List.drop_zero, t1, t3, t4, tl, tg, b1, b2, b3, b4]
                conv => lhs; whnf
                try simp (maxSteps := 2000000) (disch := omega) only [nI64, nU64, nU32, nU8, nSubL, nAddL, nAdd, nSub, nDiv, nMod, nZ, nLit, row_3, row_4, row_5, row_16, row_22, row_85, Ty.den, dflt_it, dflt_li, dflt_kv, Int.toNat_natCast, List.take_length, List.drop_zero]
                try simp (maxSteps := 2000000) (disch := omega) only [nI64, nU64, nU32, nU8, nSubL, nAddL, nAdd, nSub, nDiv, nMod, nZ, nLit, row_3, row_4, row_5, row_16, row_22, row_85, Ty.den, dflt_it, dflt_li, dflt_kv, Int.toNat_natCast, List.take_length, List.drop_zero, t1, t3, t4, tl, tg, b1, b2, b3, b4]
                conv => lhs; whnf
                try simp (maxSteps := 2000000) (disch := omega) only [nI64, nU64, nU32, nU8, nSubL, nAddL, nAdd, nSub, nDiv, nMod, nZ, nLit, row_3, row_4, row_5, row_16, row_22, row_85, Ty.den, dflt_it, dflt_li, dflt_kv, Int.toNat_natCast, List.take_length, List.drop_zero]
                try simp (maxSteps := 2000000) (disch := omega) only [nI64, nU64, nU32, nU8, nSubL, nAddL, nAdd, nSub, nDiv, nMod, nZ, nLit, row_3, row_4, row_5, row_16, row_22, row_85, Ty.den, dflt_it, dflt_li, dflt_kv, Int.toNat_natCast, List.take_length, List.drop_zero, t1, t3, t4, tl, tg, b1, b2, b3, b4]
                conv => lhs; whnf
                try simp (maxSteps := 2000000) (disch := omega) only [nI64, nU64, nU32, nU8, nSubL, nAddL, nAdd, nSub, nDiv, nMod, nZ, nLit, row_3, row_4, row_5, row_16, row_22, row_85, Ty.den, dflt_it, dflt_li, dflt_kv, Int.toNat_natCast, List.take_length, List.drop_zero]
                try simp (maxSteps := 2000000) (disch := omega) only [nI64, nU64, nU32, nU8, nSubL, nAddL, nAdd, nSub, nDiv, nMod, nZ, nLit, row_3, row_4, row_5, row_16, row_22, row_85, Ty.den, dflt_it, dflt_li, dflt_kv, Int.toNat_natCast, List.take_length, List.drop_zero, t1, t3, t4, tl, tg, b1, b2, b3, b4]
                conv => lhs; whnf
                try simp (maxSteps := 2000000) (disch := omega) only [nI64, nU64, nU32, nU8, nSubL, nAddL, nAdd, nSub, nDiv, nMod, nZ, nLit, row_3, row_4, row_5, row_16, row_22, row_85, Ty.den, dflt_it, dflt_li, dflt_kv, Int.toNat_natCast, List.take_length, List.drop_zero]
                try simp (maxSteps := 2000000) (disch := omega) only [nI64, nU64, nU32, nU8, nSubL, nAddL, nAdd, nSub, nDiv, nMod, nZ, nLit, row_3, row_4, row_5, row_16, row_22, row_85, Ty.den, dflt_it, dflt_li, dflt_kv, Int.toNat_natCast, List.take_length, List.drop_zero, t1, t3, t4, tl, tg, b1, b2, b3, b4]
                conv => lhs; whnf
                try simp (maxSteps := 2000000) (disch := omega) only [nI64, nU64, nU32, nU8, nSubL, nAddL, nAdd, nSub, nDiv, nMod, nZ, nLit, row_3, row_4, row_5, row_16, row_22, row_85, Ty.den, dflt_it, dflt_li, dflt_kv, Int.toNat_natCast, List.take_length, List.drop_zero]
                try simp (maxSteps := 2000000) (disch := omega) only [nI64, nU64, nU32, nU8, nSubL, nAddL, nAdd, nSub, nDiv, nMod, nZ, nLit, row_3, row_4, row_5, row_16, row_22, row_85, Ty.den, dflt_it, dflt_li, dflt_kv, Int.toNat_natCast, List.take_length, List.drop_zero, t1, t3, t4, tl, tg, b1, b2, b3, b4]
                conv => lhs; whnf
                try simp (maxSteps := 2000000) (disch := omega) only [nI64, nU64, nU32, nU8, nSubL, nAddL, nAdd, nSub, nDiv, nMod, nZ, nLit, row_3, row_4, row_5, row_16, row_22, row_85, Ty.den, dflt_it, dflt_li, dflt_kv, Int.toNat_natCast, List.take_length, List.drop_zero]
                repeat (refine br_go ?_ ?_; (focus (((repeat' first | exact rfl | exact ordB_st rfl | exact ordB_of rfl | apply band | apply tst_t | apply nt_t)  <;> (try dsimp only [Ty.den, dflt_kv]) <;> (try simp only [List.length_append, List.length_cons, List.length_nil, List.length_take, List.length_drop, List.length_replicate]) <;> (first | trivial | assumption | omega | (change (_ : Int) ≤ _; omega) | (change (_ : Int) < _; omega) | (change (_ : Nat) * 1 ≤ _; omega) | (change (_ : Nat) * 48 ≤ _; omega) | (change (_ : Nat) * 24 ≤ _; omega) | (change (_ : Nat) * 8 ≤ _; omega) | (change (_ : Nat) * 64 ≤ _; omega) | decide)); done)); (conv => lhs; whnf); (try simp (maxSteps := 2000000) (disch := omega) only [nI64, nU64, nU32, nU8, nSubL, nAddL, nAdd, nSub, nDiv, nMod, nZ, nLit, row_3, row_4, row_5, row_16, row_22, row_85, Ty.den, dflt_it, dflt_li, dflt_kv, Int.toNat_natCast, List.take_length, List.drop_zero]))
                rfl
              | true =>
                try simp (maxSteps := 2000000) (disch := omega) only [nI64, nU64, nU32, nU8, nSubL, nAddL, nAdd, nSub, nDiv, nMod, nZ, nLit, row_3, row_4, row_5, row_16, row_22, row_85, Ty.den, dflt_it, dflt_li, dflt_kv, Int.toNat_natCast, List.take_length, List.drop_zero, t1, t3, t4, tl, tg, b1, b2, b3, b4]
                conv => lhs; whnf
                try simp (maxSteps := 2000000) (disch := omega) only [nI64, nU64, nU32, nU8, nSubL, nAddL, nAdd, nSub, nDiv, nMod, nZ, nLit, row_3, row_4, row_5, row_16, row_22, row_85, Ty.den, dflt_it, dflt_li, dflt_kv, Int.toNat_natCast, List.take_length, List.drop_zero]
                try simp (maxSteps := 2000000) (disch := omega) only [nI64, nU64, nU32, nU8, nSubL, nAddL, nAdd, nSub, nDiv, nMod, nZ, nLit, row_3, row_4, row_5, row_16, row_22, row_85, Ty.den, dflt_it, dflt_li, dflt_kv, Int.toNat_natCast, List.take_length, List.drop_zero, t1, t3, t4, tl, tg, b1, b2, b3, b4]
                conv => lhs; whnf
                try simp (maxSteps := 2000000) (disch := omega) only [nI64, nU64, nU32, nU8, nSubL, nAddL, nAdd, nSub, nDiv, nMod, nZ, nLit, row_3, row_4, row_5, row_16, row_22, row_85, Ty.den, dflt_it, dflt_li, dflt_kv, Int.toNat_natCast, List.take_length, List.drop_zero]
                try simp (maxSteps := 2000000) (disch := omega) only [nI64, nU64, nU32, nU8, nSubL, nAddL, nAdd, nSub, nDiv, nMod, nZ, nLit, row_3, row_4, row_5, row_16, row_22, row_85, Ty.den, dflt_it, dflt_li, dflt_kv, Int.toNat_natCast, List.take_length, List.drop_zero, t1, t3, t4, tl, tg, b1, b2, b3, b4]
                conv => lhs; whnf
                try simp (maxSteps := 2000000) (disch := omega) only [nI64, nU64, nU32, nU8, nSubL, nAddL, nAdd, nSub, nDiv, nMod, nZ, nLit, row_3, row_4, row_5, row_16, row_22, row_85, Ty.den, dflt_it, dflt_li, dflt_kv, Int.toNat_natCast, List.take_length, List.drop_zero]
                try simp (maxSteps := 2000000) (disch := omega) only [nI64, nU64, nU32, nU8, nSubL, nAddL, nAdd, nSub, nDiv, nMod, nZ, nLit, row_3, row_4, row_5, row_16, row_22, row_85, Ty.den, dflt_it, dflt_li, dflt_kv, Int.toNat_natCast, List.take_length, List.drop_zero, t1, t3, t4, tl, tg, b1, b2, b3, b4]
                conv => lhs; whnf
                try simp (maxSteps := 2000000) (disch := omega) only [nI64, nU64, nU32, nU8, nSubL, nAddL, nAdd, nSub, nDiv, nMod, nZ, nLit, row_3, row_4, row_5, row_16, row_22, row_85, Ty.den, dflt_it, dflt_li, dflt_kv, Int.toNat_natCast, List.take_length, List.drop_zero]
                try simp (maxSteps := 2000000) (disch := omega) only [nI64, nU64, nU32, nU8, nSubL, nAddL, nAdd, nSub, nDiv, nMod, nZ, nLit, row_3, row_4, row_5, row_16, row_22, row_85, Ty.den, dflt_it, dflt_li, dflt_kv, Int.toNat_natCast, List.take_length, List.drop_zero, t1, t3, t4, tl, tg, b1, b2, b3, b4]
                conv => lhs; whnf
                try simp (maxSteps := 2000000) (disch := omega) only [nI64, nU64, nU32, nU8, nSubL, nAddL, nAdd, nSub, nDiv, nMod, nZ, nLit, row_3, row_4, row_5, row_16, row_22, row_85, Ty.den, dflt_it, dflt_li, dflt_kv, Int.toNat_natCast, List.take_length, List.drop_zero]
                try simp (maxSteps := 2000000) (disch := omega) only [nI64, nU64, nU32, nU8, nSubL, nAddL, nAdd, nSub, nDiv, nMod, nZ, nLit, row_3, row_4, row_5, row_16, row_22, row_85, Ty.den, dflt_it, dflt_li, dflt_kv, Int.toNat_natCast, List.take_length, List.drop_zero, t1, t3, t4, tl, tg, b1, b2, b3, b4]
                conv => lhs; whnf
                try simp (maxSteps := 2000000) (disch := omega) only [nI64, nU64, nU32, nU8, nSubL, nAddL, nAdd, nSub, nDiv, nMod, nZ, nLit, row_3, row_4, row_5, row_16, row_22, row_85, Ty.den, dflt_it, dflt_li, dflt_kv, Int.toNat_natCast, List.take_length, List.drop_zero]
                try simp (maxSteps := 2000000) (disch := omega) only [nI64, nU64, nU32, nU8, nSubL, nAddL, nAdd, nSub, nDiv, nMod, nZ, nLit, row_3, row_4, row_5, row_16, row_22, row_85, Ty.den, dflt_it, dflt_li, dflt_kv, Int.toNat_natCast, List.take_length, List.drop_zero, t1, t3, t4, tl, tg, b1, b2, b3, b4]
                conv => lhs; whnf
                try simp (maxSteps := 2000000) (disch := omega) only [nI64, nU64, nU32, nU8, nSubL, nAddL, nAdd, nSub, nDiv, nMod, nZ, nLit, row_3, row_4, row_5, row_16, row_22, row_85, Ty.den, dflt_it, dflt_li, dflt_kv, Int.toNat_natCast, List.take_length, List.drop_zero]
                repeat (refine br_go ?_ ?_; (focus (((repeat' first | exact rfl | exact ordB_st rfl | exact ordB_of rfl | apply band | apply tst_t | apply nt_t)  <;> (try dsimp only [Ty.den, dflt_kv]) <;> (try simp only [List.length_append, List.length_cons, List.length_nil, List.length_take, List.length_drop, List.length_replicate]) <;> (first | trivial | assumption | omega | (change (_ : Int) ≤ _; omega) | (change (_ : Int) < _; omega) | (change (_ : Nat) * 1 ≤ _; omega) | (change (_ : Nat) * 48 ≤ _; omega) | (change (_ : Nat) * 24 ≤ _; omega) | (change (_ : Nat) * 8 ≤ _; omega) | (change (_ : Nat) * 64 ≤ _; omega) | decide)); done)); (conv => lhs; whnf); (try simp (maxSteps := 2000000) (disch := omega) only [nI64, nU64, nU32, nU8, nSubL, nAddL, nAdd, nSub, nDiv, nMod, nZ, nLit, row_3, row_4, row_5, row_16, row_22, row_85, Ty.den, dflt_it, dflt_li, dflt_kv, Int.toNat_natCast, List.take_length, List.drop_zero]))
                by_cases q0 : n < room i - 7
                · have c0 : tst ((n : Int) < (room i : Int) - 7) = true := tst_t (by omega)
                  try simp (maxSteps := 2000000) (disch := omega) only [nI64, nU64, nU32, nU8, nSubL, nAddL, nAdd, nSub, nDiv, nMod, nZ, nLit, row_3, row_4, row_5, row_16, row_22, row_85, Ty.den, dflt_it, dflt_li, dflt_kv, Int.toNat_natCast, List.take_length, List.drop_zero, c0]
                  conv => lhs; whnf
                  try simp (maxSteps := 2000000) (disch := omega) only [nI64, nU64, nU32, nU8, nSubL, nAddL, nAdd, nSub, nDiv, nMod, nZ, nLit, row_3, row_4, row_5, row_16, row_22, row_85, Ty.den, dflt_it, dflt_li, dflt_kv, Int.toNat_natCast, List.take_length, List.drop_zero]
                  repeat (refine br_go ?_ ?_; (focus (((repeat' first | exact rfl | exact ordB_st rfl | exact ordB_of rfl | apply band | apply tst_t | apply nt_t)  <;> (try dsimp only [Ty.den, dflt_kv]) <;> (try simp only [List.length_append, List.length_cons, List.length_nil, List.length_take, List.length_drop, List.length_replicate]) <;> (first | trivial | assumption | omega | (change (_ : Int) ≤ _; omega) | (change (_ : Int) < _; omega) | (change (_ : Nat) * 1 ≤ _; omega) | (change (_ : Nat) * 48 ≤ _; omega) | (change (_ : Nat) * 24 ≤ _; omega) | (change (_ : Nat) * 8 ≤ _; omega) | (change (_ : Nat) * 64 ≤ _; omega) | decide)); done)); (conv => lhs; whnf); (try simp (maxSteps := 2000000) (disch := omega) only [nI64, nU64, nU32, nU8, nSubL, nAddL, nAdd, nSub, nDiv, nMod, nZ, nLit, row_3, row_4, row_5, row_16, row_22, row_85, Ty.den, dflt_it, dflt_li, dflt_kv, Int.toNat_natCast, List.take_length, List.drop_zero]))
                  rw [hbad (by rw [hrs, if_neg (show ¬ k = 2 by omega), if_pos e3, if_pos (show (_ ∨ (i + 7 + n) % 64 ≠ 0) from .inr (fun h => hem.1 h q0))]; split <;> rfl)]
                  rfl
                · have c0 : tst ((n : Int) < (room i : Int) - 7) = false := tst_f (by omega)
                  try simp (maxSteps := 2000000) (disch := omega) only [nI64, nU64, nU32, nU8, nSubL, nAddL, nAdd, nSub, nDiv, nMod, nZ, nLit, row_3, row_4, row_5, row_16, row_22, row_85, Ty.den, dflt_it, dflt_li, dflt_kv, Int.toNat_natCast, List.take_length, List.drop_zero, c0]
                  conv => lhs; whnf
                  try simp (maxSteps := 2000000) (disch := omega) only [nI64, nU64, nU32, nU8, nSubL, nAddL, nAdd, nSub, nDiv, nMod, nZ, nLit, row_3, row_4, row_5, row_16, row_22, row_85, Ty.den, dflt_it, dflt_li, dflt_kv, Int.toNat_natCast, List.take_length, List.drop_zero]
                  repeat (refine br_go ?_ ?_; (focus (((repeat' first | exact rfl | exact ordB_st rfl | exact ordB_of rfl | apply band | apply tst_t | apply nt_t)  <;> (try dsimp only [Ty.den, dflt_kv]) <;> (try simp only [List.length_append, List.length_cons, List.length_nil, List.length_take, List.length_drop, List.length_replicate]) <;> (first | trivial | assumption | omega | (change (_ : Int) ≤ _; omega) | (change (_ : Int) < _; omega) | (change (_ : Nat) * 1 ≤ _; omega) | (change (_ : Nat) * 48 ≤ _; omega) | (change (_ : Nat) * 24 ≤ _; omega) | (change (_ : Nat) * 8 ≤ _; omega) | (change (_ : Nat) * 64 ≤ _; omega) | decide)); done)); (conv => lhs; whnf); (try simp (maxSteps := 2000000) (disch := omega) only [nI64, nU64, nU32, nU8, nSubL, nAddL, nAdd, nSub, nDiv, nMod, nZ, nLit, row_3, row_4, row_5, row_16, row_22, row_85, Ty.den, dflt_it, dflt_li, dflt_kv, Int.toNat_natCast, List.take_length, List.drop_zero]))
                  try simp (maxSteps := 2000000) (disch := omega) only [nI64, nU64, nU32, nU8, nSubL, nAddL, nAdd, nSub, nDiv, nMod, nZ, nLit, row_3, row_4, row_5, row_16, row_22, row_85, Ty.den, dflt_it, dflt_li, dflt_kv, Int.toNat_natCast, List.take_length, List.drop_zero, et, hcd]
                  by_cases q1 : 4194304 < (o ++ cutS b (i + 7) (i + 7 + n)).length
                  · have c1 : tst (((o ++ cutS b (i + 7) (i + 7 + n)).length : Int) > 4194304) = true := tst_t (by omega)
                    try simp (maxSteps := 2000000) (disch := omega) only [nI64, nU64, nU32, nU8, nSubL, nAddL, nAdd, nSub, nDiv, nMod, nZ, nLit, row_3, row_4, row_5, row_16, row_22, row_85, Ty.den, dflt_it, dflt_li, dflt_kv, Int.toNat_natCast, List.take_length, List.drop_zero, c1]
                    conv => lhs; whnf
                    try simp (maxSteps := 2000000) (disch := omega) only [nI64, nU64, nU32, nU8, nSubL, nAddL, nAdd, nSub, nDiv, nMod, nZ, nLit, row_3, row_4, row_5, row_16, row_22, row_85, Ty.den, dflt_it, dflt_li, dflt_kv, Int.toNat_natCast, List.take_length, List.drop_zero]
                    repeat (refine br_go ?_ ?_; (focus (((repeat' first | exact rfl | exact ordB_st rfl | exact ordB_of rfl | apply band | apply tst_t | apply nt_t)  <;> (try dsimp only [Ty.den, dflt_kv]) <;> (try simp only [List.length_append, List.length_cons, List.length_nil, List.length_take, List.length_drop, List.length_replicate]) <;> (first | trivial | assumption | omega | (change (_ : Int) ≤ _; omega) | (change (_ : Int) < _; omega) | (change (_ : Nat) * 1 ≤ _; omega) | (change (_ : Nat) * 48 ≤ _; omega) | (change (_ : Nat) * 24 ≤ _; omega) | (change (_ : Nat) * 8 ≤ _; omega) | (change (_ : Nat) * 64 ≤ _; omega) | decide)); done)); (conv => lhs; whnf); (try simp (maxSteps := 2000000) (disch := omega) only [nI64, nU64, nU32, nU8, nSubL, nAddL, nAdd, nSub, nDiv, nMod, nZ, nLit, row_3, row_4, row_5, row_16, row_22, row_85, Ty.den, dflt_it, dflt_li, dflt_kv, Int.toNat_natCast, List.take_length, List.drop_zero]))
                    rw [hbad (by rw [hrs, if_pos q1])]
                    rfl
                  · have c1 : tst (((o ++ cutS b (i + 7) (i + 7 + n)).length : Int) > 4194304) = false := tst_f (by omega)
                    try simp (maxSteps := 2000000) (disch := omega) only [nI64, nU64, nU32, nU8, nSubL, nAddL, nAdd, nSub, nDiv, nMod, nZ, nLit, row_3, row_4, row_5, row_16, row_22, row_85, Ty.den, dflt_it, dflt_li, dflt_kv, Int.toNat_natCast, List.take_length, List.drop_zero, c1]
                    conv => lhs; whnf
                    try simp (maxSteps := 2000000) (disch := omega) only [nI64, nU64, nU32, nU8, nSubL, nAddL, nAdd, nSub, nDiv, nMod, nZ, nLit, row_3, row_4, row_5, row_16, row_22, row_85, Ty.den, dflt_it, dflt_li, dflt_kv, Int.toNat_natCast, List.take_length, List.drop_zero]
                    repeat (refine br_go ?_ ?_; (focus (((repeat' first | exact rfl | exact ordB_st rfl | exact ordB_of rfl | apply band | apply tst_t | apply nt_t)  <;> (try dsimp only [Ty.den, dflt_kv]) <;> (try simp only [List.length_append, List.length_cons, List.length_nil, List.length_take, List.length_drop, List.length_replicate]) <;> (first | trivial | assumption | omega | (change (_ : Int) ≤ _; omega) | (change (_ : Int) < _; omega) | (change (_ : Nat) * 1 ≤ _; omega) | (change (_ : Nat) * 48 ≤ _; omega) | (change (_ : Nat) * 24 ≤ _; omega) | (change (_ : Nat) * 8 ≤ _; omega) | (change (_ : Nat) * 64 ≤ _; omega) | decide)); done)); (conv => lhs; whnf); (try simp (maxSteps := 2000000) (disch := omega) only [nI64, nU64, nU32, nU8, nSubL, nAddL, nAdd, nSub, nDiv, nMod, nZ, nLit, row_3, row_4, row_5, row_16, row_22, row_85, Ty.den, dflt_it, dflt_li, dflt_kv, Int.toNat_natCast, List.take_length, List.drop_zero]))
                    have hcon : recS b i true o = recS b (i + 7 + n) true (o ++ cutS b (i + 7) (i + 7 + n)) := by rw [hrs, if_neg q1, if_neg (show ¬ k = 2 by omega), if_pos e3, if_neg (show ¬ (_ ∨ (i + 7 + n) % 64 ≠ 0) from fun h => h.elim (fun h => by cases h) (fun h => h (hem.2 q0)))]
                    have e : ((i : Int) + 7 + (n : Int)) = ((i + 7 + n : Nat) : Int) := by omega
                    rw [e]
                    exact hK (i + 7 + n, true, o ++ cutS b (i + 7) (i + 7 + n)) ⟨by show i + 7 + n ≤ _; omega, by show (o ++ _).length ≤ _; omega, by rw [← k3]; unfold oneS; rw [hcon]⟩ (by show b.length - (i + 7 + n) < b.length - i; omega)
            · have t3 : tst (k = 3) = false := tst_f e3
              by_cases e4 : k = 4
              · have t1 : tst (k = 1) = false := tst_f (by omega)
                have t4 : tst (k = 4) = true := tst_t (by omega)
                have tl : tst (k < 1) = false := tst_f (by omega)
                have tg : tst (k > 4) = false := tst_f (by omega)
                cases g with
                | false =>
                  rw [hbad (by rw [hrs, if_neg (show ¬ k = 2 by omega), if_neg e3, if_neg (show ¬ k = 1 by omega), if_pos e4]; split <;> rfl)]
                  try simp (maxSteps := 2000000) (disch := omega) only [nI64, nU64, nU32, nU8, nSubL, nAddL, nAdd, nSub, nDiv, nMod, nZ, nLit, row_3, row_4, row_5, row_16, row_22, row_85, Ty.den, dflt_it, dflt_li, dflt_kv, Int.toNat_natCast, List.take_length, List.drop_zero, t1, t3, t4, tl, tg, b1, b2, b3, b4]
                  conv => lhs; whnf
                  try simp (maxSteps := 2000000) (disch := omega) only [nI64, nU64, nU32, nU8, nSubL, nAddL, nAdd, nSub, nDiv, nMod, nZ, nLit, row_3, row_4, row_5, row_16, row_22, row_85, Ty.den, dflt_it, dflt_li, dflt_kv, Int.toNat_natCast, List.take_length, List.drop_zero]
                  try simp (maxSteps := 2000000) (disch := omega) only [nI64, nU64, nU32, nU8, nSubL, nAddL, nAdd, nSub, nDiv, nMod, nZ, nLit, row_3, row_4, row_5, row_16, row_22, row_85, Ty.den, dflt_it, dflt_li, dflt_kv, Int.toNat_natCast, List.take_length, List.drop_zero, t1, t3, t4, tl, tg, b1, b2, b3, b4]
                  conv => lhs; whnf
                  try simp (maxSteps := 2000000) (disch := omega) only [nI64, nU64, nU32, nU8, nSubL, nAddL, nAdd, nSub, nDiv, nMod, nZ, nLit, row_3, row_4, row_5, row_16, row_22, row_85, Ty.den, dflt_it, dflt_li, dflt_kv, Int.toNat_natCast, List.take_length, List.drop_zero]
                  try simp (maxSteps := 2000000) (disch := omega) only [nI64, nU64, nU32, nU8, nSubL, nAddL, nAdd, nSub, nDiv, nMod, nZ, nLit, row_3, row_4, row_5, row_16, row_22, row_85, Ty.den, dflt_it, dflt_li, dflt_kv, Int.toNat_natCast, List.take_length, List.drop_zero, t1, t3, t4, tl, tg, b1, b2, b3, b4]
                  conv => lhs; whnf
                  try simp (maxSteps := 2000000) (disch := omega) only [nI64, nU64, nU32, nU8, nSubL, nAddL, nAdd, nSub, nDiv, nMod, nZ, nLit, row_3, row_4, row_5, row_16, row_22, row_85, Ty.den, dflt_it, dflt_li, dflt_kv, Int.toNat_natCast, List.take_length, List.drop_zero]
                  try simp (maxSteps := 2000000) (disch := omega) only [nI64, nU64, nU32, nU8, nSubL, nAddL, nAdd, nSub, nDiv, nMod, nZ, nLit, row_3, row_4, row_5, row_16, row_22, row_85, Ty.den, dflt_it, dflt_li, dflt_kv, Int.toNat_natCast, List.take_length, List.drop_zero, t1, t3, t4, tl, tg, b1, b2, b3, b4]
                  conv => lhs; whnf
                  try simp (maxSteps := 2000000) (disch := omega) only [nI64, nU64, nU32, nU8, nSubL, nAddL, nAdd, nSub, nDiv, nMod, nZ, nLit, row_3, row_4, row_5, row_16, row_22, row_85, Ty.den, dflt_it, dflt_li, dflt_kv, Int.toNat_natCast, List.take_length, List.drop_zero]
                  try simp (maxSteps := 2000000) (disch := omega) only [nI64, nU64, nU32, nU8, nSubL, nAddL, nAdd, nSub, nDiv, nMod, nZ, nLit, row_3, row_4, row_5, row_16, row_22, row_85, Ty.den, dflt_it, dflt_li, dflt_kv, Int.toNat_natCast, List.take_length, List.drop_zero, t1, t3, t4, tl, tg, b1, b2, b3, b4]
                  conv => lhs; whnf
                  try simp (maxSteps := 2000000) (disch := omega) only [nI64, nU64, nU32, nU8, nSubL, nAddL, nAdd, nSub, nDiv, nMod, nZ, nLit, row_3, row_4, row_5, row_16, row_22, row_85, Ty.den, dflt_it, dflt_li, dflt_kv, Int.toNat_natCast, List.take_length, List.drop_zero]
                  try simp (maxSteps := 2000000) (disch := omega) only [nI64, nU64, nU32, nU8, nSubL, nAddL, nAdd, nSub, nDiv, nMod, nZ, nLit, row_3, row_4, row_5, row_16, row_22, row_85, Ty.den, dflt_it, dflt_li, dflt_kv, Int.toNat_natCast, List.take_length, List.drop_zero, t1, t3, t4, tl, tg, b1, b2, b3, b4]
                  conv => lhs; whnf
                  try simp (maxSteps := 2000000) (disch := omega) only [nI64, nU64, nU32, nU8, nSubL, nAddL, nAdd, nSub, nDiv, nMod, nZ, nLit, row_3, row_4, row_5, row_16, row_22, row_85, Ty.den, dflt_it, dflt_li, dflt_kv, Int.toNat_natCast, List.take_length, List.drop_zero]
                  try simp (maxSteps := 2000000) (disch := omega) only [nI64, nU64, nU32, nU8, nSubL, nAddL, nAdd, nSub, nDiv, nMod, nZ, nLit, row_3, row_4, row_5, row_16, row_22, row_85, Ty.den, dflt_it, dflt_li, dflt_kv, Int.toNat_natCast, List.take_length, List.drop_zero, t1, t3, t4, tl, tg, b1, b2, b3, b4]
                  conv => lhs; whnf
                  try simp (maxSteps := 2000000) (disch := omega) only [nI64, nU64, nU32, nU8, nSubL, nAddL, nAdd, nSub, nDiv, nMod, nZ, nLit, row_3, row_4, row_5, row_16, row_22, row_85, Ty.den, dflt_it, dflt_li, dflt_kv, Int.toNat_natCast, List.take_length, List.drop_zero]
                  repeat (refine br_go ?_ ?_; (focus (((repeat' first | exact rfl | exact ordB_st rfl | exact ordB_of rfl | apply band | apply tst_t | apply nt_t)  <;> (try dsimp only [Ty.den, dflt_kv]) <;> (try simp only [List.length_append, List.length_cons, List.length_nil, List.length_take, List.length_drop, List.length_replicate]) <;> (first | trivial | assumption | omega | (change (_ : Int) ≤ _; omega) | (change (_ : Int) < _; omega) | (change (_ : Nat) * 1 ≤ _; omega) | (change (_ : Nat) * 48 ≤ _; omega) | (change (_ : Nat) * 24 ≤ _; omega) | (change (_ : Nat) * 8 ≤ _; omega) | (change (_ : Nat) * 64 ≤ _; omega) | decide)); done)); (conv => lhs; whnf); (try simp (maxSteps := 2000000) (disch := omega) only [nI64, nU64, nU32, nU8, nSubL, nAddL, nAdd, nSub, nDiv, nMod, nZ, nLit, row_3, row_4, row_5, row_16, row_22, row_85, Ty.den, dflt_it, dflt_li, dflt_kv, Int.toNat_natCast, List.take_length, List.drop_zero]))
                  rfl
                | true =>
                  try simp (maxSteps := 2000000) (disch := omega) only [nI64, nU64, nU32, nU8, nSubL, nAddL, nAdd, nSub, nDiv, nMod, nZ, nLit, row_3, row_4, row_5, row_16, row_22, row_85, Ty.den, dflt_it, dflt_li, dflt_kv, Int.toNat_natCast, List.take_length, List.drop_zero, t1, t3, t4, tl, tg, b1, b2, b3, b4]
                  conv => lhs; whnf
                  try simp (maxSteps := 2000000) (disch := omega) only [nI64, nU64, nU32, nU8, nSubL, nAddL, nAdd, nSub, nDiv, nMod, nZ, nLit, row_3, row_4, row_5, row_16, row_22, row_85, Ty.den, dflt_it, dflt_li, dflt_kv, Int.toNat_natCast, List.take_length, List.drop_zero]
                  try simp (maxSteps := 2000000) (disch := omega) only [nI64, nU64, nU32, nU8, nSubL, nAddL, nAdd, nSub, nDiv, nMod, nZ, nLit, row_3, row_4, row_5, row_16, row_22, row_85, Ty.den, dflt_it, dflt_li, dflt_kv, Int.toNat_natCast, List.take_length, List.drop_zero, t1, t3, t4, tl, tg, b1, b2, b3, b4]
                  conv => lhs; whnf
                  try simp (maxSteps := 2000000) (disch := omega) only [nI64, nU64, nU32, nU8, nSubL, nAddL, nAdd, nSub, nDiv, nMod, nZ, nLit, row_3, row_4, row_5, row_16, row_22, row_85, Ty.den, dflt_it, dflt_li, dflt_kv, Int.toNat_natCast, List.take_length, List.drop_zero]
                  try simp (maxSteps := 2000000) (disch := omega) only [nI64, nU64, nU32, nU8, nSubL, nAddL, nAdd, nSub, nDiv, nMod, nZ, nLit, row_3, row_4, row_5, row_16, row_22, row_85, Ty.den, dflt_it, dflt_li, dflt_kv, Int.toNat_natCast, List.take_length, List.drop_zero, t1, t3, t4, tl, tg, b1, b2, b3, b4]
                  conv => lhs; whnf
                  try simp (maxSteps := 2000000) (disch := omega) only [nI64, nU64, nU32, nU8, nSubL, nAddL, nAdd, nSub, nDiv, nMod, nZ, nLit, row_3, row_4, row_5, row_16, row_22, row_85, Ty.den, dflt_it, dflt_li, dflt_kv, Int.toNat_natCast, List.take_length, List.drop_zero]
                  try simp (maxSteps := 2000000) (disch := omega) only [nI64, nU64, nU32, nU8, nSubL, nAddL, nAdd, nSub, nDiv, nMod, nZ, nLit, row_3, row_4, row_5, row_16, row_22, row_85, Ty.den, dflt_it, dflt_li, dflt_kv, Int.toNat_natCast, List.take_length, List.drop_zero, t1, t3, t4, tl, tg, b1, b2, b3, b4]
                  conv => lhs; whnf
                  try simp (maxSteps := 2000000) (disch := omega) only [nI64, nU64, nU32, nU8, nSubL, nAddL, nAdd, nSub, nDiv, nMod, nZ, nLit, row_3, row_4, row_5, row_16, row_22, row_85, Ty.den, dflt_it, dflt_li, dflt_kv, Int.toNat_natCast, List.take_length, List.drop_zero]
                  try simp (maxSteps := 2000000) (disch := omega) only [nI64, nU64, nU32, nU8, nSubL, nAddL, nAdd, nSub, nDiv, nMod, nZ, nLit, row_3, row_4, row_5, row_16, row_22, row_85, Ty.den, dflt_it, dflt_li, dflt_kv, Int.toNat_natCast, List.take_length, List.drop_zero, t1, t3, t4, tl, tg, b1, b2, b3, b4]
                  conv => lhs; whnf
                  try simp (maxSteps := 2000000) (disch := omega) only [nI64, nU64, nU32, nU8, nSubL, nAddL, nAdd, nSub, nDiv, nMod, nZ, nLit, row_3, row_4, row_5, row_16, row_22, row_85, Ty.den, dflt_it, dflt_li, dflt_kv, Int.toNat_natCast, List.take_length, List.drop_zero]
                  try simp (maxSteps := 2000000) (disch := omega) only [nI64, nU64, nU32, nU8, nSubL, nAddL, nAdd, nSub, nDiv, nMod, nZ, nLit, row_3, row_4, row_5, row_16, row_22, row_85, Ty.den, dflt_it, dflt_li, dflt_kv, Int.toNat_natCast, List.take_length, List.drop_zero, t1, t3, t4, tl, tg, b1, b2, b3, b4]
                  conv => lhs; whnf
                  try simp (maxSteps := 2000000) (disch := omega) only [nI64, nU64, nU32, nU8, nSubL, nAddL, nAdd, nSub, nDiv, nMod, nZ, nLit, row_3, row_4, row_5, row_16, row_22, row_85, Ty.den, dflt_it, dflt_li, dflt_kv, Int.toNat_natCast, List.take_length, List.drop_zero]
                  try simp (maxSteps := 2000000) (disch := omega) only [nI64, nU64, nU32, nU8, nSubL, nAddL, nAdd, nSub, nDiv, nMod, nZ, nLit, row_3, row_4, row_5, row_16, row_22, row_85, Ty.den, dflt_it, dflt_li, dflt_kv, Int.toNat_natCast, List.take_length, List.drop_zero, t1, t3, t4, tl, tg, b1, b2, b3, b4]
                  conv => lhs; whnf
                  try simp (maxSteps := 2000000) (disch := omega) only [nI64, nU64, nU32, nU8, nSubL, nAddL, nAdd, nSub, nDiv, nMod, nZ, nLit, row_3, row_4, row_5, row_16, row_22, row_85, Ty.den, dflt_it, dflt_li, dflt_kv, Int.toNat_natCast, List.take_length, List.drop_zero]
                  repeat (refine br_go ?_ ?_; (focus (((repeat' first | exact rfl | exact ordB_st rfl | exact ordB_of rfl | apply band | apply tst_t | apply nt_t)  <;> (try dsimp only [Ty.den, dflt_kv]) <;> (try simp only [List.length_append, List.length_cons, List.length_nil, List.length_take, List.length_drop, List.length_replicate]) <;> (first | trivial | assumption | omega | (change (_ : Int) ≤ _; omega) | (change (_ : Int) < _; omega) | (change (_ : Nat) * 1 ≤ _; omega) | (change (_ : Nat) * 48 ≤ _; omega) | (change (_ : Nat) * 24 ≤ _; omega) | (change (_ : Nat) * 8 ≤ _; omega) | (change (_ : Nat) * 64 ≤ _; omega) | decide)); done)); (conv => lhs; whnf); (try simp (maxSteps := 2000000) (disch := omega) only [nI64, nU64, nU32, nU8, nSubL, nAddL, nAdd, nSub, nDiv, nMod, nZ, nLit, row_3, row_4, row_5, row_16, row_22, row_85, Ty.den, dflt_it, dflt_li, dflt_kv, Int.toNat_natCast, List.take_length, List.drop_zero]))
                  try simp (maxSteps := 2000000) (disch := omega) only [nI64, nU64, nU32, nU8, nSubL, nAddL, nAdd, nSub, nDiv, nMod, nZ, nLit, row_3, row_4, row_5, row_16, row_22, row_85, Ty.den, dflt_it, dflt_li, dflt_kv, Int.toNat_natCast, List.take_length, List.drop_zero, et, hcd]
                  by_cases q1 : 4194304 < (o ++ cutS b (i + 7) (i + 7 + n)).length
                  · have c1 : tst (((o ++ cutS b (i + 7) (i + 7 + n)).length : Int) > 4194304) = true := tst_t (by omega)
                    try simp (maxSteps := 2000000) (disch := omega) only [nI64, nU64, nU32, nU8, nSubL, nAddL, nAdd, nSub, nDiv, nMod, nZ, nLit, row_3, row_4, row_5, row_16, row_22, row_85, Ty.den, dflt_it, dflt_li, dflt_kv, Int.toNat_natCast, List.take_length, List.drop_zero, c1]
                    conv => lhs; whnf
                    try simp (maxSteps := 2000000) (disch := omega) only [nI64, nU64, nU32, nU8, nSubL, nAddL, nAdd, nSub, nDiv, nMod, nZ, nLit, row_3, row_4, row_5, row_16, row_22, row_85, Ty.den, dflt_it, dflt_li, dflt_kv, Int.toNat_natCast, List.take_length, List.drop_zero]
                    repeat (refine br_go ?_ ?_; (focus (((repeat' first | exact rfl | exact ordB_st rfl | exact ordB_of rfl | apply band | apply tst_t | apply nt_t)  <;> (try dsimp only [Ty.den, dflt_kv]) <;> (try simp only [List.length_append, List.length_cons, List.length_nil, List.length_take, List.length_drop, List.length_replicate]) <;> (first | trivial | assumption | omega | (change (_ : Int) ≤ _; omega) | (change (_ : Int) < _; omega) | (change (_ : Nat) * 1 ≤ _; omega) | (change (_ : Nat) * 48 ≤ _; omega) | (change (_ : Nat) * 24 ≤ _; omega) | (change (_ : Nat) * 8 ≤ _; omega) | (change (_ : Nat) * 64 ≤ _; omega) | decide)); done)); (conv => lhs; whnf); (try simp (maxSteps := 2000000) (disch := omega) only [nI64, nU64, nU32, nU8, nSubL, nAddL, nAdd, nSub, nDiv, nMod, nZ, nLit, row_3, row_4, row_5, row_16, row_22, row_85, Ty.den, dflt_it, dflt_li, dflt_kv, Int.toNat_natCast, List.take_length, List.drop_zero]))
                    rw [hbad (by rw [hrs, if_pos q1])]
                    rfl
                  · have c1 : tst (((o ++ cutS b (i + 7) (i + 7 + n)).length : Int) > 4194304) = false := tst_f (by omega)
                    try simp (maxSteps := 2000000) (disch := omega) only [nI64, nU64, nU32, nU8, nSubL, nAddL, nAdd, nSub, nDiv, nMod, nZ, nLit, row_3, row_4, row_5, row_16, row_22, row_85, Ty.den, dflt_it, dflt_li, dflt_kv, Int.toNat_natCast, List.take_length, List.drop_zero, c1]
                    conv => lhs; whnf
                    try simp (maxSteps := 2000000) (disch := omega) only [nI64, nU64, nU32, nU8, nSubL, nAddL, nAdd, nSub, nDiv, nMod, nZ, nLit, row_3, row_4, row_5, row_16, row_22, row_85, Ty.den, dflt_it, dflt_li, dflt_kv, Int.toNat_natCast, List.take_length, List.drop_zero]
                    repeat (refine br_go ?_ ?_; (focus (((repeat' first | exact rfl | exact ordB_st rfl | exact ordB_of rfl | apply band | apply tst_t | apply nt_t)  <;> (try dsimp only [Ty.den, dflt_kv]) <;> (try simp only [List.length_append, List.length_cons, List.length_nil, List.length_take, List.length_drop, List.length_replicate]) <;> (first | trivial | assumption | omega | (change (_ : Int) ≤ _; omega) | (change (_ : Int) < _; omega) | (change (_ : Nat) * 1 ≤ _; omega) | (change (_ : Nat) * 48 ≤ _; omega) | (change (_ : Nat) * 24 ≤ _; omega) | (change (_ : Nat) * 8 ≤ _; omega) | (change (_ : Nat) * 64 ≤ _; omega) | decide)); done)); (conv => lhs; whnf); (try simp (maxSteps := 2000000) (disch := omega) only [nI64, nU64, nU32, nU8, nSubL, nAddL, nAdd, nSub, nDiv, nMod, nZ, nLit, row_3, row_4, row_5, row_16, row_22, row_85, Ty.den, dflt_it, dflt_li, dflt_kv, Int.toNat_natCast, List.take_length, List.drop_zero]))
                    try simp (maxSteps := 2000000) (disch := omega) only [nI64, nU64, nU32, nU8, nSubL, nAddL, nAdd, nSub, nDiv, nMod, nZ, nLit, row_3, row_4, row_5, row_16, row_22, row_85, Ty.den, dflt_it, dflt_li, dflt_kv, Int.toNat_natCast, List.take_length, List.drop_zero, t1, t4]
                    conv => lhs; whnf
                    try simp (maxSteps := 2000000) (disch := omega) only [nI64, nU64, nU32, nU8, nSubL, nAddL, nAdd, nSub, nDiv, nMod, nZ, nLit, row_3, row_4, row_5, row_16, row_22, row_85, Ty.den, dflt_it, dflt_li, dflt_kv, Int.toNat_natCast, List.take_length, List.drop_zero]
                    try simp (maxSteps := 2000000) (disch := omega) only [nI64, nU64, nU32, nU8, nSubL, nAddL, nAdd, nSub, nDiv, nMod, nZ, nLit, row_3, row_4, row_5, row_16, row_22, row_85, Ty.den, dflt_it, dflt_li, dflt_kv, Int.toNat_natCast, List.take_length, List.drop_zero, t1, t4]
                    conv => lhs; whnf
                    try simp (maxSteps := 2000000) (disch := omega) only [nI64, nU64, nU32, nU8, nSubL, nAddL, nAdd, nSub, nDiv, nMod, nZ, nLit, row_3, row_4, row_5, row_16, row_22, row_85, Ty.den, dflt_it, dflt_li, dflt_kv, Int.toNat_natCast, List.take_length, List.drop_zero]
                    repeat (refine br_go ?_ ?_; (focus (((repeat' first | exact rfl | exact ordB_st rfl | exact ordB_of rfl | apply band | apply tst_t | apply nt_t)  <;> (try dsimp only [Ty.den, dflt_kv]) <;> (try simp only [List.length_append, List.length_cons, List.length_nil, List.length_take, List.length_drop, List.length_replicate]) <;> (first | trivial | assumption | omega | (change (_ : Int) ≤ _; omega) | (change (_ : Int) < _; omega) | (change (_ : Nat) * 1 ≤ _; omega) | (change (_ : Nat) * 48 ≤ _; omega) | (change (_ : Nat) * 24 ≤ _; omega) | (change (_ : Nat) * 8 ≤ _; omega) | (change (_ : Nat) * 64 ≤ _; omega) | decide)); done)); (conv => lhs; whnf); (try simp (maxSteps := 2000000) (disch := omega) only [nI64, nU64, nU32, nU8, nSubL, nAddL, nAdd, nSub, nDiv, nMod, nZ, nLit, row_3, row_4, row_5, row_16, row_22, row_85, Ty.den, dflt_it, dflt_li, dflt_kv, Int.toNat_natCast, List.take_length, List.drop_zero]))
                    have hcon : recS b i true o = (o ++ cutS b (i + 7) (i + 7 + n), i + 7 + n, true) := by rw [hrs, if_neg q1, if_neg (show ¬ k = 2 by omega), if_neg e3, if_neg (show ¬ k = 1 by omega), if_pos e4]
                    rw [hyes (by rw [hcon]), hcon]
                    have e : ((i : Int) + 7 + (n : Int)) = ((i + 7 + n : Nat) : Int) := by omega
                    first | rfl | (rw [e]; done) | (rw [e]; rfl) | (trace_state; sorry)
              · have t4 : tst (k = 4) = false := tst_f e4
                by_cases e1 : k = 1
                · have t1 : tst (k = 1) = true := tst_t (by omega)
                  have tl : tst (k < 1) = false := tst_f (by omega)
                  have tg : tst (k > 4) = false := tst_f (by omega)
                  cases g with
                  | false =>
                    try simp (maxSteps := 2000000) (disch := omega) only [nI64, nU64, nU32, nU8, nSubL, nAddL, nAdd, nSub, nDiv, nMod, nZ, nLit, row_3, row_4, row_5, row_16, row_22, row_85, Ty.den, dflt_it, dflt_li, dflt_kv, Int.toNat_natCast, List.take_length, List.drop_zero, t1, t3, t4, tl, tg, b1, b2, b3, b4]
                    conv => lhs; whnf
                    try simp (maxSteps := 2000000) (disch := omega) only [nI64, nU64, nU32, nU8, nSubL, nAddL, nAdd, nSub, nDiv, nMod, nZ, nLit, row_3, row_4, row_5, row_16, row_22, row_85, Ty.den, dflt_it, dflt_li, dflt_kv, Int.toNat_natCast, List.take_length, List.drop_zero]
                    try simp (maxSteps := 2000000) (disch := omega) only [nI64, nU64, nU32, nU8, nSubL, nAddL, nAdd, nSub, nDiv, nMod, nZ, nLit, row_3, row_4, row_5, row_16, row_22, row_85, Ty.den, dflt_it, dflt_li, dflt_kv, Int.toNat_natCast, List.take_length, List.drop_zero, t1, t3, t4, tl, tg, b1, b2, b3, b4]
                    conv => lhs; whnf
                    try simp (maxSteps := 2000000) (disch := omega) only [nI64, nU64, nU32, nU8, nSubL, nAddL, nAdd, nSub, nDiv, nMod, nZ, nLit, row_3, row_4, row_5, row_16, row_22, row_85, Ty.den, dflt_it, dflt_li, dflt_kv, Int.toNat_natCast, List.take_length, List.drop_zero]
                    try simp (maxSteps := 2000000) (disch := omega) only [nI64, nU64, nU32, nU8, nSubL, nAddL, nAdd, nSub, nDiv, nMod, nZ, nLit, row_3, row_4, row_5, row_16, row_22, row_85, Ty.den, dflt_it, dflt_li, dflt_kv, Int.toNat_natCast, List.take_length, List.drop_zero, t1, t3, t4, tl, tg, b1, b2, b3, b4]
                    conv => lhs; whnf
                    try simp (maxSteps := 2000000) (disch := omega) only [nI64, nU64, nU32, nU8, nSubL, nAddL, nAdd, nSub, nDiv, nMod, nZ, nLit, row_3, row_4, row_5, row_16, row_22, row_85, Ty.den, dflt_it, dflt_li, dflt_kv, Int.toNat_natCast, List.take_length, List.drop_zero]
                    try simp (maxSteps := 2000000) (disch := omega) only [nI64, nU64, nU32, nU8, nSubL, nAddL, nAdd, nSub, nDiv, nMod, nZ, nLit, row_3, row_4, row_5, row_16, row_22, row_85, Ty.den, dflt_it, dflt_li, dflt_kv, Int.toNat_natCast, List.take_length, List.drop_zero, t1, t3, t4, tl, tg, b1, b2, b3, b4]
                    conv => lhs; whnf
                    try simp (maxSteps := 2000000) (disch := omega) only [nI64, nU64, nU32, nU8, nSubL, nAddL, nAdd, nSub, nDiv, nMod, nZ, nLit, row_3, row_4, row_5, row_16, row_22, row_85, Ty.den, dflt_it, dflt_li, dflt_kv, Int.toNat_natCast, List.take_length, List.drop_zero]
                    try simp (maxSteps := 2000000) (disch := omega) only [nI64, nU64, nU32, nU8, nSubL, nAddL, nAdd, nSub, nDiv, nMod, nZ, nLit, row_3, row_4, row_5, row_16, row_22, row_85, Ty.den, dflt_it, dflt_li, dflt_kv, Int.toNat_natCast, List.take_length, List.drop_zero, t1, t3, t4, tl, tg, b1, b2, b3, b4]
                    conv => lhs; whnf
                    try simp (maxSteps := 2000000) (disch := omega) only [nI64, nU64, nU32, nU8, nSubL, nAddL, nAdd, nSub, nDiv, nMod, nZ, nLit, row_3, row_4, row_5, row_16, row_22, row_85, Ty.den, dflt_it, dflt_li, dflt_kv, Int.toNat_natCast, List.take_length, List.drop_zero]
                    try simp (maxSteps := 2000000) (disch := omega) only [nI64, nU64, nU32, nU8, nSubL, nAddL, nAdd, nSub, nDiv, nMod, nZ, nLit, row_3, row_4, row_5, row_16, row_22, row_85, Ty.den, dflt_it, dflt_li, dflt_kv, Int.toNat_natCast, List.take_length, List.drop_zero, t1, t3, t4, tl, tg, b1, b2, b3, b4]
                    conv => lhs; whnf
                    try simp (maxSteps := 2000000) (disch := omega) only [nI64, nU64, nU32, nU8, nSubL, nAddL, nAdd, nSub, nDiv, nMod, nZ, nLit, row_3, row_4, row_5, row_16, row_22, row_85, Ty.den, dflt_it, dflt_li, dflt_kv, Int.toNat_natCast, List.take_length, List.drop_zero]
                    try simp (maxSteps := 2000000) (disch := omega) only [nI64, nU64, nU32, nU8, nSubL, nAddL, nAdd, nSub, nDiv, nMod, nZ, nLit, row_3, row_4, row_5, row_16, row_22, row_85, Ty.den, dflt_it, dflt_li, dflt_kv, Int.toNat_natCast, List.take_length, List.drop_zero, t1, t3, t4, tl, tg, b1, b2, b3, b4]
                    conv => lhs; whnf
                    try simp (maxSteps := 2000000) (disch := omega) only [nI64, nU64, nU32, nU8, nSubL, nAddL, nAdd, nSub, nDiv, nMod, nZ, nLit, row_3, row_4, row_5, row_16, row_22, row_85, Ty.den, dflt_it, dflt_li, dflt_kv, Int.toNat_natCast, List.take_length, List.drop_zero]
                    repeat (refine br_go ?_ ?_; (focus (((repeat' first | exact rfl | exact ordB_st rfl | exact ordB_of rfl | apply band | apply tst_t | apply nt_t)  <;> (try dsimp only [Ty.den, dflt_kv]) <;> (try simp only [List.length_append, List.length_cons, List.length_nil, List.length_take, List.length_drop, List.length_replicate]) <;> (first | trivial | assumption | omega | (change (_ : Int) ≤ _; omega) | (change (_ : Int) < _; omega) | (change (_ : Nat) * 1 ≤ _; omega) | (change (_ : Nat) * 48 ≤ _; omega) | (change (_ : Nat) * 24 ≤ _; omega) | (change (_ : Nat) * 8 ≤ _; omega) | (change (_ : Nat) * 64 ≤ _; omega) | decide)); done)); (conv => lhs; whnf); (try simp (maxSteps := 2000000) (disch := omega) only [nI64, nU64, nU32, nU8, nSubL, nAddL, nAdd, nSub, nDiv, nMod, nZ, nLit, row_3, row_4, row_5, row_16, row_22, row_85, Ty.den, dflt_it, dflt_li, dflt_kv, Int.toNat_natCast, List.take_length, List.drop_zero]))
                    try simp (maxSteps := 2000000) (disch := omega) only [nI64, nU64, nU32, nU8, nSubL, nAddL, nAdd, nSub, nDiv, nMod, nZ, nLit, row_3, row_4, row_5, row_16, row_22, row_85, Ty.den, dflt_it, dflt_li, dflt_kv, Int.toNat_natCast, List.take_length, List.drop_zero, et, hcd]
                    by_cases q1 : 4194304 < (o ++ cutS b (i + 7) (i + 7 + n)).length
                    · have c1 : tst (((o ++ cutS b (i + 7) (i + 7 + n)).length : Int) > 4194304) = true := tst_t (by omega)
                      try simp (maxSteps := 2000000) (disch := omega) only [nI64, nU64, nU32, nU8, nSubL, nAddL, nAdd, nSub, nDiv, nMod, nZ, nLit, row_3, row_4, row_5, row_16, row_22, row_85, Ty.den, dflt_it, dflt_li, dflt_kv, Int.toNat_natCast, List.take_length, List.drop_zero, c1]
                      conv => lhs; whnf
                      try simp (maxSteps := 2000000) (disch := omega) only [nI64, nU64, nU32, nU8, nSubL, nAddL, nAdd, nSub, nDiv, nMod, nZ, nLit, row_3, row_4, row_5, row_16, row_22, row_85, Ty.den, dflt_it, dflt_li, dflt_kv, Int.toNat_natCast, List.take_length, List.drop_zero]
                      repeat (refine br_go ?_ ?_; (focus (((repeat' first | exact rfl | exact ordB_st rfl | exact ordB_of rfl | apply band | apply tst_t | apply nt_t)  <;> (try dsimp only [Ty.den, dflt_kv]) <;> (try simp only [List.length_append, List.length_cons, List.length_nil, List.length_take, List.length_drop, List.length_replicate]) <;> (first | trivial | assumption | omega | (change (_ : Int) ≤ _; omega) | (change (_ : Int) < _; omega) | (change (_ : Nat) * 1 ≤ _; omega) | (change (_ : Nat) * 48 ≤ _; omega) | (change (_ : Nat) * 24 ≤ _; omega) | (change (_ : Nat) * 8 ≤ _; omega) | (change (_ : Nat) * 64 ≤ _; omega) | decide)); done)); (conv => lhs; whnf); (try simp (maxSteps := 2000000) (disch := omega) only [nI64, nU64, nU32, nU8, nSubL, nAddL, nAdd, nSub, nDiv, nMod, nZ, nLit, row_3, row_4, row_5, row_16, row_22, row_85, Ty.den, dflt_it, dflt_li, dflt_kv, Int.toNat_natCast, List.take_length, List.drop_zero]))
                      rw [hbad (by rw [hrs, if_pos q1])]
                      rfl
                    · have c1 : tst (((o ++ cutS b (i + 7) (i + 7 + n)).length : Int) > 4194304) = false := tst_f (by omega)
                      try simp (maxSteps := 2000000) (disch := omega) only [nI64, nU64, nU32, nU8, nSubL, nAddL, nAdd, nSub, nDiv, nMod, nZ, nLit, row_3, row_4, row_5, row_16, row_22, row_85, Ty.den, dflt_it, dflt_li, dflt_kv, Int.toNat_natCast, List.take_length, List.drop_zero, c1]
                      conv => lhs; whnf
                      try simp (maxSteps := 2000000) (disch := omega) only [nI64, nU64, nU32, nU8, nSubL, nAddL, nAdd, nSub, nDiv, nMod, nZ, nLit, row_3, row_4, row_5, row_16, row_22, row_85, Ty.den, dflt_it, dflt_li, dflt_kv, Int.toNat_natCast, List.take_length, List.drop_zero]
                      repeat (refine br_go ?_ ?_; (focus (((repeat' first | exact rfl | exact ordB_st rfl | exact ordB_of rfl | apply band | apply tst_t | apply nt_t)  <;> (try dsimp only [Ty.den, dflt_kv]) <;> (try simp only [List.length_append, List.length_cons, List.length_nil, List.length_take, List.length_drop, List.length_replicate]) <;> (first | trivial | assumption | omega | (change (_ : Int) ≤ _; omega) | (change (_ : Int) < _; omega) | (change (_ : Nat) * 1 ≤ _; omega) | (change (_ : Nat) * 48 ≤ _; omega) | (change (_ : Nat) * 24 ≤ _; omega) | (change (_ : Nat) * 8 ≤ _; omega) | (change (_ : Nat) * 64 ≤ _; omega) | decide)); done)); (conv => lhs; whnf); (try simp (maxSteps := 2000000) (disch := omega) only [nI64, nU64, nU32, nU8, nSubL, nAddL, nAdd, nSub, nDiv, nMod, nZ, nLit, row_3, row_4, row_5, row_16, row_22, row_85, Ty.den, dflt_it, dflt_li, dflt_kv, Int.toNat_natCast, List.take_length, List.drop_zero]))
                      try simp (maxSteps := 2000000) (disch := omega) only [nI64, nU64, nU32, nU8, nSubL, nAddL, nAdd, nSub, nDiv, nMod, nZ, nLit, row_3, row_4, row_5, row_16, row_22, row_85, Ty.den, dflt_it, dflt_li, dflt_kv, Int.toNat_natCast, List.take_length, List.drop_zero, t1, t4]
                      conv => lhs; whnf
                      try simp (maxSteps := 2000000) (disch := omega) only [nI64, nU64, nU32, nU8, nSubL, nAddL, nAdd, nSub, nDiv, nMod, nZ, nLit, row_3, row_4, row_5, row_16, row_22, row_85, Ty.den, dflt_it, dflt_li, dflt_kv, Int.toNat_natCast, List.take_length, List.drop_zero]
                      try simp (maxSteps := 2000000) (disch := omega) only [nI64, nU64, nU32, nU8, nSubL, nAddL, nAdd, nSub, nDiv, nMod, nZ, nLit, row_3, row_4, row_5, row_16, row_22, row_85, Ty.den, dflt_it, dflt_li, dflt_kv, Int.toNat_natCast, List.take_length, List.drop_zero, t1, t4]
                      conv => lhs; whnf
                      try simp (maxSteps := 2000000) (disch := omega) only [nI64, nU64, nU32, nU8, nSubL, nAddL, nAdd, nSub, nDiv, nMod, nZ, nLit, row_3, row_4, row_5, row_16, row_22, row_85, Ty.den, dflt_it, dflt_li, dflt_kv, Int.toNat_natCast, List.take_length, List.drop_zero]
                      repeat (refine br_go ?_ ?_; (focus (((repeat' first | exact rfl | exact ordB_st rfl | exact ordB_of rfl | apply band | apply tst_t | apply nt_t)  <;> (try dsimp only [Ty.den, dflt_kv]) <;> (try simp only [List.length_append, List.length_cons, List.length_nil, List.length_take, List.length_drop, List.length_replicate]) <;> (first | trivial | assumption | omega | (change (_ : Int) ≤ _; omega) | (change (_ : Int) < _; omega) | (change (_ : Nat) * 1 ≤ _; omega) | (change (_ : Nat) * 48 ≤ _; omega) | (change (_ : Nat) * 24 ≤ _; omega) | (change (_ : Nat) * 8 ≤ _; omega) | (change (_ : Nat) * 64 ≤ _; omega) | decide)); done)); (conv => lhs; whnf); (try simp (maxSteps := 2000000) (disch := omega) only [nI64, nU64, nU32, nU8, nSubL, nAddL, nAdd, nSub, nDiv, nMod, nZ, nLit, row_3, row_4, row_5, row_16, row_22, row_85, Ty.den, dflt_it, dflt_li, dflt_kv, Int.toNat_natCast, List.take_length, List.drop_zero]))
                      have hcon : recS b i false o = (o ++ cutS b (i + 7) (i + 7 + n), i + 7 + n, true) := by rw [hrs, if_neg q1, if_neg (show ¬ k = 2 by omega), if_neg e3, if_pos e1]; rfl
                      rw [hyes (by rw [hcon]), hcon]
                      have e : ((i : Int) + 7 + (n : Int)) = ((i + 7 + n : Nat) : Int) := by omega
                      first | rfl | (rw [e]; done) | (rw [e]; rfl) | (trace_state; sorry)
                  | true =>
                    rw [hbad (by rw [hrs, if_neg (show ¬ k = 2 by omega), if_neg e3, if_pos e1]; split <;> rfl)]
                    try simp (maxSteps := 2000000) (disch := omega) only [nI64, nU64, nU32, nU8, nSubL, nAddL, nAdd, nSub, nDiv, nMod, nZ, nLit, row_3, row_4, row_5, row_16, row_22, row_85, Ty.den, dflt_it, dflt_li, dflt_kv, Int.toNat_natCast, List.take_length, List.drop_zero, t1, t3, t4, tl, tg, b1, b2, b3, b4]
                    conv => lhs; whnf
                    try simp (maxSteps := 2000000) (disch := omega) only [nI64, nU64, nU32, nU8, nSubL, nAddL, nAdd, nSub, nDiv, nMod, nZ, nLit, row_3, row_4, row_5, row_16, row_22, row_85, Ty.den, dflt_it, dflt_li, dflt_kv, Int.toNat_natCast, List.take_length, List.drop_zero]
                    try simp (maxSteps := 2000000) (disch := omega) only [nI64, nU64, nU32, nU8, nSubL, nAddL, nAdd, nSub, nDiv, nMod, nZ, nLit, row_3, row_4, row_5, row_16, row_22, row_85, Ty.den, dflt_it, dflt_li, dflt_kv, Int.toNat_natCast, List.take_length, List.drop_zero, t1, t3, t4, tl, tg, b1, b2, b3, b4]
                    conv => lhs; whnf
                    try simp (maxSteps := 2000000) (disch := omega) only [nI64, nU64, nU32, nU8, nSubL, nAddL, nAdd, nSub, nDiv, nMod, nZ, nLit, row_3, row_4, row_5, row_16, row_22, row_85, Ty.den, dflt_it, dflt_li, dflt_kv, Int.toNat_natCast, List.take_length, List.drop_zero]
                    try simp (maxSteps := 2000000) (disch := omega) only [nI64, nU64, nU32, nU8, nSubL, nAddL, nAdd, nSub, nDiv, nMod, nZ, nLit, row_3, row_4, row_5, row_16, row_22, row_85, Ty.den, dflt_it, dflt_li, dflt_kv, Int.toNat_natCast, List.take_length, List.drop_zero, t1, t3, t4, tl, tg, b1, b2, b3, b4]
                    conv => lhs; whnf
                    try simp (maxSteps := 2000000) (disch := omega) only [nI64, nU64, nU32, nU8, nSubL, nAddL, nAdd, nSub, nDiv, nMod, nZ, nLit, row_3, row_4, row_5, row_16, row_22, row_85, Ty.den, dflt_it, dflt_li, dflt_kv, Int.toNat_natCast, List.take_length, List.drop_zero]
                    try simp (maxSteps := 2000000) (disch := omega) only [nI64, nU64, nU32, nU8, nSubL, nAddL, nAdd, nSub, nDiv, nMod, nZ, nLit, row_3, row_4, row_5, row_16, row_22, row_85, Ty.den, dflt_it, dflt_li, dflt_kv, Int.toNat_natCast, List.take_length, List.drop_zero, t1, t3, t4, tl, tg, b1, b2, b3, b4]
                    conv => lhs; whnf
                    try simp (maxSteps := 2000000) (disch := omega) only [nI64, nU64, nU32, nU8, nSubL, nAddL, nAdd, nSub, nDiv, nMod, nZ, nLit, row_3, row_4, row_5, row_16, row_22, row_85, Ty.den, dflt_it, dflt_li, dflt_kv, Int.toNat_natCast, List.take_length, List.drop_zero]
                    try simp (maxSteps := 2000000) (disch := omega) only [nI64, nU64, nU32, nU8, nSubL, nAddL, nAdd, nSub, nDiv, nMod, nZ, nLit, row_3, row_4, row_5, row_16, row_22, row_85, Ty.den, dflt_it, dflt_li, dflt_kv, Int.toNat_natCast, List.take_length, List.drop_zero, t1, t3, t4, tl, tg, b1, b2, b3, b4]
                    conv => lhs; whnf
                    try simp (maxSteps := 2000000) (disch := omega) only [nI64, nU64, nU32, nU8, nSubL, nAddL, nAdd, nSub, nDiv, nMod, nZ, nLit, row_3, row_4, row_5, row_16, row_22, row_85, Ty.den, dflt_it, dflt_li, dflt_kv, Int.toNat_natCast, List.take_length, List.drop_zero]
                    try simp (maxSteps := 2000000) (disch := omega) only [nI64, nU64, nU32, nU8, nSubL, nAddL, nAdd, nSub, nDiv, nMod, nZ, nLit, row_3, row_4, row_5, row_16, row_22, row_85, Ty.den, dflt_it, dflt_li, dflt_kv, Int.toNat_natCast, List.take_length, List.drop_zero, t1, t3, t4, tl, tg, b1, b2, b3, b4]
                    conv => lhs; whnf
                    try simp (maxSteps := 2000000) (disch := omega) only [nI64, nU64, nU32, nU8, nSubL, nAddL, nAdd, nSub, nDiv, nMod, nZ, nLit, row_3, row_4, row_5, row_16, row_22, row_85, Ty.den, dflt_it, dflt_li, dflt_kv, Int.toNat_natCast, List.take_length, List.drop_zero]
                    try simp (maxSteps := 2000000) (disch := omega) only [nI64, nU64, nU32, nU8, nSubL, nAddL, nAdd, nSub, nDiv, nMod, nZ, nLit, row_3, row_4, row_5, row_16, row_22, row_85, Ty.den, dflt_it, dflt_li, dflt_kv, Int.toNat_natCast, List.take_length, List.drop_zero, t1, t3, t4, tl, tg, b1, b2, b3, b4]
                    conv => lhs; whnf
                    try simp (maxSteps := 2000000) (disch := omega) only [nI64, nU64, nU32, nU8, nSubL, nAddL, nAdd, nSub, nDiv, nMod, nZ, nLit, row_3, row_4, row_5, row_16, row_22, row_85, Ty.den, dflt_it, dflt_li, dflt_kv, Int.toNat_natCast, List.take_length, List.drop_zero]
                    repeat (refine br_go ?_ ?_; (focus (((repeat' first | exact rfl | exact ordB_st rfl | exact ordB_of rfl | apply band | apply tst_t | apply nt_t)  <;> (try dsimp only [Ty.den, dflt_kv]) <;> (try simp only [List.length_append, List.length_cons, List.length_nil, List.length_take, List.length_drop, List.length_replicate]) <;> (first | trivial | assumption | omega | (change (_ : Int) ≤ _; omega) | (change (_ : Int) < _; omega) | (change (_ : Nat) * 1 ≤ _; omega) | (change (_ : Nat) * 48 ≤ _; omega) | (change (_ : Nat) * 24 ≤ _; omega) | (change (_ : Nat) * 8 ≤ _; omega) | (change (_ : Nat) * 64 ≤ _; omega) | decide)); done)); (conv => lhs; whnf); (try simp (maxSteps := 2000000) (disch := omega) only [nI64, nU64, nU32, nU8, nSubL, nAddL, nAdd, nSub, nDiv, nMod, nZ, nLit, row_3, row_4, row_5, row_16, row_22, row_85, Ty.den, dflt_it, dflt_li, dflt_kv, Int.toNat_natCast, List.take_length, List.drop_zero]))
                    rfl
                · have t1 : tst (k = 1) = false := tst_f e1
                  by_cases e2 : k = 2
                  · have tl : tst (k < 1) = false := tst_f (by omega)
                    have tg : tst (k > 4) = false := tst_f (by omega)
                    cases g with
                    | false =>
                      try simp (maxSteps := 2000000) (disch := omega) only [nI64, nU64, nU32, nU8, nSubL, nAddL, nAdd, nSub, nDiv, nMod, nZ, nLit, row_3, row_4, row_5, row_16, row_22, row_85, Ty.den, dflt_it, dflt_li, dflt_kv, Int.toNat_natCast, List.take_length, List.drop_zero, t1, t3, t4, tl, tg, b1, b2, b3, b4]
                      conv => lhs; whnf
                      try simp (maxSteps := 2000000) (disch := omega) only [nI64, nU64, nU32, nU8, nSubL, nAddL, nAdd, nSub, nDiv, nMod, nZ, nLit, row_3, row_4, row_5, row_16, row_22, row_85, Ty.den, dflt_it, dflt_li, dflt_kv, Int.toNat_natCast, List.take_length, List.drop_zero]
                      try simp (maxSteps := 2000000) (disch := omega) only [nI64, nU64, nU32, nU8, nSubL, nAddL, nAdd, nSub, nDiv, nMod, nZ, nLit, row_3, row_4, row_5, row_16, row_22, row_85, Ty.den, dflt_it, dflt_li, dflt_kv, Int.toNat_natCast, List.take_length, List.drop_zero, t1, t3, t4, tl, tg, b1, b2, b3, b4]
                      conv => lhs; whnf
                      try simp (maxSteps := 2000000) (disch := omega) only [nI64, nU64, nU32, nU8, nSubL, nAddL, nAdd, nSub, nDiv, nMod, nZ, nLit, row_3, row_4, row_5, row_16, row_22, row_85, Ty.den, dflt_it, dflt_li, dflt_kv, Int.toNat_natCast, List.take_length, List.drop_zero]
                      try simp (maxSteps := 2000000) (disch := omega) only [nI64, nU64, nU32, nU8, nSubL, nAddL, nAdd, nSub, nDiv, nMod, nZ, nLit, row_3, row_4, row_5, row_16, row_22, row_85, Ty.den, dflt_it, dflt_li, dflt_kv, Int.toNat_natCast, List.take_length, List.drop_zero, t1, t3, t4, tl, tg, b1, b2, b3, b4]
                      conv => lhs; whnf
                      try simp (maxSteps := 2000000) (disch := omega) only [nI64, nU64, nU32, nU8, nSubL, nAddL, nAdd, nSub, nDiv, nMod, nZ, nLit, row_3, row_4, row_5, row_16, row_22, row_85, Ty.den, dflt_it, dflt_li, dflt_kv, Int.toNat_natCast, List.take_length, List.drop_zero]
                      try simp (maxSteps := 2000000) (disch := omega) only [nI64, nU64, nU32, nU8, nSubL, nAddL, nAdd, nSub, nDiv, nMod, nZ, nLit, row_3, row_4, row_5, row_16, row_22, row_85, Ty.den, dflt_it, dflt_li, dflt_kv, Int.toNat_natCast, List.take_length, List.drop_zero, t1, t3, t4, tl, tg, b1, b2, b3, b4]
                      conv => lhs; whnf
                      try simp (maxSteps := 2000000) (disch := omega) only [nI64, nU64, nU32, nU8, nSubL, nAddL, nAdd, nSub, nDiv, nMod, nZ, nLit, row_3, row_4, row_5, row_16, row_22, row_85, Ty.den, dflt_it, dflt_li, dflt_kv, Int.toNat_natCast, List.take_length, List.drop_zero]
                      try simp (maxSteps := 2000000) (disch := omega) only [nI64, nU64, nU32, nU8, nSubL, nAddL, nAdd, nSub, nDiv, nMod, nZ, nLit, row_3, row_4, row_5, row_16, row_22, row_85, Ty.den, dflt_it, dflt_li, dflt_kv, Int.toNat_natCast, List.take_length, List.drop_zero, t1, t3, t4, tl, tg, b1, b2, b3, b4]
                      conv => lhs; whnf
                      try simp (maxSteps := 2000000) (disch := omega) only [nI64, nU64, nU32, nU8, nSubL, nAddL, nAdd, nSub, nDiv, nMod, nZ, nLit, row_3, row_4, row_5, row_16, row_22, row_85, Ty.den, dflt_it, dflt_li, dflt_kv, Int.toNat_natCast, List.take_length, List.drop_zero]
                      try simp (maxSteps := 2000000) (disch := omega) only [nI64, nU64, nU32, nU8, nSubL, nAddL, nAdd, nSub, nDiv, nMod, nZ, nLit, row_3, row_4, row_5, row_16, row_22, row_85, Ty.den, dflt_it, dflt_li, dflt_kv, Int.toNat_natCast, List.take_length, List.drop_zero, t1, t3, t4, tl, tg, b1, b2, b3, b4]
                      conv => lhs; whnf
                      try simp (maxSteps := 2000000) (disch := omega) only [nI64, nU64, nU32, nU8, nSubL, nAddL, nAdd, nSub, nDiv, nMod, nZ, nLit, row_3, row_4, row_5, row_16, row_22, row_85, Ty.den, dflt_it, dflt_li, dflt_kv, Int.toNat_natCast, List.take_length, List.drop_zero]
                      try simp (maxSteps := 2000000) (disch := omega) only [nI64, nU64, nU32, nU8, nSubL, nAddL, nAdd, nSub, nDiv, nMod, nZ, nLit, row_3, row_4, row_5, row_16, row_22, row_85, Ty.den, dflt_it, dflt_li, dflt_kv, Int.toNat_natCast, List.take_length, List.drop_zero, t1, t3, t4, tl, tg, b1, b2, b3, b4]
                      conv => lhs; whnf
                      try simp (maxSteps := 2000000) (disch := omega) only [nI64, nU64, nU32, nU8, nSubL, nAddL, nAdd, nSub, nDiv, nMod, nZ, nLit, row_3, row_4, row_5, row_16, row_22, row_85, Ty.den, dflt_it, dflt_li, dflt_kv, Int.toNat_natCast, List.take_length, List.drop_zero]
                      repeat (refine br_go ?_ ?_; (focus (((repeat' first | exact rfl | exact ordB_st rfl | exact ordB_of rfl | apply band | apply tst_t | apply nt_t)  <;> (try dsimp only [Ty.den, dflt_kv]) <;> (try simp only [List.length_append, List.length_cons, List.length_nil, List.length_take, List.length_drop, List.length_replicate]) <;> (first | trivial | assumption | omega | (change (_ : Int) ≤ _; omega) | (change (_ : Int) < _; omega) | (change (_ : Nat) * 1 ≤ _; omega) | (change (_ : Nat) * 48 ≤ _; omega) | (change (_ : Nat) * 24 ≤ _; omega) | (change (_ : Nat) * 8 ≤ _; omega) | (change (_ : Nat) * 64 ≤ _; omega) | decide)); done)); (conv => lhs; whnf); (try simp (maxSteps := 2000000) (disch := omega) only [nI64, nU64, nU32, nU8, nSubL, nAddL, nAdd, nSub, nDiv, nMod, nZ, nLit, row_3, row_4, row_5, row_16, row_22, row_85, Ty.den, dflt_it, dflt_li, dflt_kv, Int.toNat_natCast, List.take_length, List.drop_zero]))
                      by_cases q0 : n < room i - 7
                      · have c0 : tst ((n : Int) < (room i : Int) - 7) = true := tst_t (by omega)
                        try simp (maxSteps := 2000000) (disch := omega) only [nI64, nU64, nU32, nU8, nSubL, nAddL, nAdd, nSub, nDiv, nMod, nZ, nLit, row_3, row_4, row_5, row_16, row_22, row_85, Ty.den, dflt_it, dflt_li, dflt_kv, Int.toNat_natCast, List.take_length, List.drop_zero, c0]
                        conv => lhs; whnf
                        try simp (maxSteps := 2000000) (disch := omega) only [nI64, nU64, nU32, nU8, nSubL, nAddL, nAdd, nSub, nDiv, nMod, nZ, nLit, row_3, row_4, row_5, row_16, row_22, row_85, Ty.den, dflt_it, dflt_li, dflt_kv, Int.toNat_natCast, List.take_length, List.drop_zero]
                        repeat (refine br_go ?_ ?_; (focus (((repeat' first | exact rfl | exact ordB_st rfl | exact ordB_of rfl | apply band | apply tst_t | apply nt_t)  <;> (try dsimp only [Ty.den, dflt_kv]) <;> (try simp only [List.length_append, List.length_cons, List.length_nil, List.length_take, List.length_drop, List.length_replicate]) <;> (first | trivial | assumption | omega | (change (_ : Int) ≤ _; omega) | (change (_ : Int) < _; omega) | (change (_ : Nat) * 1 ≤ _; omega) | (change (_ : Nat) * 48 ≤ _; omega) | (change (_ : Nat) * 24 ≤ _; omega) | (change (_ : Nat) * 8 ≤ _; omega) | (change (_ : Nat) * 64 ≤ _; omega) | decide)); done)); (conv => lhs; whnf); (try simp (maxSteps := 2000000) (disch := omega) only [nI64, nU64, nU32, nU8, nSubL, nAddL, nAdd, nSub, nDiv, nMod, nZ, nLit, row_3, row_4, row_5, row_16, row_22, row_85, Ty.den, dflt_it, dflt_li, dflt_kv, Int.toNat_natCast, List.take_length, List.drop_zero]))
                        rw [hbad (by rw [hrs, if_pos e2, if_pos (show (_ ∨ (i + 7 + n) % 64 ≠ 0) from .inr (fun h => hem.1 h q0))]; split <;> rfl)]
                        rfl
                      · have c0 : tst ((n : Int) < (room i : Int) - 7) = false := tst_f (by omega)
                        try simp (maxSteps := 2000000) (disch := omega) only [nI64, nU64, nU32, nU8, nSubL, nAddL, nAdd, nSub, nDiv, nMod, nZ, nLit, row_3, row_4, row_5, row_16, row_22, row_85, Ty.den, dflt_it, dflt_li, dflt_kv, Int.toNat_natCast, List.take_length, List.drop_zero, c0]
                        conv => lhs; whnf
                        try simp (maxSteps := 2000000) (disch := omega) only [nI64, nU64, nU32, nU8, nSubL, nAddL, nAdd, nSub, nDiv, nMod, nZ, nLit, row_3, row_4, row_5, row_16, row_22, row_85, Ty.den, dflt_it, dflt_li, dflt_kv, Int.toNat_natCast, List.take_length, List.drop_zero]
                        repeat (refine br_go ?_ ?_; (focus (((repeat' first | exact rfl | exact ordB_st rfl | exact ordB_of rfl | apply band | apply tst_t | apply nt_t)  <;> (try dsimp only [Ty.den, dflt_kv]) <;> (try simp only [List.length_append, List.length_cons, List.length_nil, List.length_take, List.length_drop, List.length_replicate]) <;> (first | trivial | assumption | omega | (change (_ : Int) ≤ _; omega) | (change (_ : Int) < _; omega) | (change (_ : Nat) * 1 ≤ _; omega) | (change (_ : Nat) * 48 ≤ _; omega) | (change (_ : Nat) * 24 ≤ _; omega) | (change (_ : Nat) * 8 ≤ _; omega) | (change (_ : Nat) * 64 ≤ _; omega) | decide)); done)); (conv => lhs; whnf); (try simp (maxSteps := 2000000) (disch := omega) only [nI64, nU64, nU32, nU8, nSubL, nAddL, nAdd, nSub, nDiv, nMod, nZ, nLit, row_3, row_4, row_5, row_16, row_22, row_85, Ty.den, dflt_it, dflt_li, dflt_kv, Int.toNat_natCast, List.take_length, List.drop_zero]))
                        try simp (maxSteps := 2000000) (disch := omega) only [nI64, nU64, nU32, nU8, nSubL, nAddL, nAdd, nSub, nDiv, nMod, nZ, nLit, row_3, row_4, row_5, row_16, row_22, row_85, Ty.den, dflt_it, dflt_li, dflt_kv, Int.toNat_natCast, List.take_length, List.drop_zero, et, hcd]
                        by_cases q1 : 4194304 < (o ++ cutS b (i + 7) (i + 7 + n)).length
                        · have c1 : tst (((o ++ cutS b (i + 7) (i + 7 + n)).length : Int) > 4194304) = true := tst_t (by omega)
                          try simp (maxSteps := 2000000) (disch := omega) only [nI64, nU64, nU32, nU8, nSubL, nAddL, nAdd, nSub, nDiv, nMod, nZ, nLit, row_3, row_4, row_5, row_16, row_22, row_85, Ty.den, dflt_it, dflt_li, dflt_kv, Int.toNat_natCast, List.take_length, List.drop_zero, c1]
                          conv => lhs; whnf
                          try simp (maxSteps := 2000000) (disch := omega) only [nI64, nU64, nU32, nU8, nSubL, nAddL, nAdd, nSub, nDiv, nMod, nZ, nLit, row_3, row_4, row_5, row_16, row_22, row_85, Ty.den, dflt_it, dflt_li, dflt_kv, Int.toNat_natCast, List.take_length, List.drop_zero]
                          repeat (refine br_go ?_ ?_; (focus (((repeat' first | exact rfl | exact ordB_st rfl | exact ordB_of rfl | apply band | apply tst_t | apply nt_t)  <;> (try dsimp only [Ty.den, dflt_kv]) <;> (try simp only [List.length_append, List.length_cons, List.length_nil, List.length_take, List.length_drop, List.length_replicate]) <;> (first | trivial | assumption | omega | (change (_ : Int) ≤ _; omega) | (change (_ : Int) < _; omega) | (change (_ : Nat) * 1 ≤ _; omega) | (change (_ : Nat) * 48 ≤ _; omega) | (change (_ : Nat) * 24 ≤ _; omega) | (change (_ : Nat) * 8 ≤ _; omega) | (change (_ : Nat) * 64 ≤ _; omega) | decide)); done)); (conv => lhs; whnf); (try simp (maxSteps := 2000000) (disch := omega) only [nI64, nU64, nU32, nU8, nSubL, nAddL, nAdd, nSub, nDiv, nMod, nZ, nLit, row_3, row_4, row_5, row_16, row_22, row_85, Ty.den, dflt_it, dflt_li, dflt_kv, Int.toNat_natCast, List.take_length, List.drop_zero]))
                          rw [hbad (by rw [hrs, if_pos q1])]
                          rfl
                        · have c1 : tst (((o ++ cutS b (i + 7) (i + 7 + n)).length : Int) > 4194304) = false := tst_f (by omega)
                          try simp (maxSteps := 2000000) (disch := omega) only [nI64, nU64, nU32, nU8, nSubL, nAddL, nAdd, nSub, nDiv, nMod, nZ, nLit, row_3, row_4, row_5, row_16, row_22, row_85, Ty.den, dflt_it, dflt_li, dflt_kv, Int.toNat_natCast, List.take_length, List.drop_zero, c1]
                          conv => lhs; whnf
                          try simp (maxSteps := 2000000) (disch := omega) only [nI64, nU64, nU32, nU8, nSubL, nAddL, nAdd, nSub, nDiv, nMod, nZ, nLit, row_3, row_4, row_5, row_16, row_22, row_85, Ty.den, dflt_it, dflt_li, dflt_kv, Int.toNat_natCast, List.take_length, List.drop_zero]
                          repeat (refine br_go ?_ ?_; (focus (((repeat' first | exact rfl | exact ordB_st rfl | exact ordB_of rfl | apply band | apply tst_t | apply nt_t)  <;> (try dsimp only [Ty.den, dflt_kv]) <;> (try simp only [List.length_append, List.length_cons, List.length_nil, List.length_take, List.length_drop, List.length_replicate]) <;> (first | trivial | assumption | omega | (change (_ : Int) ≤ _; omega) | (change (_ : Int) < _; omega) | (change (_ : Nat) * 1 ≤ _; omega) | (change (_ : Nat) * 48 ≤ _; omega) | (change (_ : Nat) * 24 ≤ _; omega) | (change (_ : Nat) * 8 ≤ _; omega) | (change (_ : Nat) * 64 ≤ _; omega) | decide)); done)); (conv => lhs; whnf); (try simp (maxSteps := 2000000) (disch := omega) only [nI64, nU64, nU32, nU8, nSubL, nAddL, nAdd, nSub, nDiv, nMod, nZ, nLit, row_3, row_4, row_5, row_16, row_22, row_85, Ty.den, dflt_it, dflt_li, dflt_kv, Int.toNat_natCast, List.take_length, List.drop_zero]))
                          have hcon : recS b i false o = recS b (i + 7 + n) true (o ++ cutS b (i + 7) (i + 7 + n)) := by rw [hrs, if_neg q1, if_pos e2, if_neg (show ¬ (_ ∨ (i + 7 + n) % 64 ≠ 0) from fun h => h.elim (fun h => by cases h) (fun h => h (hem.2 q0)))]
                          have e : ((i : Int) + 7 + (n : Int)) = ((i + 7 + n : Nat) : Int) := by omega
                          rw [e]
                          exact hK (i + 7 + n, true, o ++ cutS b (i + 7) (i + 7 + n)) ⟨by show i + 7 + n ≤ _; omega, by show (o ++ _).length ≤ _; omega, by rw [← k3]; unfold oneS; rw [hcon]⟩ (by show b.length - (i + 7 + n) < b.length - i; omega)
                    | true =>
                      rw [hbad (by rw [hrs, if_pos e2, if_pos (show (true = true ∨ (i + 7 + n) % 64 ≠ 0) from .inl rfl)]; split <;> rfl)]
                      try simp (maxSteps := 2000000) (disch := omega) only [nI64, nU64, nU32, nU8, nSubL, nAddL, nAdd, nSub, nDiv, nMod, nZ, nLit, row_3, row_4, row_5, row_16, row_22, row_85, Ty.den, dflt_it, dflt_li, dflt_kv, Int.toNat_natCast, List.take_length, List.drop_zero, t1, t3, t4, tl, tg, b1, b2, b3, b4]
                      conv => lhs; whnf
                      try simp (maxSteps := 2000000) (disch := omega) only [nI64, nU64, nU32, nU8, nSubL, nAddL, nAdd, nSub, nDiv, nMod, nZ, nLit, row_3, row_4, row_5, row_16, row_22, row_85, Ty.den, dflt_it, dflt_li, dflt_kv, Int.toNat_natCast, List.take_length, List.drop_zero]
                      try simp (maxSteps := 2000000) (disch := omega) only [nI64, nU64, nU32, nU8, nSubL, nAddL, nAdd, nSub, nDiv, nMod, nZ, nLit, row_3, row_4, row_5, row_16, row_22, row_85, Ty.den, dflt_it, dflt_li, dflt_kv, Int.toNat_natCast, List.take_length, List.drop_zero, t1, t3, t4, tl, tg, b1, b2, b3, b4]
                      conv => lhs; whnf
                      try simp (maxSteps := 2000000) (disch := omega) only [nI64, nU64, nU32, nU8, nSubL, nAddL, nAdd, nSub, nDiv, nMod, nZ, nLit, row_3, row_4, row_5, row_16, row_22, row_85, Ty.den, dflt_it, dflt_li, dflt_kv, Int.toNat_natCast, List.take_length, List.drop_zero]
                      try simp (maxSteps := 2000000) (disch := omega) only [nI64, nU64, nU32, nU8, nSubL, nAddL, nAdd, nSub, nDiv, nMod, nZ, nLit, row_3, row_4, row_5, row_16, row_22, row_85, Ty.den, dflt_it, dflt_li, dflt_kv, Int.toNat_natCast, List.take_length, List.drop_zero, t1, t3, t4, tl, tg, b1, b2, b3, b4]
                      conv => lhs; whnf
                      try simp (maxSteps := 2000000) (disch := omega) only [nI64, nU64, nU32, nU8, nSubL, nAddL, nAdd, nSub, nDiv, nMod, nZ, nLit, row_3, row_4, row_5, row_16, row_22, row_85, Ty.den, dflt_it, dflt_li, dflt_kv, Int.toNat_natCast, List.take_length, List.drop_zero]
                      try simp (maxSteps := 2000000) (disch := omega) only [nI64, nU64, nU32, nU8, nSubL, nAddL, nAdd, nSub, nDiv, nMod, nZ, nLit, row_3, row_4, row_5, row_16, row_22, row_85, Ty.den, dflt_it, dflt_li, dflt_kv, Int.toNat_natCast, List.take_length, List.drop_zero, t1, t3, t4, tl, tg, b1, b2, b3, b4]
                      conv => lhs; whnf
                      try simp (maxSteps := 2000000) (disch := omega) only [nI64, nU64, nU32, nU8, nSubL, nAddL, nAdd, nSub, nDiv, nMod, nZ, nLit, row_3, row_4, row_5, row_16, row_22, row_85, Ty.den, dflt_it, dflt_li, dflt_kv, Int.toNat_natCast, List.take_length, List.drop_zero]
                      try simp (maxSteps := 2000000) (disch := omega) only [nI64, nU64, nU32, nU8, nSubL, nAddL, nAdd, nSub, nDiv, nMod, nZ, nLit, row_3, row_4, row_5, row_16, row_22, row_85, Ty.den, dflt_it, dflt_li, dflt_kv, Int.toNat_natCast, List.take_length, List.drop_zero, t1, t3, t4, tl, tg, b1, b2, b3, b4]
                      conv => lhs; whnf
                      try simp (maxSteps := 2000000) (disch := omega) only [nI64, nU64, nU32, nU8, nSubL, nAddL, nAdd, nSub, nDiv, nMod, nZ, nLit, row_3, row_4, row_5, row_16, row_22, row_85, Ty.den, dflt_it, dflt_li, dflt_kv, Int.toNat_natCast, List.take_length, List.drop_zero]
                      try simp (maxSteps := 2000000) (disch := omega) only [nI64, nU64, nU32, nU8, nSubL, nAddL, nAdd, nSub, nDiv, nMod, nZ, nLit, row_3, row_4, row_5, row_16, row_22, row_85, Ty.den, dflt_it, dflt_li, dflt_kv, Int.toNat_natCast, List.take_length, List.drop_zero, t1, t3, t4, tl, tg, b1, b2, b3, b4]
                      conv => lhs; whnf
                      try simp (maxSteps := 2000000) (disch := omega) only [nI64, nU64, nU32, nU8, nSubL, nAddL, nAdd, nSub, nDiv, nMod, nZ, nLit, row_3, row_4, row_5, row_16, row_22, row_85, Ty.den, dflt_it, dflt_li, dflt_kv, Int.toNat_natCast, List.take_length, List.drop_zero]
                      try simp (maxSteps := 2000000) (disch := omega) only [nI64, nU64, nU32, nU8, nSubL, nAddL, nAdd, nSub, nDiv, nMod, nZ, nLit, row_3, row_4, row_5, row_16, row_22, row_85, Ty.den, dflt_it, dflt_li, dflt_kv, Int.toNat_natCast, List.take_length, List.drop_zero, t1, t3, t4, tl, tg, b1, b2, b3, b4]
                      conv => lhs; whnf
                      try simp (maxSteps := 2000000) (disch := omega) only [nI64, nU64, nU32, nU8, nSubL, nAddL, nAdd, nSub, nDiv, nMod, nZ, nLit, row_3, row_4, row_5, row_16, row_22, row_85, Ty.den, dflt_it, dflt_li, dflt_kv, Int.toNat_natCast, List.take_length, List.drop_zero]
                      repeat (refine br_go ?_ ?_; (focus (((repeat' first | exact rfl | exact ordB_st rfl | exact ordB_of rfl | apply band | apply tst_t | apply nt_t)  <;> (try dsimp only [Ty.den, dflt_kv]) <;> (try simp only [List.length_append, List.length_cons, List.length_nil, List.length_take, List.length_drop, List.length_replicate]) <;> (first | trivial | assumption | omega | (change (_ : Int) ≤ _; omega) | (change (_ : Int) < _; omega) | (change (_ : Nat) * 1 ≤ _; omega) | (change (_ : Nat) * 48 ≤ _; omega) | (change (_ : Nat) * 24 ≤ _; omega) | (change (_ : Nat) * 8 ≤ _; omega) | (change (_ : Nat) * 64 ≤ _; omega) | decide)); done)); (conv => lhs; whnf); (try simp (maxSteps := 2000000) (disch := omega) only [nI64, nU64, nU32, nU8, nSubL, nAddL, nAdd, nSub, nDiv, nMod, nZ, nLit, row_3, row_4, row_5, row_16, row_22, row_85, Ty.den, dflt_it, dflt_li, dflt_kv, Int.toNat_natCast, List.take_length, List.drop_zero]))
                      rfl
                  · rw [hbad (by rw [hrs, if_neg e2, if_neg e3, if_neg e1, if_neg e4]; split <;> rfl)]
                    by_cases el : k < 1
                    · have tl : tst (k < 1) = true := tst_t el
                      have tg : tst (k > 4) = false := tst_f (by omega)
                      cases g with
                      | false =>
                        try simp (maxSteps := 2000000) (disch := omega) only [nI64, nU64, nU32, nU8, nSubL, nAddL, nAdd, nSub, nDiv, nMod, nZ, nLit, row_3, row_4, row_5, row_16, row_22, row_85, Ty.den, dflt_it, dflt_li, dflt_kv, Int.toNat_natCast, List.take_length, List.drop_zero, t1, t3, t4, tl, tg, b1, b2, b3, b4]
                        conv => lhs; whnf
                        try simp (maxSteps := 2000000) (disch := omega) only [nI64, nU64, nU32, nU8, nSubL, nAddL, nAdd, nSub, nDiv, nMod, nZ, nLit, row_3, row_4, row_5, row_16, row_22, row_85, Ty.den, dflt_it, dflt_li, dflt_kv, Int.toNat_natCast, List.take_length, List.drop_zero]
                        try simp (maxSteps := 2000000) (disch := omega) only [nI64, nU64, nU32, nU8, nSubL, nAddL, nAdd, nSub, nDiv, nMod, nZ, nLit, row_3, row_4, row_5, row_16, row_22, row_85, Ty.den, dflt_it, dflt_li, dflt_kv, Int.toNat_natCast, List.take_length, List.drop_zero, t1, t3, t4, tl, tg, b1, b2, b3, b4]
                        conv => lhs; whnf
                        try simp (maxSteps := 2000000) (disch := omega) only [nI64, nU64, nU32, nU8, nSubL, nAddL, nAdd, nSub, nDiv, nMod, nZ, nLit, row_3, row_4, row_5, row_16, row_22, row_85, Ty.den, dflt_it, dflt_li, dflt_kv, Int.toNat_natCast, List.take_length, List.drop_zero]
                        try simp (maxSteps := 2000000) (disch := omega) only [nI64, nU64, nU32, nU8, nSubL, nAddL, nAdd, nSub, nDiv, nMod, nZ, nLit, row_3, row_4, row_5, row_16, row_22, row_85, Ty.den, dflt_it, dflt_li, dflt_kv, Int.toNat_natCast, List.take_length, List.drop_zero, t1, t3, t4, tl, tg, b1, b2, b3, b4]
                        conv => lhs; whnf
                        try simp (maxSteps := 2000000) (disch := omega) only [nI64, nU64, nU32, nU8, nSubL, nAddL, nAdd, nSub, nDiv, nMod, nZ, nLit, row_3, row_4, row_5, row_16, row_22, row_85, Ty.den, dflt_it, dflt_li, dflt_kv, Int.toNat_natCast, List.take_length, List.drop_zero]
                        try simp (maxSteps := 2000000) (disch := omega) only [nI64, nU64, nU32, nU8, nSubL, nAddL, nAdd, nSub, nDiv, nMod, nZ, nLit, row_3, row_4, row_5, row_16, row_22, row_85, Ty.den, dflt_it, dflt_li, dflt_kv, Int.toNat_natCast, List.take_length, List.drop_zero, t1, t3, t4, tl, tg, b1, b2, b3, b4]
                        conv => lhs; whnf
                        try simp (maxSteps := 2000000) (disch := omega) only [nI64, nU64, nU32, nU8, nSubL, nAddL, nAdd, nSub, nDiv, nMod, nZ, nLit, row_3, row_4, row_5, row_16, row_22, row_85, Ty.den, dflt_it, dflt_li, dflt_kv, Int.toNat_natCast, List.take_length, List.drop_zero]
                        try simp (maxSteps := 2000000) (disch := omega) only [nI64, nU64, nU32, nU8, nSubL, nAddL, nAdd, nSub, nDiv, nMod, nZ, nLit, row_3, row_4, row_5, row_16, row_22, row_85, Ty.den, dflt_it, dflt_li, dflt_kv, Int.toNat_natCast, List.take_length, List.drop_zero, t1, t3, t4, tl, tg, b1, b2, b3, b4]
                        conv => lhs; whnf
                        try simp (maxSteps := 2000000) (disch := omega) only [nI64, nU64, nU32, nU8, nSubL, nAddL, nAdd, nSub, nDiv, nMod, nZ, nLit, row_3, row_4, row_5, row_16, row_22, row_85, Ty.den, dflt_it, dflt_li, dflt_kv, Int.toNat_natCast, List.take_length, List.drop_zero]
                        try simp (maxSteps := 2000000) (disch := omega) only [nI64, nU64, nU32, nU8, nSubL, nAddL, nAdd, nSub, nDiv, nMod, nZ, nLit, row_3, row_4, row_5, row_16, row_22, row_85, Ty.den, dflt_it, dflt_li, dflt_kv, Int.toNat_natCast, List.take_length, List.drop_zero, t1, t3, t4, tl, tg, b1, b2, b3, b4]
                        conv => lhs; whnf
                        try simp (maxSteps := 2000000) (disch := omega) only [nI64, nU64, nU32, nU8, nSubL, nAddL, nAdd, nSub, nDiv, nMod, nZ, nLit, row_3, row_4, row_5, row_16, row_22, row_85, Ty.den, dflt_it, dflt_li, dflt_kv, Int.toNat_natCast, List.take_length, List.drop_zero]
                        try simp (maxSteps := 2000000) (disch := omega) only [nI64, nU64, nU32, nU8, nSubL, nAddL, nAdd, nSub, nDiv, nMod, nZ, nLit, row_3, row_4, row_5, row_16, row_22, row_85, Ty.den, dflt_it, dflt_li, dflt_kv, Int.toNat_natCast, List.take_length, List.drop_zero, t1, t3, t4, tl, tg, b1, b2, b3, b4]
                        conv => lhs; whnf
                        try simp (maxSteps := 2000000) (disch := omega) only [nI64, nU64, nU32, nU8, nSubL, nAddL, nAdd, nSub, nDiv, nMod, nZ, nLit, row_3, row_4, row_5, row_16, row_22, row_85, Ty.den, dflt_it, dflt_li, dflt_kv, Int.toNat_natCast, List.take_length, List.drop_zero]
                        repeat (refine br_go ?_ ?_; (focus (((repeat' first | exact rfl | exact ordB_st rfl | exact ordB_of rfl | apply band | apply tst_t | apply nt_t)  <;> (try dsimp only [Ty.den, dflt_kv]) <;> (try simp only [List.length_append, List.length_cons, List.length_nil, List.length_take, List.length_drop, List.length_replicate]) <;> (first | trivial | assumption | omega | (change (_ : Int) ≤ _; omega) | (change (_ : Int) < _; omega) | (change (_ : Nat) * 1 ≤ _; omega) | (change (_ : Nat) * 48 ≤ _; omega) | (change (_ : Nat) * 24 ≤ _; omega) | (change (_ : Nat) * 8 ≤ _; omega) | (change (_ : Nat) * 64 ≤ _; omega) | decide)); done)); (conv => lhs; whnf); (try simp (maxSteps := 2000000) (disch := omega) only [nI64, nU64, nU32, nU8, nSubL, nAddL, nAdd, nSub, nDiv, nMod, nZ, nLit, row_3, row_4, row_5, row_16, row_22, row_85, Ty.den, dflt_it, dflt_li, dflt_kv, Int.toNat_natCast, List.take_length, List.drop_zero]))
                        rfl
                      | true =>
                        try simp (maxSteps := 2000000) (disch := omega) only [nI64, nU64, nU32, nU8, nSubL, nAddL, nAdd, nSub, nDiv, nMod, nZ, nLit, row_3, row_4, row_5, row_16, row_22, row_85, Ty.den, dflt_it, dflt_li, dflt_kv, Int.toNat_natCast, List.take_length, List.drop_zero, t1, t3, t4, tl, tg, b1, b2, b3, b4]
                        conv => lhs; whnf
                        try simp (maxSteps := 2000000) (disch := omega) only [nI64, nU64, nU32, nU8, nSubL, nAddL, nAdd, nSub, nDiv, nMod, nZ, nLit, row_3, row_4, row_5, row_16, row_22, row_85, Ty.den, dflt_it, dflt_li, dflt_kv, Int.toNat_natCast, List.take_length, List.drop_zero]
                        try simp (maxSteps := 2000000) (disch := omega) only [nI64, nU64, nU32, nU8, nSubL, nAddL, nAdd, nSub, nDiv, nMod, nZ, nLit, row_3, row_4, row_5, row_16, row_22, row_85, Ty.den, dflt_it, dflt_li, dflt_kv, Int.toNat_natCast, List.take_length, List.drop_zero, t1, t3, t4, tl, tg, b1, b2, b3, b4]
                        conv => lhs; whnf
                        try simp (maxSteps := 2000000) (disch := omega) only [nI64, nU64, nU32, nU8, nSubL, nAddL, nAdd, nSub, nDiv, nMod, nZ, nLit, row_3, row_4, row_5, row_16, row_22, row_85, Ty.den, dflt_it, dflt_li, dflt_kv, Int.toNat_natCast, List.take_length, List.drop_zero]
                        try simp (maxSteps := 2000000) (disch := omega) only [nI64, nU64, nU32, nU8, nSubL, nAddL, nAdd, nSub, nDiv, nMod, nZ, nLit, row_3, row_4, row_5, row_16, row_22, row_85, Ty.den, dflt_it, dflt_li, dflt_kv, Int.toNat_natCast, List.take_length, List.drop_zero, t1, t3, t4, tl, tg, b1, b2, b3, b4]
                        conv => lhs; whnf
                        try simp (maxSteps := 2000000) (disch := omega) only [nI64, nU64, nU32, nU8, nSubL, nAddL, nAdd, nSub, nDiv, nMod, nZ, nLit, row_3, row_4, row_5, row_16, row_22, row_85, Ty.den, dflt_it, dflt_li, dflt_kv, Int.toNat_natCast, List.take_length, List.drop_zero]
                        try simp (maxSteps := 2000000) (disch := omega) only [nI64, nU64, nU32, nU8, nSubL, nAddL, nAdd, nSub, nDiv, nMod, nZ, nLit, row_3, row_4, row_5, row_16, row_22, row_85, Ty.den, dflt_it, dflt_li, dflt_kv, Int.toNat_natCast, List.take_length, List.drop_zero, t1, t3, t4, tl, tg, b1, b2, b3, b4]
                        conv => lhs; whnf
                        try simp (maxSteps := 2000000) (disch := omega) only [nI64, nU64, nU32, nU8, nSubL, nAddL, nAdd, nSub, nDiv, nMod, nZ, nLit, row_3, row_4, row_5, row_16, row_22, row_85, Ty.den, dflt_it, dflt_li, dflt_kv, Int.toNat_natCast, List.take_length, List.drop_zero]
                        try simp (maxSteps := 2000000) (disch := omega) only [nI64, nU64, nU32, nU8, nSubL, nAddL, nAdd, nSub, nDiv, nMod, nZ, nLit, row_3, row_4, row_5, row_16, row_22, row_85, Ty.den, dflt_it, dflt_li, dflt_kv, Int.toNat_natCast, List.take_length, List.drop_zero, t1, t3, t4, tl, tg, b1, b2, b3, b4]
                        conv => lhs; whnf
                        try simp (maxSteps := 2000000) (disch := omega) only [nI64, nU64, nU32, nU8, nSubL, nAddL, nAdd, nSub, nDiv, nMod, nZ, nLit, row_3, row_4, row_5, row_16, row_22, row_85, Ty.den, dflt_it, dflt_li, dflt_kv, Int.toNat_natCast, List.take_length, List.drop_zero]
                        try simp (maxSteps := 2000000) (disch := omega) only [nI64, nU64, nU32, nU8, nSubL, nAddL, nAdd, nSub, nDiv, nMod, nZ, nLit, row_3, row_4, row_5, row_16, row_22, row_85, Ty.den, dflt_it, dflt_li, dflt_kv, Int.toNat_natCast, List.take_length, List.drop_zero, t1, t3, t4, tl, tg, b1, b2, b3, b4]
                        conv => lhs; whnf
                        try simp (maxSteps := 2000000) (disch := omega) only [nI64, nU64, nU32, nU8, nSubL, nAddL, nAdd, nSub, nDiv, nMod, nZ, nLit, row_3, row_4, row_5, row_16, row_22, row_85, Ty.den, dflt_it, dflt_li, dflt_kv, Int.toNat_natCast, List.take_length, List.drop_zero]
                        try simp (maxSteps := 2000000) (disch := omega) only [nI64, nU64, nU32, nU8, nSubL, nAddL, nAdd, nSub, nDiv, nMod, nZ, nLit, row_3, row_4, row_5, row_16, row_22, row_85, Ty.den, dflt_it, dflt_li, dflt_kv, Int.toNat_natCast, List.take_length, List.drop_zero, t1, t3, t4, tl, tg, b1, b2, b3, b4]
                        conv => lhs; whnf
                        try simp (maxSteps := 2000000) (disch := omega) only [nI64, nU64, nU32, nU8, nSubL, nAddL, nAdd, nSub, nDiv, nMod, nZ, nLit, row_3, row_4, row_5, row_16, row_22, row_85, Ty.den, dflt_it, dflt_li, dflt_kv, Int.toNat_natCast, List.take_length, List.drop_zero]
                        repeat (refine br_go ?_ ?_; (focus (((repeat' first | exact rfl | exact ordB_st rfl | exact ordB_of rfl | apply band | apply tst_t | apply nt_t)  <;> (try dsimp only [Ty.den, dflt_kv]) <;> (try simp only [List.length_append, List.length_cons, List.length_nil, List.length_take, List.length_drop, List.length_replicate]) <;> (first | trivial | assumption | omega | (change (_ : Int) ≤ _; omega) | (change (_ : Int) < _; omega) | (change (_ : Nat) * 1 ≤ _; omega) | (change (_ : Nat) * 48 ≤ _; omega) | (change (_ : Nat) * 24 ≤ _; omega) | (change (_ : Nat) * 8 ≤ _; omega) | (change (_ : Nat) * 64 ≤ _; omega) | decide)); done)); (conv => lhs; whnf); (try simp (maxSteps := 2000000) (disch := omega) only [nI64, nU64, nU32, nU8, nSubL, nAddL, nAdd, nSub, nDiv, nMod, nZ, nLit, row_3, row_4, row_5, row_16, row_22, row_85, Ty.den, dflt_it, dflt_li, dflt_kv, Int.toNat_natCast, List.take_length, List.drop_zero]))
                        rfl
                    · have tl : tst (k < 1) = false := tst_f el
                      have tg : tst (k > 4) = true := tst_t (by omega)
                      cases g with
                      | false =>
                        try simp (maxSteps := 2000000) (disch := omega) only [nI64, nU64, nU32, nU8, nSubL, nAddL, nAdd, nSub, nDiv, nMod, nZ, nLit, row_3, row_4, row_5, row_16, row_22, row_85, Ty.den, dflt_it, dflt_li, dflt_kv, Int.toNat_natCast, List.take_length, List.drop_zero, t1, t3, t4, tl, tg, b1, b2, b3, b4]
                        conv => lhs; whnf
                        try simp (maxSteps := 2000000) (disch := omega) only [nI64, nU64, nU32, nU8, nSubL, nAddL, nAdd, nSub, nDiv, nMod, nZ, nLit, row_3, row_4, row_5, row_16, row_22, row_85, Ty.den, dflt_it, dflt_li, dflt_kv, Int.toNat_natCast, List.take_length, List.drop_zero]
                        try simp (maxSteps := 2000000) (disch := omega) only [nI64, nU64, nU32, nU8, nSubL, nAddL, nAdd, nSub, nDiv, nMod, nZ, nLit, row_3, row_4, row_5, row_16, row_22, row_85, Ty.den, dflt_it, dflt_li, dflt_kv, Int.toNat_natCast, List.take_length, List.drop_zero, t1, t3, t4, tl, tg, b1, b2, b3, b4]
                        conv => lhs; whnf
                        try simp (maxSteps := 2000000) (disch := omega) only [nI64, nU64, nU32, nU8, nSubL, nAddL, nAdd, nSub, nDiv, nMod, nZ, nLit, row_3, row_4, row_5, row_16, row_22, row_85, Ty.den, dflt_it, dflt_li, dflt_kv, Int.toNat_natCast, List.take_length, List.drop_zero]
                        try simp (maxSteps := 2000000) (disch := omega) only [nI64, nU64, nU32, nU8, nSubL, nAddL, nAdd, nSub, nDiv, nMod, nZ, nLit, row_3, row_4, row_5, row_16, row_22, row_85, Ty.den, dflt_it, dflt_li, dflt_kv, Int.toNat_natCast, List.take_length, List.drop_zero, t1, t3, t4, tl, tg, b1, b2, b3, b4]
                        conv => lhs; whnf
                        try simp (maxSteps := 2000000) (disch := omega) only [nI64, nU64, nU32, nU8, nSubL, nAddL, nAdd, nSub, nDiv, nMod, nZ, nLit, row_3, row_4, row_5, row_16, row_22, row_85, Ty.den, dflt_it, dflt_li, dflt_kv, Int.toNat_natCast, List.take_length, List.drop_zero]
                        try simp (maxSteps := 2000000) (disch := omega) only [nI64, nU64, nU32, nU8, nSubL, nAddL, nAdd, nSub, nDiv, nMod, nZ, nLit, row_3, row_4, row_5, row_16, row_22, row_85, Ty.den, dflt_it, dflt_li, dflt_kv, Int.toNat_natCast, List.take_length, List.drop_zero, t1, t3, t4, tl, tg, b1, b2, b3, b4]
                        conv => lhs; whnf
                        try simp (maxSteps := 2000000) (disch := omega) only [nI64, nU64, nU32, nU8, nSubL, nAddL, nAdd, nSub, nDiv, nMod, nZ, nLit, row_3, row_4, row_5, row_16, row_22, row_85, Ty.den, dflt_it, dflt_li, dflt_kv, Int.toNat_natCast, List.take_length, List.drop_zero]
                        try simp (maxSteps := 2000000) (disch := omega) only [nI64, nU64, nU32, nU8, nSubL, nAddL, nAdd, nSub, nDiv, nMod, nZ, nLit, row_3, row_4, row_5, row_16, row_22, row_85, Ty.den, dflt_it, dflt_li, dflt_kv, Int.toNat_natCast, List.take_length, List.drop_zero, t1, t3, t4, tl, tg, b1, b2, b3, b4]
                        conv => lhs; whnf
                        try simp (maxSteps := 2000000) (disch := omega) only [nI64, nU64, nU32, nU8, nSubL, nAddL, nAdd, nSub, nDiv, nMod, nZ, nLit, row_3, row_4, row_5, row_16, row_22, row_85, Ty.den, dflt_it, dflt_li, dflt_kv, Int.toNat_natCast, List.take_length, List.drop_zero]
                        try simp (maxSteps := 2000000) (disch := omega) only [nI64, nU64, nU32, nU8, nSubL, nAddL, nAdd, nSub, nDiv, nMod, nZ, nLit, row_3, row_4, row_5, row_16, row_22, row_85, Ty.den, dflt_it, dflt_li, dflt_kv, Int.toNat_natCast, List.take_length, List.drop_zero, t1, t3, t4, tl, tg, b1, b2, b3, b4]
                        conv => lhs; whnf
                        try simp (maxSteps := 2000000) (disch := omega) only [nI64, nU64, nU32, nU8, nSubL, nAddL, nAdd, nSub, nDiv, nMod, nZ, nLit, row_3, row_4, row_5, row_16, row_22, row_85, Ty.den, dflt_it, dflt_li, dflt_kv, Int.toNat_natCast, List.take_length, List.drop_zero]
                        try simp (maxSteps := 2000000) (disch := omega) only [nI64, nU64, nU32, nU8, nSubL, nAddL, nAdd, nSub, nDiv, nMod, nZ, nLit, row_3, row_4, row_5, row_16, row_22, row_85, Ty.den, dflt_it, dflt_li, dflt_kv, Int.toNat_natCast, List.take_length, List.drop_zero, t1, t3, t4, tl, tg, b1, b2, b3, b4]
                        conv => lhs; whnf
                        try simp (maxSteps := 2000000) (disch := omega) only [nI64, nU64, nU32, nU8, nSubL, nAddL, nAdd, nSub, nDiv, nMod, nZ, nLit, row_3, row_4, row_5, row_16, row_22, row_85, Ty.den, dflt_it, dflt_li, dflt_kv, Int.toNat_natCast, List.take_length, List.drop_zero]
                        repeat (refine br_go ?_ ?_; (focus (((repeat' first | exact rfl | exact ordB_st rfl | exact ordB_of rfl | apply band | apply tst_t | apply nt_t)  <;> (try dsimp only [Ty.den, dflt_kv]) <;> (try simp only [List.length_append, List.length_cons, List.length_nil, List.length_take, List.length_drop, List.length_replicate]) <;> (first | trivial | assumption | omega | (change (_ : Int) ≤ _; omega) | (change (_ : Int) < _; omega) | (change (_ : Nat) * 1 ≤ _; omega) | (change (_ : Nat) * 48 ≤ _; omega) | (change (_ : Nat) * 24 ≤ _; omega) | (change (_ : Nat) * 8 ≤ _; omega) | (change (_ : Nat) * 64 ≤ _; omega) | decide)); done)); (conv => lhs; whnf); (try simp (maxSteps := 2000000) (disch := omega) only [nI64, nU64, nU32, nU8, nSubL, nAddL, nAdd, nSub, nDiv, nMod, nZ, nLit, row_3, row_4, row_5, row_16, row_22, row_85, Ty.den, dflt_it, dflt_li, dflt_kv, Int.toNat_natCast, List.take_length, List.drop_zero]))
                        rfl
                      | true =>
                        try simp (maxSteps := 2000000) (disch := omega) only [nI64, nU64, nU32, nU8, nSubL, nAddL, nAdd, nSub, nDiv, nMod, nZ, nLit, row_3, row_4, row_5, row_16, row_22, row_85, Ty.den, dflt_it, dflt_li, dflt_kv, Int.toNat_natCast, List.take_length, List.drop_zero, t1, t3, t4, tl, tg, b1, b2, b3, b4]
                        conv => lhs; whnf
                        try simp (maxSteps := 2000000) (disch := omega) only [nI64, nU64, nU32, nU8, nSubL, nAddL, nAdd, nSub, nDiv, nMod, nZ, nLit, row_3, row_4, row_5, row_16, row_22, row_85, Ty.den, dflt_it, dflt_li, dflt_kv, Int.toNat_natCast, List.take_length, List.drop_zero]
                        try simp (maxSteps := 2000000) (disch := omega) only [nI64, nU64, nU32, nU8, nSubL, nAddL, nAdd, nSub, nDiv, nMod, nZ, nLit, row_3, row_4, row_5, row_16, row_22, row_85, Ty.den, dflt_it, dflt_li, dflt_kv, Int.toNat_natCast, List.take_length, List.drop_zero, t1, t3, t4, tl, tg, b1, b2, b3, b4]
                        conv => lhs; whnf
                        try simp (maxSteps := 2000000) (disch := omega) only [nI64, nU64, nU32, nU8, nSubL, nAddL, nAdd, nSub, nDiv, nMod, nZ, nLit, row_3, row_4, row_5, row_16, row_22, row_85, Ty.den, dflt_it, dflt_li, dflt_kv, Int.toNat_natCast, List.take_length, List.drop_zero]
                        try simp (maxSteps := 2000000) (disch := omega) only [nI64, nU64, nU32, nU8, nSubL, nAddL, nAdd, nSub, nDiv, nMod, nZ, nLit, row_3, row_4, row_5, row_16, row_22, row_85, Ty.den, dflt_it, dflt_li, dflt_kv, Int.toNat_natCast, List.take_length, List.drop_zero, t1, t3, t4, tl, tg, b1, b2, b3, b4]
                        conv => lhs; whnf
                        try simp (maxSteps := 2000000) (disch := omega) only [nI64, nU64, nU32, nU8, nSubL, nAddL, nAdd, nSub, nDiv, nMod, nZ, nLit, row_3, row_4, row_5, row_16, row_22, row_85, Ty.den, dflt_it, dflt_li, dflt_kv, Int.toNat_natCast, List.take_length, List.drop_zero]
                        try simp (maxSteps := 2000000) (disch := omega) only [nI64, nU64, nU32, nU8, nSubL, nAddL, nAdd, nSub, nDiv, nMod, nZ, nLit, row_3, row_4, row_5, row_16, row_22, row_85, Ty.den, dflt_it, dflt_li, dflt_kv, Int.toNat_natCast, List.take_length, List.drop_zero, t1, t3, t4, tl, tg, b1, b2, b3, b4]
                        conv => lhs; whnf
                        try simp (maxSteps := 2000000) (disch := omega) only [nI64, nU64, nU32, nU8, nSubL, nAddL, nAdd, nSub, nDiv, nMod, nZ, nLit, row_3, row_4, row_5, row_16, row_22, row_85, Ty.den, dflt_it, dflt_li, dflt_kv, Int.toNat_natCast, List.take_length, List.drop_zero]
                        try simp (maxSteps := 2000000) (disch := omega) only [nI64, nU64, nU32, nU8, nSubL, nAddL, nAdd, nSub, nDiv, nMod, nZ, nLit, row_3, row_4, row_5, row_16, row_22, row_85, Ty.den, dflt_it, dflt_li, dflt_kv, Int.toNat_natCast, List.take_length, List.drop_zero, t1, t3, t4, tl, tg, b1, b2, b3, b4]
                        conv => lhs; whnf
                        try simp (maxSteps := 2000000) (disch := omega) only [nI64, nU64, nU32, nU8, nSubL, nAddL, nAdd, nSub, nDiv, nMod, nZ, nLit, row_3, row_4, row_5, row_16, row_22, row_85, Ty.den, dflt_it, dflt_li, dflt_kv, Int.toNat_natCast, List.take_length, List.drop_zero]
                        try simp (maxSteps := 2000000) (disch := omega) only [nI64, nU64, nU32, nU8, nSubL, nAddL, nAdd, nSub, nDiv, nMod, nZ, nLit, row_3, row_4, row_5, row_16, row_22, row_85, Ty.den, dflt_it, dflt_li, dflt_kv, Int.toNat_natCast, List.take_length, List.drop_zero, t1, t3, t4, tl, tg, b1, b2, b3, b4]
                        conv => lhs; whnf
                        try simp (maxSteps := 2000000) (disch := omega) only [nI64, nU64, nU32, nU8, nSubL, nAddL, nAdd, nSub, nDiv, nMod, nZ, nLit, row_3, row_4, row_5, row_16, row_22, row_85, Ty.den, dflt_it, dflt_li, dflt_kv, Int.toNat_natCast, List.take_length, List.drop_zero]
                        try simp (maxSteps := 2000000) (disch := omega) only [nI64, nU64, nU32, nU8, nSubL, nAddL, nAdd, nSub, nDiv, nMod, nZ, nLit, row_3, row_4, row_5, row_16, row_22, row_85, Ty.den, dflt_it, dflt_li, dflt_kv, Int.toNat_natCast, List.take_length, List.drop_zero, t1, t3, t4, tl, tg, b1, b2, b3, b4]
                        conv => lhs; whnf
                        try simp (maxSteps := 2000000) (disch := omega) only [nI64, nU64, nU32, nU8, nSubL, nAddL, nAdd, nSub, nDiv, nMod, nZ, nLit, row_3, row_4, row_5, row_16, row_22, row_85, Ty.den, dflt_it, dflt_li, dflt_kv, Int.toNat_natCast, List.take_length, List.drop_zero]
                        repeat (refine br_go ?_ ?_; (focus (((repeat' first | exact rfl | exact ordB_st rfl | exact ordB_of rfl | apply band | apply tst_t | apply nt_t)  <;> (try dsimp only [Ty.den, dflt_kv]) <;> (try simp only [List.length_append, List.length_cons, List.length_nil, List.length_take, List.length_drop, List.length_replicate]) <;> (first | trivial | assumption | omega | (change (_ : Int) ≤ _; omega) | (change (_ : Int) < _; omega) | (change (_ : Nat) * 1 ≤ _; omega) | (change (_ : Nat) * 48 ≤ _; omega) | (change (_ : Nat) * 24 ≤ _; omega) | (change (_ : Nat) * 8 ≤ _; omega) | (change (_ : Nat) * 64 ≤ _; omega) | decide)); done)); (conv => lhs; whnf); (try simp (maxSteps := 2000000) (disch := omega) only [nI64, nU64, nU32, nU8, nSubL, nAddL, nAdd, nSub, nDiv, nMod, nZ, nLit, row_3, row_4, row_5, row_16, row_22, row_85, Ty.den, dflt_it, dflt_li, dflt_kv, Int.toNat_natCast, List.take_length, List.drop_zero]))
                        rfl
theorem oneS_yes {b : List Int} {a : Nat} {g : Bool} {o : List Int} (h : (recS b a g o).2.2 = true) : oneS b a g o = recS b a g o := by unfold oneS; rw [if_pos h]
abbrev rreadC : Ctx := ⟨rows, (fun | 0 => ([0, 4, 5], [4, 5]) | 1 => ([], [0, 4, 5]) | _ => ([], []))⟩
theorem rread_ok (T : Tab) (h1 : T 25 = oneSp.ent) : readSp.Ok T rreadC F12 := by
  rw [on_top h1]
  rintro ⟨(b : List Int), _⟩ hf hp
  have p3 : b.length ≤ 1099511627776 := tst_iff.1 hp
  obtain ⟨F, hF⟩ : ∃ F : Nat, F = b.length + 5 := ⟨_, rfl⟩
  refine ⟨F, 1, ?_⟩
  show evFn _ _ _ _ _ [vB b] [] _ = some (.tup [.own 0 byl (readS b 0).1, vI ((readS b 0).2 : Nat)] : V)
  conv => lhs; whnf
  try simp (maxSteps := 2000000) (disch := omega) only [nI64, nU64, nU32, nU8, nSubL, nAddL, nAdd, nSub, nDiv, nMod, nZ, nLit, row_3, row_4, row_5, row_16, row_22, row_85, Ty.den, dflt_it, dflt_li, dflt_kv, Int.toNat_natCast, List.take_length, List.drop_zero]
  generalize hR : readS b 0 = R
  refine loop_rule (α := Nat × List (List Int)) (fun s => s.1 ≤ b.length ∧ s.2.length ≤ s.1 ∧ (s.2 ++ (readS b s.1).1, (readS b s.1).2) = R) (fun s => b.length - s.1)
    (fun s => (vB b :: V.bad :: V.bad :: V.bad :: V.own 1 byl s.2 :: vI s.1 :: V.bad :: V.bad :: V.bad :: V.bad :: V.bad :: V.bad :: V.bad :: V.bad :: V.bad :: V.bad :: V.bad :: V.bad :: V.bad :: V.bad :: V.bad :: V.bad :: V.bad :: V.bad :: V.bad :: V.bad :: V.bad :: V.bad :: V.bad :: []))
    (fun s => [.fam 0, .fam s.2.length])
    (fun s => some (V.tup [.own 0 byl R.1, vI (R.2 : Nat)])) ?_ F (0, []) ⟨Nat.zero_le _, Nat.le_refl _, hR⟩ (by show b.length - 0 < F; omega)
  rintro ⟨i, o⟩ K ⟨k1, k2, k3⟩ hK
  simp only at k1 k2 k3 hK ⊢
  conv => lhs; whnf
  try simp (maxSteps := 2000000) (disch := omega) only [nI64, nU64, nU32, nU8, nSubL, nAddL, nAdd, nSub, nDiv, nMod, nZ, nLit, row_3, row_4, row_5, row_16, row_22, row_85, Ty.den, dflt_it, dflt_li, dflt_kv, Int.toNat_natCast, List.take_length, List.drop_zero]
  by_cases hi : i < b.length
  · refine br_go (tst_t (by omega)) ?_
    conv => lhs; whnf
    try simp (maxSteps := 2000000) (disch := omega) only [nI64, nU64, nU32, nU8, nSubL, nAddL, nAdd, nSub, nDiv, nMod, nZ, nLit, row_3, row_4, row_5, row_16, row_22, row_85, Ty.den, dflt_it, dflt_li, dflt_kv, Int.toNat_natCast, List.take_length, List.drop_zero]
    repeat (refine br_go ?_ ?_; (focus (((repeat' first | exact rfl | exact ordB_st rfl | exact ordB_of rfl | apply band | apply tst_t | apply nt_t)  <;> (try dsimp only [Ty.den, dflt_kv]) <;> (try simp only [List.length_append, List.length_cons, List.length_nil, List.length_take, List.length_drop, List.length_replicate]) <;> (first | trivial | assumption | omega | (change (_ : Int) ≤ _; omega) | (change (_ : Int) < _; omega) | (change (_ : Nat) * 1 ≤ _; omega) | (change (_ : Nat) * 48 ≤ _; omega) | (change (_ : Nat) * 24 ≤ _; omega) | (change (_ : Nat) * 8 ≤ _; omega) | (change (_ : Nat) * 64 ≤ _; omega) | decide)); done)); (conv => lhs; whnf); (try simp (maxSteps := 2000000) (disch := omega) only [nI64, nU64, nU32, nU8, nSubL, nAddL, nAdd, nSub, nDiv, nMod, nZ, nLit, row_3, row_4, row_5, row_16, row_22, row_85, Ty.den, dflt_it, dflt_li, dflt_kv, Int.toNat_natCast, List.take_length, List.drop_zero]))
    cases hx : (recS b i false []).2.2 with
    | false =>
      rw [readS_no' hx, List.append_nil] at k3
      have e1 := oneS_no hx
      try simp (maxSteps := 2000000) (disch := omega) only [nI64, nU64, nU32, nU8, nSubL, nAddL, nAdd, nSub, nDiv, nMod, nZ, nLit, row_3, row_4, row_5, row_16, row_22, row_85, Ty.den, dflt_it, dflt_li, dflt_kv, Int.toNat_natCast, List.take_length, List.drop_zero, e1]
      conv => lhs; whnf
      try simp (maxSteps := 2000000) (disch := omega) only [nI64, nU64, nU32, nU8, nSubL, nAddL, nAdd, nSub, nDiv, nMod, nZ, nLit, row_3, row_4, row_5, row_16, row_22, row_85, Ty.den, dflt_it, dflt_li, dflt_kv, Int.toNat_natCast, List.take_length, List.drop_zero]
      repeat (refine br_go ?_ ?_; (focus (((repeat' first | exact rfl | exact ordB_st rfl | exact ordB_of rfl | apply band | apply tst_t | apply nt_t)  <;> (try dsimp only [Ty.den, dflt_kv]) <;> (try simp only [List.length_append, List.length_cons, List.length_nil, List.length_take, List.length_drop, List.length_replicate]) <;> (first | trivial | assumption | omega | (change (_ : Int) ≤ _; omega) | (change (_ : Int) < _; omega) | (change (_ : Nat) * 1 ≤ _; omega) | (change (_ : Nat) * 48 ≤ _; omega) | (change (_ : Nat) * 24 ≤ _; omega) | (change (_ : Nat) * 8 ≤ _; omega) | (change (_ : Nat) * 64 ≤ _; omega) | decide)); done)); (conv => lhs; whnf); (try simp (maxSteps := 2000000) (disch := omega) only [nI64, nU64, nU32, nU8, nSubL, nAddL, nAdd, nSub, nDiv, nMod, nZ, nLit, row_3, row_4, row_5, row_16, row_22, row_85, Ty.den, dflt_it, dflt_li, dflt_kv, Int.toNat_natCast, List.take_length, List.drop_zero]))
      rw [← k3]
    | true =>
      rw [readS_yes' hx] at k3
      have he := recS_end b _ i false [] (Nat.le_refl _) hx
      have e1 := oneS_yes hx
      try simp (maxSteps := 2000000) (disch := omega) only [nI64, nU64, nU32, nU8, nSubL, nAddL, nAdd, nSub, nDiv, nMod, nZ, nLit, row_3, row_4, row_5, row_16, row_22, row_85, Ty.den, dflt_it, dflt_li, dflt_kv, Int.toNat_natCast, List.take_length, List.drop_zero, e1, hx]
      conv => lhs; whnf
      try simp (maxSteps := 2000000) (disch := omega) only [nI64, nU64, nU32, nU8, nSubL, nAddL, nAdd, nSub, nDiv, nMod, nZ, nLit, row_3, row_4, row_5, row_16, row_22, row_85, Ty.den, dflt_it, dflt_li, dflt_kv, Int.toNat_natCast, List.take_length, List.drop_zero]
      repeat (refine br_go ?_ ?_; (focus (((repeat' first | exact rfl | exact ordB_st rfl | exact ordB_of rfl | apply band | apply tst_t | apply nt_t)  <;> (try dsimp only [Ty.den, dflt_kv]) <;> (try simp only [List.length_append, List.length_cons, List.length_nil, List.length_take, List.length_drop, List.length_replicate]) <;> (first | trivial | assumption | omega | (change (_ : Int) ≤ _; omega) | (change (_ : Int) < _; omega) | (change (_ : Nat) * 1 ≤ _; omega) | (change (_ : Nat) * 48 ≤ _; omega) | (change (_ : Nat) * 24 ≤ _; omega) | (change (_ : Nat) * 8 ≤ _; omega) | (change (_ : Nat) * 64 ≤ _; omega) | decide)); done)); (conv => lhs; whnf); (try simp (maxSteps := 2000000) (disch := omega) only [nI64, nU64, nU32, nU8, nSubL, nAddL, nAdd, nSub, nDiv, nMod, nZ, nLit, row_3, row_4, row_5, row_16, row_22, row_85, Ty.den, dflt_it, dflt_li, dflt_kv, Int.toNat_natCast, List.take_length, List.drop_zero]))
      exact hK ((recS b i false []).2.1, o ++ [(recS b i false []).1]) ⟨he.2, by show (o ++ [_]).length ≤ _; rw [List.length_append]; simp; omega, by rw [← k3, List.append_assoc]; rfl⟩ (by show b.length - _ < b.length - i; omega)
  · refine br_no (tst_f (by omega)) ?_
    conv => lhs; whnf
    try simp (maxSteps := 2000000) (disch := omega) only [nI64, nU64, nU32, nU8, nSubL, nAddL, nAdd, nSub, nDiv, nMod, nZ, nLit, row_3, row_4, row_5, row_16, row_22, row_85, Ty.den, dflt_it, dflt_li, dflt_kv, Int.toNat_natCast, List.take_length, List.drop_zero]
    repeat (refine br_go ?_ ?_; (focus (((repeat' first | exact rfl | exact ordB_st rfl | exact ordB_of rfl | apply band | apply tst_t | apply nt_t)  <;> (try dsimp only [Ty.den, dflt_kv]) <;> (try simp only [List.length_append, List.length_cons, List.length_nil, List.length_take, List.length_drop, List.length_replicate]) <;> (first | trivial | assumption | omega | (change (_ : Int) ≤ _; omega) | (change (_ : Int) < _; omega) | (change (_ : Nat) * 1 ≤ _; omega) | (change (_ : Nat) * 48 ≤ _; omega) | (change (_ : Nat) * 24 ≤ _; omega) | (change (_ : Nat) * 8 ≤ _; omega) | (change (_ : Nat) * 64 ≤ _; omega) | decide)); done)); (conv => lhs; whnf); (try simp (maxSteps := 2000000) (disch := omega) only [nI64, nU64, nU32, nU8, nSubL, nAddL, nAdd, nSub, nDiv, nMod, nZ, nLit, row_3, row_4, row_5, row_16, row_22, row_85, Ty.den, dflt_it, dflt_li, dflt_kv, Int.toNat_natCast, List.take_length, List.drop_zero]))
    obtain rfl : i = b.length := by omega
    rw [readS_no' (recS_over b false []), List.append_nil] at k3
    rw [← k3]
end Go.Proofs.YtbcfagackcnpkaaDoor.Ev
/- Entries held against one another, copied, looked at: by the helps. -/
namespace Go.Proofs.YtbcfagackcnpkaaDoor.Ev
open Go Go.RowKit
set_option linter.unusedVariables false
set_option linter.unusedSimpArgs false
set_option maxRecDepth 100000
set_option maxHeartbeats 8000000
abbrev hbytesC : Ctx := ⟨rows, (fun  | _ => ([], []))⟩
theorem hbytes_ok (T : Tab) : hbytesSp.Ok T hbytesC F14 := by
  rintro ⟨(a : List Int), (b : List Int), _⟩ hf _
  obtain ⟨F, hF⟩ : ∃ F : Nat, F = 1 := ⟨_, rfl⟩
  refine ⟨F, 0, ?_⟩
  show evFn _ _ _ _ _ [vB a, vB b] [] _ = some (vT (a = b) : V)
  conv => lhs; whnf
  try simp (maxSteps := 2000000) (disch := omega) only [nI64, nU64, nU32, nU8, nSubL, nAddL, nAdd, nSub, nDiv, nMod, nZ, nLit, row_3, row_4, row_5, row_16, row_22, row_85, Ty.den, dflt_it, dflt_li, dflt_kv, Int.toNat_natCast, List.take_length, List.drop_zero]
end Go.Proofs.YtbcfagackcnpkaaDoor.Ev
