/- The law of blocks with fewer restarts: true of all data. -/
import Derived.Test.YtdhbelpejaobdaaCTab7
namespace Go.Proofs.Ytdhbelpejaobdaa.Ev
open Go Go.RowKit
set_option linter.unusedVariables false
set_option linter.unusedSimpArgs false
set_option maxRecDepth 100000
set_option maxHeartbeats 8000000
theorem putS_len_eq (n : Nat) : (putS n).length = if n < 128 then 1 else (putS (n / 128)).length + 1 := by
  rw [putS]; split <;> rfl
theorem putS_mono {a b : Nat} (h : a ≤ b) : (putS a).length ≤ (putS b).length := by
  induction b using Nat.strongRecOn generalizing a with
  | ind b ih =>
    rw [putS_len_eq a, putS_len_eq b]
    by_cases hb : b < 128
    · rw [if_pos (by omega), if_pos hb]; exact Nat.le_refl _
    · rw [if_neg hb]
      split
      · omega
      · have := ih (b / 128) (by omega) (a := a / 128) (Nat.div_le_div_right h)
        omega
theorem putS_le_succ (k : Nat) : (putS k).length ≤ k + 1 := by
  induction k using Nat.strongRecOn with
  | ind k ih =>
    rw [putS_len_eq]
    split
    · omega
    · have := ih (k / 128) (by omega)
      omega
theorem entB_shorter {k : Nat} {x : KV} (hk : k ≤ x.1.length) : (entB k x).length ≤ (entB 0 x).length := by
  have h1 := putS_le_succ k
  have h2 := putS_mono (a := x.1.length - k) (b := x.1.length - 0) (by omega)
  have h3 : (putS 0).length = 1 := by rw [putS]; rfl
  simp only [entB, List.length_append, List.length_drop]
  omega
theorem built_shorter (r t : Nat) : ∀ (l : List KV) (p : List Int) (i : Nat) (out tail : List Int) (n : Nat) (out' tail' : List Int) (n' : Nat), out'.length + tail'.length ≤ out.length + tail.length →
    (builtGo (r * t) p i l out' tail' n').length ≤ (builtGo r p i l out tail n).length
  | [], p, i, out, tail, n, out', tail', n', h => by
    simp only [builtGo, List.length_append, fixedL_length]; omega
  | x :: l, p, i, out, tail, n, out', tail', n', h => by
    simp only [builtGo]
    by_cases h1 : i % (r * t) = 0
    · have h2 : i % r = 0 := by
        rw [← Nat.mod_mul_right_mod i r t, h1, Nat.zero_mod]
      rw [if_pos h1, if_pos h2]
      refine built_shorter r t l _ _ _ _ _ _ _ _ ?_
      simp only [List.length_append, fixedL_length]; omega
    · rw [if_neg h1]
      have hk := entB_shorter (k := sharedL p x.1) (x := x) (sharedL_right p x.1)
      by_cases h2 : i % r = 0
      · rw [if_pos h2]
        refine built_shorter r t l _ _ _ _ _ _ _ _ ?_
        simp only [List.length_append, fixedL_length]; omega
      · rw [if_neg h2]
        refine built_shorter r t l _ _ _ _ _ _ _ _ ?_
        simp only [List.length_append]; omega
abbrev sharesC : Ctx := ⟨rows, (fun  | _ => ([], []))⟩
def sharesSp : Sp := ⟨[kvl, i64, i64], fun _ => true, fun _ => .d .bo true⟩
theorem shares_ok (T : Tab) (h1 : T 11 = knownSp.ent) (h2 : T 12 = fewSp.ent) (h4 : T 14 = buildSp.ent) : sharesSp.Ok T sharesC F5 := by
  rw [on_top h1, on_top h2, on_top h4]
  rintro ⟨(l : List KV), (r : Int), (t : Int), _⟩ hf _
  obtain ⟨F, hF⟩ : ∃ F : Nat, F = 1 := ⟨_, rfl⟩
  refine ⟨F, 0, ?_⟩
  show evFn _ _ _ _ _ [vK l, vI r, vI t] [] _ = some (.d .bo true : V)
  conv => lhs; whnf
  try simp (disch := omega) only [nI64, nU64, nU32, nU8, nSubL, nAddL, nAdd, nSub, nDiv, nMod, nZ, nLit, row_3, row_5, row_16, row_26, row_42, row_58, Ty.den, dflt_it, dflt_li, dflt_kv, Int.toNat_natCast, List.take_length, List.drop_zero]
  by_cases hw : few7 l
  · have hl := hw.1
    have hfa : Fair l := ⟨by have := hw.1; omega, by have := hw.2; omega⟩
    refine br_no (nt_f hw) ?_
    conv => lhs; whnf
    try simp (disch := omega) only [nI64, nU64, nU32, nU8, nSubL, nAddL, nAdd, nSub, nDiv, nMod, nZ, nLit, row_3, row_5, row_16, row_26, row_42, row_58, Ty.den, dflt_it, dflt_li, dflt_kv, Int.toNat_natCast, List.take_length, List.drop_zero]
    by_cases g1 : r < 1
    · refine br_go (tst_t (g1)) ?_
      conv => lhs; whnf
      try simp (disch := omega) only [nI64, nU64, nU32, nU8, nSubL, nAddL, nAdd, nSub, nDiv, nMod, nZ, nLit, row_3, row_5, row_16, row_26, row_42, row_58, Ty.den, dflt_it, dflt_li, dflt_kv, Int.toNat_natCast, List.take_length, List.drop_zero]
      repeat (refine br_go ?_ ?_; (focus (((repeat' first | exact rfl | exact ordB_st rfl | exact ordB_of rfl | apply band | apply tst_t | apply nt_t)  <;> (try dsimp only [Ty.den, dflt_kv]) <;> (try simp only [List.length_append, List.length_cons, List.length_nil, List.length_take, List.length_drop, List.length_replicate]) <;> (first | trivial | assumption | omega | (change (_ : Int) ≤ _; omega) | (change (_ : Int) < _; omega) | (change (_ : Nat) * 1 ≤ _; omega) | (change (_ : Nat) * 48 ≤ _; omega) | (change (_ : Nat) * 24 ≤ _; omega) | (change (_ : Nat) * 8 ≤ _; omega) | (change (_ : Nat) * 64 ≤ _; omega) | decide)); done)); (conv => lhs; whnf); (try simp (disch := omega) only [nI64, nU64, nU32, nU8, nSubL, nAddL, nAdd, nSub, nDiv, nMod, nZ, nLit, row_3, row_5, row_16, row_26, row_42, row_58, Ty.den, dflt_it, dflt_li, dflt_kv, Int.toNat_natCast, List.take_length, List.drop_zero]))
    · refine br_no (tst_f (g1)) ?_
      conv => lhs; whnf
      try simp (disch := omega) only [nI64, nU64, nU32, nU8, nSubL, nAddL, nAdd, nSub, nDiv, nMod, nZ, nLit, row_3, row_5, row_16, row_26, row_42, row_58, Ty.den, dflt_it, dflt_li, dflt_kv, Int.toNat_natCast, List.take_length, List.drop_zero]
      by_cases g2 : t < 1
      · refine br_go (tst_t (g2)) ?_
        conv => lhs; whnf
        try simp (disch := omega) only [nI64, nU64, nU32, nU8, nSubL, nAddL, nAdd, nSub, nDiv, nMod, nZ, nLit, row_3, row_5, row_16, row_26, row_42, row_58, Ty.den, dflt_it, dflt_li, dflt_kv, Int.toNat_natCast, List.take_length, List.drop_zero]
        repeat (refine br_go ?_ ?_; (focus (((repeat' first | exact rfl | exact ordB_st rfl | exact ordB_of rfl | apply band | apply tst_t | apply nt_t)  <;> (try dsimp only [Ty.den, dflt_kv]) <;> (try simp only [List.length_append, List.length_cons, List.length_nil, List.length_take, List.length_drop, List.length_replicate]) <;> (first | trivial | assumption | omega | (change (_ : Int) ≤ _; omega) | (change (_ : Int) < _; omega) | (change (_ : Nat) * 1 ≤ _; omega) | (change (_ : Nat) * 48 ≤ _; omega) | (change (_ : Nat) * 24 ≤ _; omega) | (change (_ : Nat) * 8 ≤ _; omega) | (change (_ : Nat) * 64 ≤ _; omega) | decide)); done)); (conv => lhs; whnf); (try simp (disch := omega) only [nI64, nU64, nU32, nU8, nSubL, nAddL, nAdd, nSub, nDiv, nMod, nZ, nLit, row_3, row_5, row_16, row_26, row_42, row_58, Ty.den, dflt_it, dflt_li, dflt_kv, Int.toNat_natCast, List.take_length, List.drop_zero]))
      · refine br_no (tst_f (g2)) ?_
        conv => lhs; whnf
        try simp (disch := omega) only [nI64, nU64, nU32, nU8, nSubL, nAddL, nAdd, nSub, nDiv, nMod, nZ, nLit, row_3, row_5, row_16, row_26, row_42, row_58, Ty.den, dflt_it, dflt_li, dflt_kv, Int.toNat_natCast, List.take_length, List.drop_zero]
        by_cases g3 : r > 64
        · refine br_go (tst_t (g3)) ?_
          conv => lhs; whnf
          try simp (disch := omega) only [nI64, nU64, nU32, nU8, nSubL, nAddL, nAdd, nSub, nDiv, nMod, nZ, nLit, row_3, row_5, row_16, row_26, row_42, row_58, Ty.den, dflt_it, dflt_li, dflt_kv, Int.toNat_natCast, List.take_length, List.drop_zero]
          repeat (refine br_go ?_ ?_; (focus (((repeat' first | exact rfl | exact ordB_st rfl | exact ordB_of rfl | apply band | apply tst_t | apply nt_t)  <;> (try dsimp only [Ty.den, dflt_kv]) <;> (try simp only [List.length_append, List.length_cons, List.length_nil, List.length_take, List.length_drop, List.length_replicate]) <;> (first | trivial | assumption | omega | (change (_ : Int) ≤ _; omega) | (change (_ : Int) < _; omega) | (change (_ : Nat) * 1 ≤ _; omega) | (change (_ : Nat) * 48 ≤ _; omega) | (change (_ : Nat) * 24 ≤ _; omega) | (change (_ : Nat) * 8 ≤ _; omega) | (change (_ : Nat) * 64 ≤ _; omega) | decide)); done)); (conv => lhs; whnf); (try simp (disch := omega) only [nI64, nU64, nU32, nU8, nSubL, nAddL, nAdd, nSub, nDiv, nMod, nZ, nLit, row_3, row_5, row_16, row_26, row_42, row_58, Ty.den, dflt_it, dflt_li, dflt_kv, Int.toNat_natCast, List.take_length, List.drop_zero]))
        · refine br_no (tst_f (g3)) ?_
          conv => lhs; whnf
          try simp (disch := omega) only [nI64, nU64, nU32, nU8, nSubL, nAddL, nAdd, nSub, nDiv, nMod, nZ, nLit, row_3, row_5, row_16, row_26, row_42, row_58, Ty.den, dflt_it, dflt_li, dflt_kv, Int.toNat_natCast, List.take_length, List.drop_zero]
          by_cases g4 : t > 64
          · refine br_go (tst_t (g4)) ?_
            conv => lhs; whnf
            try simp (disch := omega) only [nI64, nU64, nU32, nU8, nSubL, nAddL, nAdd, nSub, nDiv, nMod, nZ, nLit, row_3, row_5, row_16, row_26, row_42, row_58, Ty.den, dflt_it, dflt_li, dflt_kv, Int.toNat_natCast, List.take_length, List.drop_zero]
            repeat (refine br_go ?_ ?_; (focus (((repeat' first | exact rfl | exact ordB_st rfl | exact ordB_of rfl | apply band | apply tst_t | apply nt_t)  <;> (try dsimp only [Ty.den, dflt_kv]) <;> (try simp only [List.length_append, List.length_cons, List.length_nil, List.length_take, List.length_drop, List.length_replicate]) <;> (first | trivial | assumption | omega | (change (_ : Int) ≤ _; omega) | (change (_ : Int) < _; omega) | (change (_ : Nat) * 1 ≤ _; omega) | (change (_ : Nat) * 48 ≤ _; omega) | (change (_ : Nat) * 24 ≤ _; omega) | (change (_ : Nat) * 8 ≤ _; omega) | (change (_ : Nat) * 64 ≤ _; omega) | decide)); done)); (conv => lhs; whnf); (try simp (disch := omega) only [nI64, nU64, nU32, nU8, nSubL, nAddL, nAdd, nSub, nDiv, nMod, nZ, nLit, row_3, row_5, row_16, row_26, row_42, row_58, Ty.den, dflt_it, dflt_li, dflt_kv, Int.toNat_natCast, List.take_length, List.drop_zero]))
          · refine br_no (tst_f (g4)) ?_
            conv => lhs; whnf
            try simp (disch := omega) only [nI64, nU64, nU32, nU8, nSubL, nAddL, nAdd, nSub, nDiv, nMod, nZ, nLit, row_3, row_5, row_16, row_26, row_42, row_58, Ty.den, dflt_it, dflt_li, dflt_kv, Int.toNat_natCast, List.take_length, List.drop_zero]
            obtain ⟨m, rfl⟩ : ∃ m : Nat, r = m := ⟨r.toNat, by omega⟩
            obtain ⟨k, rfl⟩ : ∃ k : Nat, t = k := ⟨t.toNat, by omega⟩
            have hp : m * k ≤ 64 * 64 := Nat.mul_le_mul (by omega) (by omega)
            have hp1 : 1 * 1 ≤ m * k := Nat.mul_le_mul (by omega) (by omega)
            have hc : (m : Int) * (k : Int) = ((m * k : Nat) : Int) := by simp
            try simp (disch := omega) only [nI64, nU64, nU32, nU8, nSubL, nAddL, nAdd, nSub, nDiv, nMod, nZ, nLit, row_3, row_5, row_16, row_26, row_42, row_58, Ty.den, dflt_it, dflt_li, dflt_kv, Int.toNat_natCast, List.take_length, List.drop_zero, hc]
            by_cases g5 : m * k > 64
            · refine br_go (tst_t (by omega)) ?_
              conv => lhs; whnf
              try simp (disch := omega) only [nI64, nU64, nU32, nU8, nSubL, nAddL, nAdd, nSub, nDiv, nMod, nZ, nLit, row_3, row_5, row_16, row_26, row_42, row_58, Ty.den, dflt_it, dflt_li, dflt_kv, Int.toNat_natCast, List.take_length, List.drop_zero]
              repeat (refine br_go ?_ ?_; (focus (((repeat' first | exact rfl | exact ordB_st rfl | exact ordB_of rfl | apply band | apply tst_t | apply nt_t)  <;> (try dsimp only [Ty.den, dflt_kv]) <;> (try simp only [List.length_append, List.length_cons, List.length_nil, List.length_take, List.length_drop, List.length_replicate]) <;> (first | trivial | assumption | omega | (change (_ : Int) ≤ _; omega) | (change (_ : Int) < _; omega) | (change (_ : Nat) * 1 ≤ _; omega) | (change (_ : Nat) * 48 ≤ _; omega) | (change (_ : Nat) * 24 ≤ _; omega) | (change (_ : Nat) * 8 ≤ _; omega) | (change (_ : Nat) * 64 ≤ _; omega) | decide)); done)); (conv => lhs; whnf); (try simp (disch := omega) only [nI64, nU64, nU32, nU8, nSubL, nAddL, nAdd, nSub, nDiv, nMod, nZ, nLit, row_3, row_5, row_16, row_26, row_42, row_58, Ty.den, dflt_it, dflt_li, dflt_kv, Int.toNat_natCast, List.take_length, List.drop_zero]))
            · refine br_no (tst_f (by omega)) ?_
              conv => lhs; whnf
              try simp (disch := omega) only [nI64, nU64, nU32, nU8, nSubL, nAddL, nAdd, nSub, nDiv, nMod, nZ, nLit, row_3, row_5, row_16, row_26, row_42, row_58, Ty.den, dflt_it, dflt_li, dflt_kv, Int.toNat_natCast, List.take_length, List.drop_zero]
              repeat (refine br_go ?_ ?_; (focus (((repeat' first | exact rfl | exact ordB_st rfl | exact ordB_of rfl | apply band | apply tst_t | apply nt_t)  <;> (try dsimp only [Ty.den, dflt_kv]) <;> (try simp only [List.length_append, List.length_cons, List.length_nil, List.length_take, List.length_drop, List.length_replicate]) <;> (first | trivial | assumption | omega | (change (_ : Int) ≤ _; omega) | (change (_ : Int) < _; omega) | (change (_ : Nat) * 1 ≤ _; omega) | (change (_ : Nat) * 48 ≤ _; omega) | (change (_ : Nat) * 24 ≤ _; omega) | (change (_ : Nat) * 8 ≤ _; omega) | (change (_ : Nat) * 64 ≤ _; omega) | decide)); done)); (conv => lhs; whnf); (try simp (disch := omega) only [nI64, nU64, nU32, nU8, nSubL, nAddL, nAdd, nSub, nDiv, nMod, nZ, nLit, row_3, row_5, row_16, row_26, row_42, row_58, Ty.den, dflt_it, dflt_li, dflt_kv, Int.toNat_natCast, List.take_length, List.drop_zero]))
              try simp (disch := omega) only [nI64, nU64, nU32, nU8, nSubL, nAddL, nAdd, nSub, nDiv, nMod, nZ, nLit, row_3, row_5, row_16, row_26, row_42, row_58, Ty.den, dflt_it, dflt_li, dflt_kv, Int.toNat_natCast, List.take_length, List.drop_zero, hc]
              have e1 : buildS l m 71 70 = if Rises l then (built l m, 0) else ([], 70) := by
                unfold buildS; rw [if_neg (by omega)]; rfl
              have e2 : buildS l ((m * k : Nat) : Int) 71 70 = if Rises l then (built l (m * k), 0) else ([], 70) := by
                unfold buildS; rw [if_neg (by omega)]; rfl
              have hs := built_shorter m k l [] 0 [] [] 0 [] [] 0 (Nat.le_refl _)
              by_cases hr : Rises l
              · rw [if_pos hr] at e1 e2
                try simp (disch := omega) only [nI64, nU64, nU32, nU8, nSubL, nAddL, nAdd, nSub, nDiv, nMod, nZ, nLit, row_3, row_5, row_16, row_26, row_42, row_58, Ty.den, dflt_it, dflt_li, dflt_kv, Int.toNat_natCast, List.take_length, List.drop_zero, e1, e2]
                repeat (refine br_go ?_ ?_; (focus (((repeat' first | exact rfl | exact ordB_st rfl | exact ordB_of rfl | apply band | apply tst_t | apply nt_t)  <;> (try dsimp only [Ty.den, dflt_kv]) <;> (try simp only [List.length_append, List.length_cons, List.length_nil, List.length_take, List.length_drop, List.length_replicate]) <;> (first | trivial | assumption | omega | (change (_ : Int) ≤ _; omega) | (change (_ : Int) < _; omega) | (change (_ : Nat) * 1 ≤ _; omega) | (change (_ : Nat) * 48 ≤ _; omega) | (change (_ : Nat) * 24 ≤ _; omega) | (change (_ : Nat) * 8 ≤ _; omega) | (change (_ : Nat) * 64 ≤ _; omega) | decide)); done)); (conv => lhs; whnf); (try simp (disch := omega) only [nI64, nU64, nU32, nU8, nSubL, nAddL, nAdd, nSub, nDiv, nMod, nZ, nLit, row_3, row_5, row_16, row_26, row_42, row_58, Ty.den, dflt_it, dflt_li, dflt_kv, Int.toNat_natCast, List.take_length, List.drop_zero]))
                refine br_no (tst_f (by omega)) ?_
                conv => lhs; whnf
                try simp (disch := omega) only [nI64, nU64, nU32, nU8, nSubL, nAddL, nAdd, nSub, nDiv, nMod, nZ, nLit, row_3, row_5, row_16, row_26, row_42, row_58, Ty.den, dflt_it, dflt_li, dflt_kv, Int.toNat_natCast, List.take_length, List.drop_zero]
                have hs' : ((built l (m * k)).length : Int) ≤ ((built l m).length : Int) := by exact_mod_cast hs
                repeat (refine br_go ?_ ?_; (focus (((repeat' first | exact rfl | exact ordB_st rfl | exact ordB_of rfl | apply band | apply tst_t | apply nt_t)  <;> (try dsimp only [Ty.den, dflt_kv]) <;> (try simp only [List.length_append, List.length_cons, List.length_nil, List.length_take, List.length_drop, List.length_replicate]) <;> (first | trivial | assumption | omega | (change (_ : Int) ≤ _; omega) | (change (_ : Int) < _; omega) | (change (_ : Nat) * 1 ≤ _; omega) | (change (_ : Nat) * 48 ≤ _; omega) | (change (_ : Nat) * 24 ≤ _; omega) | (change (_ : Nat) * 8 ≤ _; omega) | (change (_ : Nat) * 64 ≤ _; omega) | decide)); done)); (conv => lhs; whnf); (try simp (disch := omega) only [nI64, nU64, nU32, nU8, nSubL, nAddL, nAdd, nSub, nDiv, nMod, nZ, nLit, row_3, row_5, row_16, row_26, row_42, row_58, Ty.den, dflt_it, dflt_li, dflt_kv, Int.toNat_natCast, List.take_length, List.drop_zero]))
                exact bo_eq (tst_t hs')
              · rw [if_neg hr] at e1 e2
                try simp (disch := omega) only [nI64, nU64, nU32, nU8, nSubL, nAddL, nAdd, nSub, nDiv, nMod, nZ, nLit, row_3, row_5, row_16, row_26, row_42, row_58, Ty.den, dflt_it, dflt_li, dflt_kv, Int.toNat_natCast, List.take_length, List.drop_zero, e1, e2]
                repeat (refine br_go ?_ ?_; (focus (((repeat' first | exact rfl | exact ordB_st rfl | exact ordB_of rfl | apply band | apply tst_t | apply nt_t)  <;> (try dsimp only [Ty.den, dflt_kv]) <;> (try simp only [List.length_append, List.length_cons, List.length_nil, List.length_take, List.length_drop, List.length_replicate]) <;> (first | trivial | assumption | omega | (change (_ : Int) ≤ _; omega) | (change (_ : Int) < _; omega) | (change (_ : Nat) * 1 ≤ _; omega) | (change (_ : Nat) * 48 ≤ _; omega) | (change (_ : Nat) * 24 ≤ _; omega) | (change (_ : Nat) * 8 ≤ _; omega) | (change (_ : Nat) * 64 ≤ _; omega) | decide)); done)); (conv => lhs; whnf); (try simp (disch := omega) only [nI64, nU64, nU32, nU8, nSubL, nAddL, nAdd, nSub, nDiv, nMod, nZ, nLit, row_3, row_5, row_16, row_26, row_42, row_58, Ty.den, dflt_it, dflt_li, dflt_kv, Int.toNat_natCast, List.take_length, List.drop_zero]))
  · refine br_go (nt_t hw) ?_
    conv => lhs; whnf
    try simp (disch := omega) only [nI64, nU64, nU32, nU8, nSubL, nAddL, nAdd, nSub, nDiv, nMod, nZ, nLit, row_3, row_5, row_16, row_26, row_42, row_58, Ty.den, dflt_it, dflt_li, dflt_kv, Int.toNat_natCast, List.take_length, List.drop_zero]
    repeat (refine br_go ?_ ?_; (focus (((repeat' first | exact rfl | exact ordB_st rfl | exact ordB_of rfl | apply band | apply tst_t | apply nt_t)  <;> (try dsimp only [Ty.den, dflt_kv]) <;> (try simp only [List.length_append, List.length_cons, List.length_nil, List.length_take, List.length_drop, List.length_replicate]) <;> (first | trivial | assumption | omega | (change (_ : Int) ≤ _; omega) | (change (_ : Int) < _; omega) | (change (_ : Nat) * 1 ≤ _; omega) | (change (_ : Nat) * 48 ≤ _; omega) | (change (_ : Nat) * 24 ≤ _; omega) | (change (_ : Nat) * 8 ≤ _; omega) | (change (_ : Nat) * 64 ≤ _; omega) | decide)); done)); (conv => lhs; whnf); (try simp (disch := omega) only [nI64, nU64, nU32, nU8, nSubL, nAddL, nAdd, nSub, nDiv, nMod, nZ, nLit, row_3, row_5, row_16, row_26, row_42, row_58, Ty.den, dflt_it, dflt_li, dflt_kv, Int.toNat_natCast, List.take_length, List.drop_zero]))
end Go.Proofs.Ytdhbelpejaobdaa.Ev
