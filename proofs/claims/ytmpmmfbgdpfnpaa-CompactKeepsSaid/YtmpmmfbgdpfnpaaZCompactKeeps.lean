/- CompactKeeps: the Go law of that name returns true for every input and leaves its arguments as they were. Conditions: none but the statement's own. Its function was walked with a walker over plain data that is proved to tell what the machine does. -/
import Derived.Test.YtmpmmfbgdpfnpaaM6
import Derived.Test.YtmpmmfbgdpfnpaaRows
set_option linter.unusedVariables false
set_option linter.unusedSimpArgs false
set_option linter.unusedSectionVars false
/- The law of views that stay: true of all data. -/
namespace Go.Proofs.Ytmpmmfbgdpfnpaa.Ev
open Go Go.RowKit
set_option linter.unusedVariables false
set_option linter.unusedSimpArgs false
set_option maxRecDepth 100000
set_option maxHeartbeats 8000000
abbrev kkeepsC : Ctx := ⟨rows, (fun | 0 => ([3, 4, 5, 13, 15, 17, 18], [3, 4, 5, 13, 15, 17]) | 1 => ([], [3, 4, 5, 13, 15, 17, 18]) | _ => ([], []))⟩
def kkeepsSp : Sp := ⟨[kvll, u64, kvl, byl, u64, byl], fun _ => true, fun _ => .d .bo true⟩
theorem kkeeps_ok (T : Tab) (h1 : T 9 = knownSp.ent) (h2 : T 10 = few10Sp.ent) (h3 : T 11 = mgSp.ent) (h4 : T 14 = sortedSp.ent) (h5 : T 15 = inSp.ent) (h6 : T 16 = rsplitSp.ent) (h7 : T 17 = cmpBSp.ent) (h8 : T 18 = rkeySp.ent) (h9 : T 19 = viewSp.ent) (h10 : T 20 = hbytesSp.ent) : kkeepsSp.Ok T kkeepsC F4 := by
  rw [on_top h1, on_top h2, on_top h3, on_top h4, on_top h5, on_top h6, on_top h7, on_top h8, on_top h9, on_top h10]
  rintro ⟨(l : List (List KV)), (old : Int), (dp : List KV), (u : List Int), (q : Int), (below : List Int), _⟩ hf _
  obtain ⟨F, hF⟩ : ∃ F : Nat, F = 500 := ⟨_, rfl⟩
  refine ⟨F, 0, ?_⟩
  show evFn _ _ _ _ _ [.d kvll l, vU old, vK dp, vB u, vU q, vB below] [] _ = some (.d .bo true : V)
  conv => lhs; whnf
  try simp (maxSteps := 2000000) (disch := omega) only [NN, Ty.den, dflt_kv]
  have hsl := sortedS_len l
  by_cases hw : fewL l
  · refine br_no (nt_f hw) ?_
    conv => lhs; whnf
    try simp (maxSteps := 2000000) (disch := omega) only [NN, Ty.den, dflt_kv]
    repeat (refine br_go ?_ ?_; (focus (((repeat' first | exact rfl | exact ordB_st rfl | exact ordB_of rfl | apply band | apply tst_t | apply nt_t)  <;> (try dsimp only [Ty.den, dflt_kv]) <;> (try simp only [LL]) <;> (first | trivial | assumption | omega | (change (_ : Int) ≤ _; omega) | (change (_ : Int) < _; omega) | (change (_ : Nat) * 1 ≤ _; omega) | (change (_ : Nat) * 48 ≤ _; omega) | (change (_ : Nat) * 24 ≤ _; omega) | (change (_ : Nat) * 8 ≤ _; omega) | (change (_ : Nat) * 64 ≤ _; omega) | decide)); done)); (conv => lhs; whnf); (try simp (maxSteps := 2000000) (disch := omega) only [NN, Ty.den, dflt_kv]))
    by_cases hd : dp.length > 20
    · refine br_go (tst_t (by omega)) ?_
      conv => lhs; whnf
      try simp (maxSteps := 2000000) (disch := omega) only [NN, Ty.den, dflt_kv]
      repeat (refine br_go ?_ ?_; (focus (((repeat' first | exact rfl | exact ordB_st rfl | exact ordB_of rfl | apply band | apply tst_t | apply nt_t)  <;> (try dsimp only [Ty.den, dflt_kv]) <;> (try simp only [LL]) <;> (first | trivial | assumption | omega | (change (_ : Int) ≤ _; omega) | (change (_ : Int) < _; omega) | (change (_ : Nat) * 1 ≤ _; omega) | (change (_ : Nat) * 48 ≤ _; omega) | (change (_ : Nat) * 24 ≤ _; omega) | (change (_ : Nat) * 8 ≤ _; omega) | (change (_ : Nat) * 64 ≤ _; omega) | decide)); done)); (conv => lhs; whnf); (try simp (maxSteps := 2000000) (disch := omega) only [NN, Ty.den, dflt_kv]))
    · refine br_no (tst_f (by omega)) ?_
      conv => lhs; whnf
      try simp (maxSteps := 2000000) (disch := omega) only [NN, Ty.den, dflt_kv]
      by_cases hu : u.length > 128
      · refine br_go (tst_t (by omega)) ?_
        conv => lhs; whnf
        try simp (maxSteps := 2000000) (disch := omega) only [NN, Ty.den, dflt_kv]
        repeat (refine br_go ?_ ?_; (focus (((repeat' first | exact rfl | exact ordB_st rfl | exact ordB_of rfl | apply band | apply tst_t | apply nt_t)  <;> (try dsimp only [Ty.den, dflt_kv]) <;> (try simp only [LL]) <;> (first | trivial | assumption | omega | (change (_ : Int) ≤ _; omega) | (change (_ : Int) < _; omega) | (change (_ : Nat) * 1 ≤ _; omega) | (change (_ : Nat) * 48 ≤ _; omega) | (change (_ : Nat) * 24 ≤ _; omega) | (change (_ : Nat) * 8 ≤ _; omega) | (change (_ : Nat) * 64 ≤ _; omega) | decide)); done)); (conv => lhs; whnf); (try simp (maxSteps := 2000000) (disch := omega) only [NN, Ty.den, dflt_kv]))
      · refine br_no (tst_f (by omega)) ?_
        conv => lhs; whnf
        try simp (maxSteps := 2000000) (disch := omega) only [NN, Ty.den, dflt_kv]
        repeat (refine br_go ?_ ?_; (focus (((repeat' first | exact rfl | exact ordB_st rfl | exact ordB_of rfl | apply band | apply tst_t | apply nt_t)  <;> (try dsimp only [Ty.den, dflt_kv]) <;> (try simp only [LL]) <;> (first | trivial | assumption | omega | (change (_ : Int) ≤ _; omega) | (change (_ : Int) < _; omega) | (change (_ : Nat) * 1 ≤ _; omega) | (change (_ : Nat) * 48 ≤ _; omega) | (change (_ : Nat) * 24 ≤ _; omega) | (change (_ : Nat) * 8 ≤ _; omega) | (change (_ : Nat) * 64 ≤ _; omega) | decide)); done)); (conv => lhs; whnf); (try simp (maxSteps := 2000000) (disch := omega) only [NN, Ty.den, dflt_kv]))
        by_cases hs : (sortedS l).2 = true
        · have e2 : (mgS l old dp).2 = 0 := by unfold mgS; rw [if_pos hs]
          try simp (maxSteps := 2000000) (disch := omega) only [NN, Ty.den, dflt_kv, e2]
          refine br_no (tst_f ((show ¬ ((0 : Int) ≠ 0) by decide))) ?_
          conv => lhs; whnf
          try simp (maxSteps := 2000000) (disch := omega) only [NN, Ty.den, dflt_kv]
          try simp (maxSteps := 2000000) (disch := omega) only [NN, Ty.den, dflt_kv, hs]
          conv => lhs; whnf
          try simp (maxSteps := 2000000) (disch := omega) only [NN, Ty.den, dflt_kv]
          repeat (refine br_go ?_ ?_; (focus (((repeat' first | exact rfl | exact ordB_st rfl | exact ordB_of rfl | apply band | apply tst_t | apply nt_t)  <;> (try dsimp only [Ty.den, dflt_kv]) <;> (try simp only [LL]) <;> (first | trivial | assumption | omega | (change (_ : Int) ≤ _; omega) | (change (_ : Int) < _; omega) | (change (_ : Nat) * 1 ≤ _; omega) | (change (_ : Nat) * 48 ≤ _; omega) | (change (_ : Nat) * 24 ≤ _; omega) | (change (_ : Nat) * 8 ≤ _; omega) | (change (_ : Nat) * 64 ≤ _; omega) | decide)); done)); (conv => lhs; whnf); (try simp (maxSteps := 2000000) (disch := omega) only [NN, Ty.den, dflt_kv]))
          by_cases hq : q < old
          · refine br_go (tst_t (hq)) ?_
            conv => lhs; whnf
            try simp (maxSteps := 2000000) (disch := omega) only [NN, Ty.den, dflt_kv]
            repeat (refine br_go ?_ ?_; (focus (((repeat' first | exact rfl | exact ordB_st rfl | exact ordB_of rfl | apply band | apply tst_t | apply nt_t)  <;> (try dsimp only [Ty.den, dflt_kv]) <;> (try simp only [LL]) <;> (first | trivial | assumption | omega | (change (_ : Int) ≤ _; omega) | (change (_ : Int) < _; omega) | (change (_ : Nat) * 1 ≤ _; omega) | (change (_ : Nat) * 48 ≤ _; omega) | (change (_ : Nat) * 24 ≤ _; omega) | (change (_ : Nat) * 8 ≤ _; omega) | (change (_ : Nat) * 64 ≤ _; omega) | decide)); done)); (conv => lhs; whnf); (try simp (maxSteps := 2000000) (disch := omega) only [NN, Ty.den, dflt_kv]))
          · refine br_no (tst_f (hq)) ?_
            conv => lhs; whnf
            try simp (maxSteps := 2000000) (disch := omega) only [NN, Ty.den, dflt_kv]
            repeat (refine br_go ?_ ?_; (focus (((repeat' first | exact rfl | exact ordB_st rfl | exact ordB_of rfl | apply band | apply tst_t | apply nt_t)  <;> (try dsimp only [Ty.den, dflt_kv]) <;> (try simp only [LL]) <;> (first | trivial | assumption | omega | (change (_ : Int) ≤ _; omega) | (change (_ : Int) < _; omega) | (change (_ : Nat) * 1 ≤ _; omega) | (change (_ : Nat) * 48 ≤ _; omega) | (change (_ : Nat) * 24 ≤ _; omega) | (change (_ : Nat) * 8 ≤ _; omega) | (change (_ : Nat) * 64 ≤ _; omega) | decide)); done)); (conv => lhs; whnf); (try simp (maxSteps := 2000000) (disch := omega) only [NN, Ty.den, dflt_kv]))
            cases hin : inB dp u with
            | false =>
              have hv := merge_view (u := u) (dp := dp) (e := []) hs (show old ≤ q by omega) (.inr rfl)
              rw [List.append_nil, List.append_nil] at hv
              conv => lhs; whnf
              try simp (maxSteps := 2000000) (disch := omega) only [NN, Ty.den, dflt_kv]
              repeat (refine br_go ?_ ?_; (focus (((repeat' first | exact rfl | exact ordB_st rfl | exact ordB_of rfl | apply band | apply tst_t | apply nt_t)  <;> (try dsimp only [Ty.den, dflt_kv]) <;> (try simp only [LL]) <;> (first | trivial | assumption | omega | (change (_ : Int) ≤ _; omega) | (change (_ : Int) < _; omega) | (change (_ : Nat) * 1 ≤ _; omega) | (change (_ : Nat) * 48 ≤ _; omega) | (change (_ : Nat) * 24 ≤ _; omega) | (change (_ : Nat) * 8 ≤ _; omega) | (change (_ : Nat) * 64 ≤ _; omega) | decide)); done)); (conv => lhs; whnf); (try simp (maxSteps := 2000000) (disch := omega) only [NN, Ty.den, dflt_kv]))
              try simp (maxSteps := 2000000) (disch := omega) only [NN, Ty.den, dflt_kv, hv]
              refine br_go (tst_t (trivial)) ?_
              conv => lhs; whnf
              try simp (maxSteps := 2000000) (disch := omega) only [NN, Ty.den, dflt_kv]
              repeat (refine br_go ?_ ?_; (focus (((repeat' first | exact rfl | exact ordB_st rfl | exact ordB_of rfl | apply band | apply tst_t | apply nt_t)  <;> (try dsimp only [Ty.den, dflt_kv]) <;> (try simp only [LL]) <;> (first | trivial | assumption | omega | (change (_ : Int) ≤ _; omega) | (change (_ : Int) < _; omega) | (change (_ : Nat) * 1 ≤ _; omega) | (change (_ : Nat) * 48 ≤ _; omega) | (change (_ : Nat) * 24 ≤ _; omega) | (change (_ : Nat) * 8 ≤ _; omega) | (change (_ : Nat) * 64 ≤ _; omega) | decide)); done)); (conv => lhs; whnf); (try simp (maxSteps := 2000000) (disch := omega) only [NN, Ty.den, dflt_kv]))
              exact bo_eq (tst_t trivial)
            | true =>
              conv => lhs; whnf
              try simp (maxSteps := 2000000) (disch := omega) only [NN, Ty.den, dflt_kv]
              repeat (refine br_go ?_ ?_; (focus (((repeat' first | exact rfl | exact ordB_st rfl | exact ordB_of rfl | apply band | apply tst_t | apply nt_t)  <;> (try dsimp only [Ty.den, dflt_kv]) <;> (try simp only [LL]) <;> (first | trivial | assumption | omega | (change (_ : Int) ≤ _; omega) | (change (_ : Int) < _; omega) | (change (_ : Nat) * 1 ≤ _; omega) | (change (_ : Nat) * 48 ≤ _; omega) | (change (_ : Nat) * 24 ≤ _; omega) | (change (_ : Nat) * 8 ≤ _; omega) | (change (_ : Nat) * 64 ≤ _; omega) | decide)); done)); (conv => lhs; whnf); (try simp (maxSteps := 2000000) (disch := omega) only [NN, Ty.den, dflt_kv]))
              have hml : l.flatten.length ≤ 80 := hw.2
              have hmm : (mgS l old dp).1.length ≤ 80 := by
                have := keepGo_len old dp (sortedS l).1 none
                unfold mgS
                rw [if_pos hs]
                exact Nat.le_trans this (by omega)
              refine loop_ruleK (α := Nat) (fun i => i ≤ (sortedS l).1.length) (fun i => (sortedS l).1.length - i)
                (fun i => (V.bad :: V.bad :: V.bad :: vB u :: vU q :: vB below :: V.bad :: V.bad :: V.bad :: V.bad :: V.bad :: V.bad :: V.bad :: V.own 4 kv (mgS l old dp).1 :: V.bad :: V.own 6 kv (sortedS l).1 :: V.bad :: vU 0 :: vI i :: V.bad :: V.bad :: V.bad :: V.bad :: V.bad :: V.bad :: V.bad :: V.bad :: V.bad :: V.bad :: V.bad :: V.bad :: V.bad :: V.bad :: V.bad :: V.bad :: V.bad :: V.bad :: V.bad :: V.bad :: V.bad :: V.bad :: V.bad :: V.bad :: V.bad :: V.bad :: V.bad :: V.bad :: V.bad :: V.bad :: V.bad :: V.bad :: V.bad :: V.bad :: V.bad :: V.bad :: V.bad :: V.bad :: V.bad :: V.bad :: V.bad :: V.bad :: V.bad :: V.bad :: V.bad :: V.bad :: V.bad :: V.bad :: V.bad :: V.bad :: V.bad :: V.bad :: V.bad :: V.bad :: V.bad :: V.bad :: V.bad :: V.bad :: V.bad :: V.bad :: V.bad :: V.bad :: V.bad :: V.bad :: V.bad :: V.bad :: V.bad :: V.bad :: V.bad :: V.bad :: V.bad :: V.bad :: V.bad :: V.bad :: V.bad :: V.bad :: V.bad :: V.bad :: V.bad :: V.bad :: V.bad :: V.bad :: V.bad :: V.bad :: V.bad :: V.bad :: V.bad :: V.bad :: V.bad :: V.bad :: V.bad :: V.bad :: V.bad :: V.bad :: V.bad :: V.bad :: V.bad :: V.bad :: V.bad :: V.bad :: V.bad :: V.bad :: V.bad :: V.bad :: V.bad :: V.bad :: V.bad :: V.bad :: V.bad :: V.bad :: V.bad :: V.bad :: V.bad :: V.bad :: V.bad :: V.bad :: V.bad :: V.bad :: V.bad :: V.bad :: V.bad :: V.bad :: V.bad :: V.bad :: V.bad :: []))
                (fun _ => [.gone, .gone, .gone, .gone, .fam (mgS l old dp).1.length, .gone, .fam (sortedS l).1.length, .gone, .gone])
                (fun _ => some (V.d .bo true)) ?_ F 0 (Nat.zero_le _) (by omega)
              rintro kk hk i K hi2 hK
              conv => lhs; whnf
              try simp (maxSteps := 2000000) (disch := omega) only [NN, Ty.den, dflt_kv]
              by_cases hi : i < (sortedS l).1.length
              · refine br_go (tst_t (by omega)) ?_
                conv => lhs; whnf
                try simp (maxSteps := 2000000) (disch := omega) only [NN, Ty.den, dflt_kv]
                repeat (refine br_go ?_ ?_; (focus (((repeat' first | exact rfl | exact ordB_st rfl | exact ordB_of rfl | apply band | apply tst_t | apply nt_t)  <;> (try dsimp only [Ty.den, dflt_kv]) <;> (try simp only [LL]) <;> (first | trivial | assumption | omega | (change (_ : Int) ≤ _; omega) | (change (_ : Int) < _; omega) | (change (_ : Nat) * 1 ≤ _; omega) | (change (_ : Nat) * 48 ≤ _; omega) | (change (_ : Nat) * 24 ≤ _; omega) | (change (_ : Nat) * 8 ≤ _; omega) | (change (_ : Nat) * 64 ≤ _; omega) | decide)); done)); (conv => lhs; whnf); (try simp (maxSteps := 2000000) (disch := omega) only [NN, Ty.den, dflt_kv]))
                by_cases c1 : cmpB (split ((sortedS l).1.getD i kvd).1).1 u = 0
                · refine br_go (tst_t (c1)) ?_
                  conv => lhs; whnf
                  try simp (maxSteps := 2000000) (disch := omega) only [NN, Ty.den, dflt_kv]
                  repeat (refine br_go ?_ ?_; (focus (((repeat' first | exact rfl | exact ordB_st rfl | exact ordB_of rfl | apply band | apply tst_t | apply nt_t)  <;> (try dsimp only [Ty.den, dflt_kv]) <;> (try simp only [LL]) <;> (first | trivial | assumption | omega | (change (_ : Int) ≤ _; omega) | (change (_ : Int) < _; omega) | (change (_ : Nat) * 1 ≤ _; omega) | (change (_ : Nat) * 48 ≤ _; omega) | (change (_ : Nat) * 24 ≤ _; omega) | (change (_ : Nat) * 8 ≤ _; omega) | (change (_ : Nat) * 64 ≤ _; omega) | decide)); done)); (conv => lhs; whnf); (try simp (maxSteps := 2000000) (disch := omega) only [NN, Ty.den, dflt_kv]))
                  by_cases c2 : (split ((sortedS l).1.getD i kvd).1).2.1 = 0
                  · refine br_go (tst_t (c2)) ?_
                    conv => lhs; whnf
                    try simp (maxSteps := 2000000) (disch := omega) only [NN, Ty.den, dflt_kv]
                    repeat (refine br_go ?_ ?_; (focus (((repeat' first | exact rfl | exact ordB_st rfl | exact ordB_of rfl | apply band | apply tst_t | apply nt_t)  <;> (try dsimp only [Ty.den, dflt_kv]) <;> (try simp only [LL]) <;> (first | trivial | assumption | omega | (change (_ : Int) ≤ _; omega) | (change (_ : Int) < _; omega) | (change (_ : Nat) * 1 ≤ _; omega) | (change (_ : Nat) * 48 ≤ _; omega) | (change (_ : Nat) * 24 ≤ _; omega) | (change (_ : Nat) * 8 ≤ _; omega) | (change (_ : Nat) * 64 ≤ _; omega) | decide)); done)); (conv => lhs; whnf); (try simp (maxSteps := 2000000) (disch := omega) only [NN, Ty.den, dflt_kv]))
                    rw [hk]
                    conv => lhs; whnf
                    try simp (maxSteps := 2000000) (disch := omega) only [NN, Ty.den, dflt_kv]
                    repeat (refine br_go ?_ ?_; (focus (((repeat' first | exact rfl | exact ordB_st rfl | exact ordB_of rfl | apply band | apply tst_t | apply nt_t)  <;> (try dsimp only [Ty.den, dflt_kv]) <;> (try simp only [LL]) <;> (first | trivial | assumption | omega | (change (_ : Int) ≤ _; omega) | (change (_ : Int) < _; omega) | (change (_ : Nat) * 1 ≤ _; omega) | (change (_ : Nat) * 48 ≤ _; omega) | (change (_ : Nat) * 24 ≤ _; omega) | (change (_ : Nat) * 8 ≤ _; omega) | (change (_ : Nat) * 64 ≤ _; omega) | decide)); done)); (conv => lhs; whnf); (try simp (maxSteps := 2000000) (disch := omega) only [NN, Ty.den, dflt_kv]))
                  · refine br_no (tst_f (c2)) ?_
                    conv => lhs; whnf
                    try simp (maxSteps := 2000000) (disch := omega) only [NN, Ty.den, dflt_kv]
                    repeat (refine br_go ?_ ?_; (focus (((repeat' first | exact rfl | exact ordB_st rfl | exact ordB_of rfl | apply band | apply tst_t | apply nt_t)  <;> (try dsimp only [Ty.den, dflt_kv]) <;> (try simp only [LL]) <;> (first | trivial | assumption | omega | (change (_ : Int) ≤ _; omega) | (change (_ : Int) < _; omega) | (change (_ : Nat) * 1 ≤ _; omega) | (change (_ : Nat) * 48 ≤ _; omega) | (change (_ : Nat) * 24 ≤ _; omega) | (change (_ : Nat) * 8 ≤ _; omega) | (change (_ : Nat) * 64 ≤ _; omega) | decide)); done)); (conv => lhs; whnf); (try simp (maxSteps := 2000000) (disch := omega) only [NN, Ty.den, dflt_kv]))
                    exact hK (i + 1) (by show i + 1 ≤ _; omega) (by show (sortedS l).1.length - (i + 1) < (sortedS l).1.length - i; omega)
                · refine br_no (tst_f (c1)) ?_
                  conv => lhs; whnf
                  try simp (maxSteps := 2000000) (disch := omega) only [NN, Ty.den, dflt_kv]
                  repeat (refine br_go ?_ ?_; (focus (((repeat' first | exact rfl | exact ordB_st rfl | exact ordB_of rfl | apply band | apply tst_t | apply nt_t)  <;> (try dsimp only [Ty.den, dflt_kv]) <;> (try simp only [LL]) <;> (first | trivial | assumption | omega | (change (_ : Int) ≤ _; omega) | (change (_ : Int) < _; omega) | (change (_ : Nat) * 1 ≤ _; omega) | (change (_ : Nat) * 48 ≤ _; omega) | (change (_ : Nat) * 24 ≤ _; omega) | (change (_ : Nat) * 8 ≤ _; omega) | (change (_ : Nat) * 64 ≤ _; omega) | decide)); done)); (conv => lhs; whnf); (try simp (maxSteps := 2000000) (disch := omega) only [NN, Ty.den, dflt_kv]))
                  exact hK (i + 1) (by show i + 1 ≤ _; omega) (by show (sortedS l).1.length - (i + 1) < (sortedS l).1.length - i; omega)
              · refine br_no (tst_f (by omega)) ?_
                conv => lhs; whnf
                try simp (maxSteps := 2000000) (disch := omega) only [NN, Ty.den, dflt_kv]
                rw [hk]
                clear hk hK
                conv => lhs; whnf
                try simp (maxSteps := 2000000) (disch := omega) only [NN, Ty.den, dflt_kv]
                repeat (refine br_go ?_ ?_; (focus (((repeat' first | exact rfl | exact ordB_st rfl | exact ordB_of rfl | apply band | apply tst_t | apply nt_t)  <;> (try dsimp only [Ty.den, dflt_kv]) <;> (try simp only [LL]) <;> (first | trivial | assumption | omega | (change (_ : Int) ≤ _; omega) | (change (_ : Int) < _; omega) | (change (_ : Nat) * 1 ≤ _; omega) | (change (_ : Nat) * 48 ≤ _; omega) | (change (_ : Nat) * 24 ≤ _; omega) | (change (_ : Nat) * 8 ≤ _; omega) | (change (_ : Nat) * 64 ≤ _; omega) | decide)); done)); (conv => lhs; whnf); (try simp (maxSteps := 2000000) (disch := omega) only [NN, Ty.den, dflt_kv]))
                have hv := merge_view (u := u) (dp := dp) (e := [((key u 0 1).1, below, ())]) hs (show old ≤ q by omega) (.inl hin)
                try simp (maxSteps := 2000000) (disch := omega) only [NN, Ty.den, dflt_kv, hv]
                refine br_go (tst_t (trivial)) ?_
                conv => lhs; whnf
                try simp (maxSteps := 2000000) (disch := omega) only [NN, Ty.den, dflt_kv]
                repeat (refine br_go ?_ ?_; (focus (((repeat' first | exact rfl | exact ordB_st rfl | exact ordB_of rfl | apply band | apply tst_t | apply nt_t)  <;> (try dsimp only [Ty.den, dflt_kv]) <;> (try simp only [LL]) <;> (first | trivial | assumption | omega | (change (_ : Int) ≤ _; omega) | (change (_ : Int) < _; omega) | (change (_ : Nat) * 1 ≤ _; omega) | (change (_ : Nat) * 48 ≤ _; omega) | (change (_ : Nat) * 24 ≤ _; omega) | (change (_ : Nat) * 8 ≤ _; omega) | (change (_ : Nat) * 64 ≤ _; omega) | decide)); done)); (conv => lhs; whnf); (try simp (maxSteps := 2000000) (disch := omega) only [NN, Ty.den, dflt_kv]))
                exact bo_eq (tst_t trivial)
        · have e2 : (mgS l old dp).2 = 101 := by unfold mgS; rw [if_neg hs]
          have hs : (sortedS l).2 = false := by simpa using hs
          try simp (maxSteps := 2000000) (disch := omega) only [NN, Ty.den, dflt_kv, e2]
          refine br_go (tst_t ((show ((101 : Int) ≠ 0) by decide))) ?_
          conv => lhs; whnf
          try simp (maxSteps := 2000000) (disch := omega) only [NN, Ty.den, dflt_kv]
          try simp (maxSteps := 2000000) (disch := omega) only [NN, Ty.den, dflt_kv, hs]
          conv => lhs; whnf
          try simp (maxSteps := 2000000) (disch := omega) only [NN, Ty.den, dflt_kv]
          repeat (refine br_go ?_ ?_; (focus (((repeat' first | exact rfl | exact ordB_st rfl | exact ordB_of rfl | apply band | apply tst_t | apply nt_t)  <;> (try dsimp only [Ty.den, dflt_kv]) <;> (try simp only [LL]) <;> (first | trivial | assumption | omega | (change (_ : Int) ≤ _; omega) | (change (_ : Int) < _; omega) | (change (_ : Nat) * 1 ≤ _; omega) | (change (_ : Nat) * 48 ≤ _; omega) | (change (_ : Nat) * 24 ≤ _; omega) | (change (_ : Nat) * 8 ≤ _; omega) | (change (_ : Nat) * 64 ≤ _; omega) | decide)); done)); (conv => lhs; whnf); (try simp (maxSteps := 2000000) (disch := omega) only [NN, Ty.den, dflt_kv]))
          exact bo_eq rfl
  · refine br_go (nt_t hw) ?_
    conv => lhs; whnf
    try simp (maxSteps := 2000000) (disch := omega) only [NN, Ty.den, dflt_kv]
    repeat (refine br_go ?_ ?_; (focus (((repeat' first | exact rfl | exact ordB_st rfl | exact ordB_of rfl | apply band | apply tst_t | apply nt_t)  <;> (try dsimp only [Ty.den, dflt_kv]) <;> (try simp only [LL]) <;> (first | trivial | assumption | omega | (change (_ : Int) ≤ _; omega) | (change (_ : Int) < _; omega) | (change (_ : Nat) * 1 ≤ _; omega) | (change (_ : Nat) * 48 ≤ _; omega) | (change (_ : Nat) * 24 ≤ _; omega) | (change (_ : Nat) * 8 ≤ _; omega) | (change (_ : Nat) * 64 ≤ _; omega) | decide)); done)); (conv => lhs; whnf); (try simp (maxSteps := 2000000) (disch := omega) only [NN, Ty.den, dflt_kv]))
end Go.Proofs.Ytmpmmfbgdpfnpaa.Ev
namespace Go.Proofs.Ytmpmmfbgdpfnpaa.compactKeeps
open Go.RowKit Go.ChangeShapes Go.ChangeAt Go.Proofs.Ytmpmmfbgdpfnpaa.Ev
set_option linter.unusedVariables false
set_option maxRecDepth 100000 in
theorem lifted (os : Os) (started : os.Started) (H : Type) (enc : TypeId × Value → H) :
    ReturnsInHanded {} Try.checked os 4 .any (Rows.compactKeepsSpec.pre6 enc Try.prog Try.f4 Rows.compactKeepsRow.domain false) (Rows.compactKeepsSpec.post enc Try.prog Try.f4 false true false false) := by
  refine law_lifted (K := Try.checked) (C := ⟨rows, fun _ => ([], [])⟩) (rows_ok _) 8 own started (by kernel_rfl) Try.func4 laidOut
    (ChangeSpec.witness6 (enc := enc) (C := Try.checked) false ⟨#[], #[.slice none 0 0, .int .u64 0, .slice none 0 0, .slice none 0 0, .int .u64 0, .slice none 0 0], []⟩ 8 (by kernel_rfl) (by kernel_rfl) (by kernel_rfl) (by kernel_rfl)) rfl (tb := 4) rfl rfl (by kernel_rfl) (by
      intro ds hd
      have hd : ds.length = 6 := hd
      match ds, hd with
      | [_, _, _, _, _, _], _ => rfl) (by kernel_rfl) (by kernel_rfl) ?_
  intro xs h
  have hp : Try.f4.params.toList = [22, 23, 24, 35, 23, 35] := by kernel_rfl
  rw [hp] at h
  obtain _ | ⟨_, _, x0, _, q0, h0⟩ := h
  obtain _ | ⟨_, _, x1, _, q1, h1⟩ := h0
  obtain _ | ⟨_, _, x2, _, q2, h2⟩ := h1
  obtain _ | ⟨_, _, x3, _, q3, h3⟩ := h2
  obtain _ | ⟨_, _, x4, _, q4, h4⟩ := h3
  obtain _ | ⟨_, _, x5, _, q5, h5⟩ := h4
  cases h5
  exact far_of_ok kkeepsSp TB_far (rows_ok _) at4 (kkeeps_ok _ rfl rfl rfl rfl rfl rfl rfl rfl rfl rfl) (x0, (x1, (x2, (x3, (x4, (x5, ())))))) (fun _ => rfl)
theorem over : Rows.compactKeepsRow.holds Try.pinned (OpenSpec.ofChange Rows.compactKeepsSpec) :=
  OpenClaim.holds_of_wide 4 Try.f4 rfl rfl rfl rfl rfl rfl rfl ⟨rfl, rfl, rfl, rfl, rfl⟩ rfl rfl rfl rfl rfl (by kernel_rfl) Try.func4 (by kernel_rfl)
    (of_decide_eq_true (by kernel_rfl)) (by unfold Func.isWrapper; first | (rw [if_pos (by decide +kernel)]; kernel_rfl) | (rw [if_neg (by decide +kernel)]; exact ⟨rfl, rfl⟩))
    (fun os started H enc _ => lifted os started H enc)
theorem proved : Rows.CompactKeepsSaid := over
#print axioms proved
end Go.Proofs.Ytmpmmfbgdpfnpaa.compactKeeps
