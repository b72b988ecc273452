/- CompactStages: the Go law of that name returns true for every input and leaves its arguments as they were. Conditions: none but the statement's own. Its function was walked with a walker over plain data that is proved to tell what the machine does. -/
import Derived.Test.YtmpmmfbgdpfnpaaM6
import Derived.Test.YtmpmmfbgdpfnpaaRows
set_option linter.unusedVariables false
set_option linter.unusedSimpArgs false
set_option linter.unusedSectionVars false
/- The law of lists that are merged in two goes: true of all data. -/
namespace Go.Proofs.Ytmpmmfbgdpfnpaa.Ev
open Go Go.RowKit
set_option linter.unusedVariables false
set_option linter.unusedSimpArgs false
set_option maxRecDepth 100000
set_option maxHeartbeats 8000000
abbrev kstagesC : Ctx := ⟨rows, (fun | 0 => ([0, 1, 2, 3, 9, 13, 14], [0, 1, 2, 3, 9, 13]) | 1 => ([], [0, 1, 2, 3, 9, 13, 14]) | 2 => ([0, 1, 2, 3, 9, 13, 14, 15], [0, 1, 2, 3, 9, 13, 14]) | 3 => ([], [0, 1, 2, 3, 9, 13, 14, 15]) | _ => ([], []))⟩
def kstagesSp : Sp := ⟨[kvll, u64, kvl, i64], fun _ => true, fun _ => .d .bo true⟩
theorem kstages_ok (T : Tab) (h1 : T 9 = knownSp.ent) (h2 : T 10 = few10Sp.ent) (h3 : T 11 = mgSp.ent) (h4 : T 14 = sortedSp.ent) (h5 : T 13 = kvsSp.ent) : kstagesSp.Ok T kstagesC F5 := by
  rw [on_top h1, on_top h2, on_top h3, on_top h4, on_top h5]
  rintro ⟨(l : List (List KV)), (old : Int), (dp : List KV), (c : Int), _⟩ hf _
  obtain ⟨F, hF⟩ : ∃ F : Nat, F = 500 := ⟨_, rfl⟩
  refine ⟨F, 0, ?_⟩
  show evFn _ _ _ _ _ [.d kvll l, vU old, vK dp, vI c] [] _ = some (.d .bo true : V)
  conv => lhs; whnf
  try simp (maxSteps := 2000000) (disch := omega) only [NN, Ty.den, dflt_kv]
  by_cases hw : few8 l
  · have hL : fewL l := few8_L hw
    obtain ⟨hl, ht⟩ := hw
    have hw : few8 l := ⟨hl, ht⟩
    refine br_no (nt_f hw) ?_
    conv => lhs; whnf
    try simp (maxSteps := 2000000) (disch := omega) only [NN, Ty.den, dflt_kv]
    repeat (refine br_go ?_ ?_; (focus (((repeat' first | exact rfl | exact ordB_st rfl | exact ordB_of rfl | apply band | apply tst_t | apply nt_t)  <;> (try dsimp only [Ty.den, dflt_kv]) <;> (try simp only [LL]) <;> (first | trivial | assumption | omega | (change (_ : Int) ≤ _; omega) | (change (_ : Int) < _; omega) | (change (_ : Nat) * 1 ≤ _; omega) | (change (_ : Nat) * 48 ≤ _; omega) | (change (_ : Nat) * 24 ≤ _; omega) | (change (_ : Nat) * 8 ≤ _; omega) | (change (_ : Nat) * 64 ≤ _; omega) | decide)); done)); (conv => lhs; whnf); (try simp (maxSteps := 2000000) (disch := omega) only [NN, Ty.den, dflt_kv]))
    by_cases hd : dp.length > 20
    · refine br_go (tst_t (by omega)) ?_
      conv => lhs; whnf
      try simp (maxSteps := 2000000) (disch := omega) only [NN, Ty.den, dflt_kv]
      repeat (refine br_go ?_ ?_; (focus (((repeat' first | exact rfl | exact ordB_st rfl | exact ordB_of rfl | apply band | apply tst_t | apply nt_t)  <;> (try dsimp only [Ty.den, dflt_kv]) <;> (try simp only [LL]) <;> (first | trivial | assumption | omega | (change (_ : Int) ≤ _; omega) | (change (_ : Int) < _; omega) | (change (_ : Nat) * 1 ≤ _; omega) | (change (_ : Nat) * 48 ≤ _; omega) | (change (_ : Nat) * 24 ≤ _; omega) | (change (_ : Nat) * 8 ≤ _; omega) | (change (_ : Nat) * 64 ≤ _; omega) | decide)); done)); (conv => lhs; whnf); (try simp (maxSteps := 2000000) (disch := omega) only [NN, Ty.den, dflt_kv]))
    · refine br_no (tst_f (by omega)) ?_
      conv => lhs; whnf
      try simp (maxSteps := 2000000) (disch := omega) only [NN, Ty.den, dflt_kv]
      by_cases hc : c < 0
      · refine br_go (tst_t (by omega)) ?_
        conv => lhs; whnf
        try simp (maxSteps := 2000000) (disch := omega) only [NN, Ty.den, dflt_kv]
        repeat (refine br_go ?_ ?_; (focus (((repeat' first | exact rfl | exact ordB_st rfl | exact ordB_of rfl | apply band | apply tst_t | apply nt_t)  <;> (try dsimp only [Ty.den, dflt_kv]) <;> (try simp only [LL]) <;> (first | trivial | assumption | omega | (change (_ : Int) ≤ _; omega) | (change (_ : Int) < _; omega) | (change (_ : Nat) * 1 ≤ _; omega) | (change (_ : Nat) * 48 ≤ _; omega) | (change (_ : Nat) * 24 ≤ _; omega) | (change (_ : Nat) * 8 ≤ _; omega) | (change (_ : Nat) * 64 ≤ _; omega) | decide)); done)); (conv => lhs; whnf); (try simp (maxSteps := 2000000) (disch := omega) only [NN, Ty.den, dflt_kv]))
      · refine br_no (tst_f (by omega)) ?_
        conv => lhs; whnf
        try simp (maxSteps := 2000000) (disch := omega) only [NN, Ty.den, dflt_kv]
        obtain ⟨n, rfl⟩ := Int.eq_ofNat_of_zero_le (by omega : 0 ≤ c)
        by_cases hc2 : (n : Int) > l.length
        · refine br_go (tst_t (by omega)) ?_
          conv => lhs; whnf
          try simp (maxSteps := 2000000) (disch := omega) only [NN, Ty.den, dflt_kv]
          repeat (refine br_go ?_ ?_; (focus (((repeat' first | exact rfl | exact ordB_st rfl | exact ordB_of rfl | apply band | apply tst_t | apply nt_t)  <;> (try dsimp only [Ty.den, dflt_kv]) <;> (try simp only [LL]) <;> (first | trivial | assumption | omega | (change (_ : Int) ≤ _; omega) | (change (_ : Int) < _; omega) | (change (_ : Nat) * 1 ≤ _; omega) | (change (_ : Nat) * 48 ≤ _; omega) | (change (_ : Nat) * 24 ≤ _; omega) | (change (_ : Nat) * 8 ≤ _; omega) | (change (_ : Nat) * 64 ≤ _; omega) | decide)); done)); (conv => lhs; whnf); (try simp (maxSteps := 2000000) (disch := omega) only [NN, Ty.den, dflt_kv]))
        · refine br_no (tst_f (by omega)) ?_
          conv => lhs; whnf
          try simp (maxSteps := 2000000) (disch := omega) only [NN, Ty.den, dflt_kv]
          repeat (refine br_go ?_ ?_; (focus (((repeat' first | exact rfl | exact ordB_st rfl | exact ordB_of rfl | apply band | apply tst_t | apply nt_t)  <;> (try dsimp only [Ty.den, dflt_kv]) <;> (try simp only [LL]) <;> (first | trivial | assumption | omega | (change (_ : Int) ≤ _; omega) | (change (_ : Int) < _; omega) | (change (_ : Nat) * 1 ≤ _; omega) | (change (_ : Nat) * 48 ≤ _; omega) | (change (_ : Nat) * 24 ≤ _; omega) | (change (_ : Nat) * 8 ≤ _; omega) | (change (_ : Nat) * 64 ≤ _; omega) | decide)); done)); (conv => lhs; whnf); (try simp (maxSteps := 2000000) (disch := omega) only [NN, Ty.den, dflt_kv]))
          by_cases hs : (sortedS l).2 = true
          · have e2 : (mgS l old dp).2 = 0 := by unfold mgS; rw [if_pos hs]
            try simp (maxSteps := 2000000) (disch := omega) only [NN, Ty.den, dflt_kv, e2]
            refine br_no (tst_f ((show ¬ ((0 : Int) ≠ 0) by decide))) ?_
            conv => lhs; whnf
            try simp (maxSteps := 2000000) (disch := omega) only [NN, Ty.den, dflt_kv]
            try simp (maxSteps := 2000000) (disch := omega) only [NN, Ty.den, dflt_kv, hs]
            conv => lhs; whnf
            try simp (maxSteps := 2000000) (disch := omega) only [NN, Ty.den, dflt_kv]
            repeat (refine br_go ?_ ?_; (focus (((repeat' first | exact rfl | exact ordB_st rfl | exact ordB_of rfl | apply band | apply tst_t | apply nt_t)  <;> (try dsimp only [Ty.den, dflt_kv]) <;> (try simp only [LL]) <;> (first | trivial | assumption | omega | (change (_ : Int) ≤ _; omega) | (change (_ : Int) < _; omega) | (change (_ : Nat) * 1 ≤ _; omega) | (change (_ : Nat) * 48 ≤ _; omega) | (change (_ : Nat) * 24 ≤ _; omega) | (change (_ : Nat) * 8 ≤ _; omega) | (change (_ : Nat) * 64 ≤ _; omega) | decide)); done)); (conv => lhs; whnf); (try simp (maxSteps := 2000000) (disch := omega) only [NN, Ty.den, dflt_kv]))
            obtain ⟨s1, s2, s3, s4⟩ := sortd_ok hs
            have hin : ∀ i j, i < l.length → j < (l.getD i []).length → 8 ≤ ((l.getD i []).getD j kvd).1.length ∧ ((l.getD i []).getD j kvd).1.length ≤ 136 := fun i j hi hj => by
              rw [getD_at hi] at hj ⊢
              rw [getD_at hj]
              exact (split_good (s4 _ (List.mem_flatten.2 ⟨l[i], List.getElem_mem hi, List.getElem_mem hj⟩))).1
            have hgl : ∀ i, i < l.length → (l.getD i []).length ≤ 80 := fun i hi => by
              rw [getD_at hi]
              have := (List.sublist_flatten_of_mem (List.getElem_mem hi)).length_le
              omega
            have hfl : (l.take n).flatten.length + (l.drop n).flatten.length = l.flatten.length := by
              rw [← List.length_append, ← List.flatten_append, List.take_append_drop]
            generalize hB : dp ++ spansU (l.drop n).flatten = B
            have hBl : B.length ≤ 100 := by rw [← hB, List.length_append, spansU_len]; omega
            refine loop_ruleK (α := Nat × List KV) (fun s => s.1 ≤ l.length ∧ s.2 ++ spansU (l.drop s.1).flatten = B) (fun s => l.length - s.1)
              (fun s => (V.d kvll l :: vU old :: vK dp :: vI n :: V.bad :: V.bad :: V.bad :: V.bad :: V.bad :: V.own 4 kv (mgS l old dp).1 :: V.bad :: V.bad :: V.bad :: V.own 8 kv s.2 :: vI s.1 :: V.bad :: V.bad :: V.bad :: V.bad :: V.bad :: V.bad :: V.bad :: V.bad :: V.bad :: V.bad :: V.bad :: V.bad :: V.bad :: V.bad :: V.bad :: V.bad :: V.bad :: V.bad :: V.bad :: V.bad :: V.bad :: V.bad :: V.bad :: V.bad :: V.bad :: V.bad :: V.bad :: V.bad :: V.bad :: V.bad :: V.bad :: V.bad :: V.bad :: V.bad :: V.bad :: V.bad :: V.bad :: V.bad :: V.bad :: V.bad :: V.bad :: V.bad :: V.bad :: V.bad :: V.bad :: V.bad :: V.bad :: V.bad :: V.bad :: V.bad :: V.bad :: V.bad :: V.bad :: V.bad :: V.bad :: V.bad :: V.bad :: V.bad :: V.bad :: V.bad :: V.bad :: V.bad :: V.bad :: V.bad :: V.bad :: V.bad :: V.bad :: V.bad :: V.bad :: V.bad :: V.bad :: V.bad :: V.bad :: V.bad :: V.bad :: V.bad :: V.bad :: V.bad :: V.bad :: V.bad :: V.bad :: V.bad :: V.bad :: V.bad :: V.bad :: V.bad :: V.bad :: V.bad :: V.bad :: V.bad :: V.bad :: V.bad :: V.bad :: V.bad :: V.bad :: V.bad :: V.bad :: V.bad :: V.bad :: V.bad :: V.bad :: V.bad :: V.bad :: V.bad :: V.bad :: V.bad :: V.bad :: V.bad :: V.bad :: V.bad :: V.bad :: V.bad :: V.bad :: V.bad :: V.bad :: V.bad :: V.bad :: V.bad :: V.bad :: V.bad :: V.bad :: []))
              (fun s => [.gone, .gone, .gone, .gone, .fam (mgS l old dp).1.length, .gone, .fam (sortedS l).1.length, .gone, .fam s.2.length, .gone])
              (fun _ => some (V.d .bo true)) ?_ F (n, dp) ⟨by show n ≤ _; omega, hB⟩ (by show l.length - n < F; omega)
            rintro kk hk ⟨i, b⟩ K ⟨i1, i2⟩ hK
            simp only at i1 i2 hK ⊢
            conv => lhs; whnf
            try simp (maxSteps := 2000000) (disch := omega) only [NN, Ty.den, dflt_kv]
            by_cases hi : i < l.length
            · refine br_go (tst_t (by omega)) ?_
              conv => lhs; whnf
              try simp (maxSteps := 2000000) (disch := omega) only [NN, Ty.den, dflt_kv]
              rw [drop_at (d := []) hi, List.flatten_cons, spansU_app, ← List.append_assoc] at i2
              have hg := hgl i hi
              refine loop_ruleK (α := Nat × List KV) (fun s => s.1 ≤ (l.getD i []).length ∧ s.2 ++ spansU ((l.getD i []).drop s.1) ++ spansU (l.drop (i + 1)).flatten = B) (fun s => (l.getD i []).length - s.1)
                (fun s => (V.d kvll l :: vU old :: vK dp :: vI n :: V.bad :: V.bad :: V.bad :: V.bad :: V.bad :: V.own 4 kv (mgS l old dp).1 :: V.bad :: V.bad :: V.bad :: V.own 8 kv s.2 :: vI i :: vI s.1 :: V.bad :: V.bad :: V.bad :: V.bad :: V.bad :: V.bad :: V.bad :: V.bad :: V.bad :: V.bad :: V.bad :: V.bad :: V.bad :: V.bad :: V.bad :: V.bad :: V.bad :: V.bad :: V.bad :: V.bad :: V.bad :: V.bad :: V.bad :: V.bad :: V.bad :: V.bad :: V.bad :: V.bad :: V.bad :: V.bad :: V.bad :: V.bad :: V.bad :: V.bad :: V.bad :: V.bad :: V.bad :: V.bad :: V.bad :: V.bad :: V.bad :: V.bad :: V.bad :: V.bad :: V.bad :: V.bad :: V.bad :: V.bad :: V.bad :: V.bad :: V.bad :: V.bad :: V.bad :: V.bad :: V.bad :: V.bad :: V.bad :: V.bad :: V.bad :: V.bad :: V.bad :: V.bad :: V.bad :: V.bad :: V.bad :: V.bad :: V.bad :: V.bad :: V.bad :: V.bad :: V.bad :: V.bad :: V.bad :: V.bad :: V.bad :: V.bad :: V.bad :: V.bad :: V.bad :: V.bad :: V.bad :: V.bad :: V.bad :: V.bad :: V.bad :: V.bad :: V.bad :: V.bad :: V.bad :: V.bad :: V.bad :: V.bad :: V.bad :: V.bad :: V.bad :: V.bad :: V.bad :: V.bad :: V.bad :: V.bad :: V.bad :: V.bad :: V.bad :: V.bad :: V.bad :: V.bad :: V.bad :: V.bad :: V.bad :: V.bad :: V.bad :: V.bad :: V.bad :: V.bad :: V.bad :: V.bad :: V.bad :: V.bad :: V.bad :: V.bad :: []))
                (fun s => [.gone, .gone, .gone, .gone, .fam (mgS l old dp).1.length, .gone, .fam (sortedS l).1.length, .gone, .fam s.2.length, .gone, .gone])
                (fun _ => some (V.d .bo true)) ?_ F (0, b) ⟨Nat.zero_le _, i2⟩ (by show (l.getD i []).length - 0 < F; omega)
              rintro kk2 hk2 ⟨j, b⟩ K2 ⟨j1, j2⟩ hK2
              simp only at j1 j2 hK2 ⊢
              have hb : b.length ≤ 100 := by
                have := congrArg List.length j2
                simp only [List.length_append] at this
                omega
              conv => lhs; whnf
              try simp (maxSteps := 2000000) (disch := omega) only [NN, Ty.den, dflt_kv]
              repeat (refine br_go ?_ ?_; (focus (((repeat' first | exact rfl | exact ordB_st rfl | exact ordB_of rfl | apply band | apply tst_t | apply nt_t)  <;> (try dsimp only [Ty.den, dflt_kv]) <;> (try simp only [LL]) <;> (first | trivial | assumption | omega | (change (_ : Int) ≤ _; omega) | (change (_ : Int) < _; omega) | (change (_ : Nat) * 1 ≤ _; omega) | (change (_ : Nat) * 48 ≤ _; omega) | (change (_ : Nat) * 24 ≤ _; omega) | (change (_ : Nat) * 8 ≤ _; omega) | (change (_ : Nat) * 64 ≤ _; omega) | decide)); done)); (conv => lhs; whnf); (try simp (maxSteps := 2000000) (disch := omega) only [NN, Ty.den, dflt_kv]))
              by_cases hj : j < (l.getD i []).length
              · refine br_go (tst_t (by omega)) ?_
                conv => lhs; whnf
                try simp (maxSteps := 2000000) (disch := omega) only [NN, Ty.den, dflt_kv]
                obtain ⟨h8, h9⟩ := hin i j hi hj
                rw [drop_at (d := kvd) hj, spansU_cons, ← List.append_assoc] at j2
                repeat (refine br_go ?_ ?_; (focus (((repeat' first | exact rfl | exact ordB_st rfl | exact ordB_of rfl | apply band | apply tst_t | apply nt_t)  <;> (try dsimp only [Ty.den, dflt_kv]) <;> (try simp only [LL]) <;> (first | trivial | assumption | omega | (change (_ : Int) ≤ _; omega) | (change (_ : Int) < _; omega) | (change (_ : Nat) * 1 ≤ _; omega) | (change (_ : Nat) * 48 ≤ _; omega) | (change (_ : Nat) * 24 ≤ _; omega) | (change (_ : Nat) * 8 ≤ _; omega) | (change (_ : Nat) * 64 ≤ _; omega) | decide)); done)); (conv => lhs; whnf); (try simp (maxSteps := 2000000) (disch := omega) only [NN, Ty.den, dflt_kv]))
                exact hK2 (j + 1, b ++ [(((l.getD i []).getD j kvd).1.take (((l.getD i []).getD j kvd).1.length - 8), ((l.getD i []).getD j kvd).1.take (((l.getD i []).getD j kvd).1.length - 8), ())]) ⟨by show j + 1 ≤ _; omega, j2⟩ (by show (l.getD i []).length - (j + 1) < (l.getD i []).length - j; omega)
              · refine br_no (tst_f (by omega)) ?_
                conv => lhs; whnf
                try simp (maxSteps := 2000000) (disch := omega) only [NN, Ty.den, dflt_kv]
                rw [hk2]
                clear hk2 hK2
                conv => lhs; whnf
                try simp (maxSteps := 2000000) (disch := omega) only [NN, Ty.den, dflt_kv]
                repeat (refine br_go ?_ ?_; (focus (((repeat' first | exact rfl | exact ordB_st rfl | exact ordB_of rfl | apply band | apply tst_t | apply nt_t)  <;> (try dsimp only [Ty.den, dflt_kv]) <;> (try simp only [LL]) <;> (first | trivial | assumption | omega | (change (_ : Int) ≤ _; omega) | (change (_ : Int) < _; omega) | (change (_ : Nat) * 1 ≤ _; omega) | (change (_ : Nat) * 48 ≤ _; omega) | (change (_ : Nat) * 24 ≤ _; omega) | (change (_ : Nat) * 8 ≤ _; omega) | (change (_ : Nat) * 64 ≤ _; omega) | decide)); done)); (conv => lhs; whnf); (try simp (maxSteps := 2000000) (disch := omega) only [NN, Ty.den, dflt_kv]))
                have e : (l.getD i []).drop j = [] := List.drop_eq_nil_of_le (by omega)
                rw [e, show spansU [] = [] from rfl, List.append_nil] at j2
                exact hK (i + 1, b) ⟨by show i + 1 ≤ _; omega, j2⟩ (by show l.length - (i + 1) < l.length - i; omega)
            · refine br_no (tst_f (by omega)) ?_
              conv => lhs; whnf
              try simp (maxSteps := 2000000) (disch := omega) only [NN, Ty.den, dflt_kv]
              rw [hk]
              clear hk hK
              conv => lhs; whnf
              try simp (maxSteps := 2000000) (disch := omega) only [NN, Ty.den, dflt_kv]
              repeat (refine br_go ?_ ?_; (focus (((repeat' first | exact rfl | exact ordB_st rfl | exact ordB_of rfl | apply band | apply tst_t | apply nt_t)  <;> (try dsimp only [Ty.den, dflt_kv]) <;> (try simp only [LL]) <;> (first | trivial | assumption | omega | (change (_ : Int) ≤ _; omega) | (change (_ : Int) < _; omega) | (change (_ : Nat) * 1 ≤ _; omega) | (change (_ : Nat) * 48 ≤ _; omega) | (change (_ : Nat) * 24 ≤ _; omega) | (change (_ : Nat) * 8 ≤ _; omega) | (change (_ : Nat) * 64 ≤ _; omega) | decide)); done)); (conv => lhs; whnf); (try simp (maxSteps := 2000000) (disch := omega) only [NN, Ty.den, dflt_kv]))
              have e : l.drop i = [] := List.drop_eq_nil_of_le (by omega)
              rw [e, show spansU (List.flatten []) = [] from rfl, List.append_nil] at i2
              subst i2
              have hdr : (l.drop n).length ≤ 8 := by rw [List.length_drop]; omega
              have htk : (l.take n).length ≤ 8 := by rw [List.length_take]; omega
              have hsb : ∀ x ∈ (l.drop n).flatten, (split x.1).2.2.2 = 0 := fun x hx => s4 x (by
                rw [← List.take_append_drop n l, List.flatten_append]
                exact List.mem_append_right _ hx)
              obtain ⟨f1, f2, f3⟩ := stage2 (old := old) (dp := dp) (below := b) (c := n) hs (by rw [← hB]; exact inB_spans hsb)
              have p1 : mgSp.pre (l.take n, old, b, ()) = true := tst_t ⟨Nat.le_trans htk (by decide), by show (l.take n).flatten.length ≤ 80; omega⟩
              have hm1 : (mgS (l.take n) old b).1.length ≤ (l.take n).flatten.length := by
                have := keepGo_len old b (sortedS (l.take n)).1 none
                have := sortedS_len (l.take n)
                unfold mgS
                split
                · show (keepGo old b none (sortedS (l.take n)).1).length ≤ _
                  omega
                · exact Nat.zero_le _
              have p2 : mgSp.pre ((mgS (l.take n) old b).1 :: l.drop n, old, dp, ()) = true := tst_t ⟨by show (_ :: _ : List (List KV)).length ≤ 9; rw [List.length_cons]; omega, by show (List.flatten (_ :: _)).length ≤ 80; rw [List.flatten_cons, List.length_append]; omega⟩
              have p2 : mgSp.pre ([(mgS (l.take n) old b).1] ++ l.drop n, old, dp, ()) = true := p2
              have f2 : (mgS ([(mgS (l.take n) old b).1] ++ l.drop n) old dp).2 = 0 := f2
              have f3 : (mgS ([(mgS (l.take n) old b).1] ++ l.drop n) old dp).1 = (mgS l old dp).1 := f3
              refine br_go (p1) ?_
              conv => lhs; whnf
              try simp (maxSteps := 2000000) (disch := omega) only [NN, Ty.den, dflt_kv]
              try simp (maxSteps := 2000000) (disch := omega) only [NN, Ty.den, dflt_kv, f1]
              repeat (refine br_go ?_ ?_; (focus (((repeat' first | exact rfl | exact ordB_st rfl | exact ordB_of rfl | apply band | apply tst_t | apply nt_t)  <;> (try dsimp only [Ty.den, dflt_kv]) <;> (try simp only [LL]) <;> (first | trivial | assumption | omega | (change (_ : Int) ≤ _; omega) | (change (_ : Int) < _; omega) | (change (_ : Nat) * 1 ≤ _; omega) | (change (_ : Nat) * 48 ≤ _; omega) | (change (_ : Nat) * 24 ≤ _; omega) | (change (_ : Nat) * 8 ≤ _; omega) | (change (_ : Nat) * 64 ≤ _; omega) | decide)); done)); (conv => lhs; whnf); (try simp (maxSteps := 2000000) (disch := omega) only [NN, Ty.den, dflt_kv]))
              refine br_no (tst_f ((show ¬ ((0 : Int) ≠ 0) by decide))) ?_
              conv => lhs; whnf
              try simp (maxSteps := 2000000) (disch := omega) only [NN, Ty.den, dflt_kv]
              repeat (refine br_go ?_ ?_; (focus (((repeat' first | exact rfl | exact ordB_st rfl | exact ordB_of rfl | apply band | apply tst_t | apply nt_t)  <;> (try dsimp only [Ty.den, dflt_kv]) <;> (try simp only [LL]) <;> (first | trivial | assumption | omega | (change (_ : Int) ≤ _; omega) | (change (_ : Int) < _; omega) | (change (_ : Nat) * 1 ≤ _; omega) | (change (_ : Nat) * 48 ≤ _; omega) | (change (_ : Nat) * 24 ≤ _; omega) | (change (_ : Nat) * 8 ≤ _; omega) | (change (_ : Nat) * 64 ≤ _; omega) | decide)); done)); (conv => lhs; whnf); (try simp (maxSteps := 2000000) (disch := omega) only [NN, Ty.den, dflt_kv]))
              refine br_go (p2) ?_
              conv => lhs; whnf
              try simp (maxSteps := 2000000) (disch := omega) only [NN, Ty.den, dflt_kv]
              try simp (maxSteps := 2000000) (disch := omega) only [NN, Ty.den, dflt_kv, f2, f3]
              repeat (refine br_go ?_ ?_; (focus (((repeat' first | exact rfl | exact ordB_st rfl | exact ordB_of rfl | apply band | apply tst_t | apply nt_t)  <;> (try dsimp only [Ty.den, dflt_kv]) <;> (try simp only [LL]) <;> (first | trivial | assumption | omega | (change (_ : Int) ≤ _; omega) | (change (_ : Int) < _; omega) | (change (_ : Nat) * 1 ≤ _; omega) | (change (_ : Nat) * 48 ≤ _; omega) | (change (_ : Nat) * 24 ≤ _; omega) | (change (_ : Nat) * 8 ≤ _; omega) | (change (_ : Nat) * 64 ≤ _; omega) | decide)); done)); (conv => lhs; whnf); (try simp (maxSteps := 2000000) (disch := omega) only [NN, Ty.den, dflt_kv]))
              exact bo_eq (tst_t trivial)
          · have e2 : (mgS l old dp).2 = 101 := by unfold mgS; rw [if_neg hs]
            have hs : (sortedS l).2 = false := by simpa using hs
            try simp (maxSteps := 2000000) (disch := omega) only [NN, Ty.den, dflt_kv, e2]
            refine br_go (tst_t ((show ((101 : Int) ≠ 0) by decide))) ?_
            conv => lhs; whnf
            try simp (maxSteps := 2000000) (disch := omega) only [NN, Ty.den, dflt_kv]
            try simp (maxSteps := 2000000) (disch := omega) only [NN, Ty.den, dflt_kv, hs]
            repeat (refine br_go ?_ ?_; (focus (((repeat' first | exact rfl | exact ordB_st rfl | exact ordB_of rfl | apply band | apply tst_t | apply nt_t)  <;> (try dsimp only [Ty.den, dflt_kv]) <;> (try simp only [LL]) <;> (first | trivial | assumption | omega | (change (_ : Int) ≤ _; omega) | (change (_ : Int) < _; omega) | (change (_ : Nat) * 1 ≤ _; omega) | (change (_ : Nat) * 48 ≤ _; omega) | (change (_ : Nat) * 24 ≤ _; omega) | (change (_ : Nat) * 8 ≤ _; omega) | (change (_ : Nat) * 64 ≤ _; omega) | decide)); done)); (conv => lhs; whnf); (try simp (maxSteps := 2000000) (disch := omega) only [NN, Ty.den, dflt_kv]))
            exact bo_eq rfl
  · refine br_go (nt_t hw) ?_
    conv => lhs; whnf
    try simp (maxSteps := 2000000) (disch := omega) only [NN, Ty.den, dflt_kv]
    repeat (refine br_go ?_ ?_; (focus (((repeat' first | exact rfl | exact ordB_st rfl | exact ordB_of rfl | apply band | apply tst_t | apply nt_t)  <;> (try dsimp only [Ty.den, dflt_kv]) <;> (try simp only [LL]) <;> (first | trivial | assumption | omega | (change (_ : Int) ≤ _; omega) | (change (_ : Int) < _; omega) | (change (_ : Nat) * 1 ≤ _; omega) | (change (_ : Nat) * 48 ≤ _; omega) | (change (_ : Nat) * 24 ≤ _; omega) | (change (_ : Nat) * 8 ≤ _; omega) | (change (_ : Nat) * 64 ≤ _; omega) | decide)); done)); (conv => lhs; whnf); (try simp (maxSteps := 2000000) (disch := omega) only [NN, Ty.den, dflt_kv]))
end Go.Proofs.Ytmpmmfbgdpfnpaa.Ev
namespace Go.Proofs.Ytmpmmfbgdpfnpaa.compactStages
open Go.RowKit Go.ChangeShapes Go.ChangeAt Go.Proofs.Ytmpmmfbgdpfnpaa.Ev
set_option linter.unusedVariables false
set_option maxRecDepth 100000 in
theorem lifted (os : Os) (started : os.Started) (H : Type) (enc : TypeId × Value → H) :
    ReturnsInHanded {} Try.checked os 5 .any (Rows.compactStagesSpec.pre6 enc Try.prog Try.f5 Rows.compactStagesRow.domain false) (Rows.compactStagesSpec.post enc Try.prog Try.f5 false true false false) := by
  refine law_lifted (K := Try.checked) (C := ⟨rows, fun _ => ([], [])⟩) (rows_ok _) 8 own started (by kernel_rfl) Try.func5 laidOut
    (ChangeSpec.witness6 (enc := enc) (C := Try.checked) false ⟨#[], #[.slice none 0 0, .int .u64 0, .slice none 0 0, .int .i64 0], []⟩ 8 (by kernel_rfl) (by kernel_rfl) (by kernel_rfl) (by kernel_rfl)) rfl (tb := 4) rfl rfl (by kernel_rfl) (by
      intro ds hd
      have hd : ds.length = 4 := hd
      match ds, hd with
      | [_, _, _, _], _ => rfl) (by kernel_rfl) (by kernel_rfl) ?_
  intro xs h
  have hp : Try.f5.params.toList = [22, 23, 24, 3] := by kernel_rfl
  rw [hp] at h
  obtain _ | ⟨_, _, x0, _, q0, h0⟩ := h
  obtain _ | ⟨_, _, x1, _, q1, h1⟩ := h0
  obtain _ | ⟨_, _, x2, _, q2, h2⟩ := h1
  obtain _ | ⟨_, _, x3, _, q3, h3⟩ := h2
  cases h3
  exact far_of_ok kstagesSp TB_far (rows_ok _) at5 (kstages_ok _ rfl rfl rfl rfl rfl) (x0, (x1, (x2, (x3, ())))) (fun _ => rfl)
theorem over : Rows.compactStagesRow.holds Try.pinned (OpenSpec.ofChange Rows.compactStagesSpec) :=
  OpenClaim.holds_of_wide 5 Try.f5 rfl rfl rfl rfl rfl rfl rfl ⟨rfl, rfl, rfl, rfl, rfl⟩ rfl rfl rfl rfl rfl (by kernel_rfl) Try.func5 (by kernel_rfl)
    (of_decide_eq_true (by kernel_rfl)) (by unfold Func.isWrapper; first | (rw [if_pos (by decide +kernel)]; kernel_rfl) | (rw [if_neg (by decide +kernel)]; exact ⟨rfl, rfl⟩))
    (fun os started H enc _ => lifted os started H enc)
theorem proved : Rows.CompactStagesSaid := over
#print axioms proved
end Go.Proofs.Ytmpmmfbgdpfnpaa.compactStages
