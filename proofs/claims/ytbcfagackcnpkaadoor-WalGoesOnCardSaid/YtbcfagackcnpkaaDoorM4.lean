/- Parts of the proof, joined by a program of this session: WLog, WCopy, WTab4, LawRow, LaidW. -/
import Derived.Test.YtbcfagackcnpkaaDoorM3
import Derived.Test.YtbcfagackcnpkaaDoorM2
import Derived.Test.YtbcfagackcnpkaaDoorCards
import Derived.Test.YtbcfagackcnpkaaDoorTie
import Derived.Deep.DeepHandedRow
set_option linter.unusedVariables false
set_option linter.unusedSimpArgs false
set_option linter.unusedSectionVars false
/- Logs of records, and where each one ends. -/
namespace Go.Proofs.YtbcfagackcnpkaaDoor.Ev
open Go Go.RowKit
set_option linter.unusedVariables false
set_option linter.unusedSimpArgs false
set_option maxRecDepth 100000
set_option maxHeartbeats 8000000
def endsL (a : Nat) : List (List Int) → List Int
  | [] => []
  | r :: rs => ((a + (appA a true r).length : Nat) : Int) :: endsL (a + (appA a true r).length) rs
theorem logL_le : ∀ (rs : List (List Int)) (a : Nat), (logL a rs).length ≤ 14 * totB rs + 14 * rs.length
  | [], a => by simp [logL]
  | r :: rs, a => by
    have h1 := logL_le rs (a + (appA a true r).length)
    have h2 : (appA a true r).length ≤ 14 * r.length + 14 := by
      have := appA_le a true r
      split at this
      · omega
      · split at this <;> omega
    rw [logL, List.length_append, totB, List.length_cons]; omega
theorem endsL_len : ∀ (rs : List (List Int)) (a : Nat), (endsL a rs).length = rs.length
  | [], a => rfl
  | r :: rs, a => by rw [endsL, List.length_cons, List.length_cons, endsL_len rs]
theorem apS_at {a : Nat} {r : List Int} (h : r.length ≤ 4194304) : apS a r 50 = (appA a true r, 0) := by
  unfold apS
  rw [if_neg (by omega), show (max (a : Int) 0 % 64).toNat = a % 64 by omega, appA_mod a true r (a % 64) (by omega)]
abbrev i64l : Ty := .li i64
noncomputable def logSp : Sp := ⟨[.li byl], fun x => tst (few5 x.1), fun x => .tup [.own 0 by8 (logL 0 x.1), .own 0 i64 (endsL 0 x.1), .d .bo true]⟩
abbrev logC : Ctx := ⟨rows, (fun | 0 => ([0, 5, 6, 7], [5, 6]) | 1 => ([], [0, 5, 6, 7]) | _ => ([], []))⟩
theorem log_ok (T : Tab) (h1 : T 19 = apSp.ent) : logSp.Ok T logC F17 := by
  rw [on_top h1]
  rintro ⟨(l : List (List Int)), _⟩ hf hp
  have hw : few5 l := tst_iff.1 hp
  have hea := few5_each hw.2
  have hll := logL_le l 0
  have hl1 := hw.1
  have hl2 := hw.2
  obtain ⟨F, hF⟩ : ∃ F : Nat, F = l.length + 5 := ⟨_, rfl⟩
  refine ⟨F, 0, ?_⟩
  show evFn _ _ _ _ _ [.d (.li byl) l] [] _ = some (.tup [vO 0 (logL 0 l), .own 0 i64 (endsL 0 l), .d .bo true] : V)
  conv => lhs; whnf
  try simp (maxSteps := 2000000) (disch := omega) only [nI64, nU64, nU32, nU8, nSubL, nAddL, nAdd, nSub, nDiv, nMod, nZ, nLit, row_3, row_4, row_5, row_16, row_22, row_85, Ty.den, dflt_it, dflt_li, dflt_kv, Int.toNat_natCast, List.take_length, List.drop_zero]
  refine loop_rule (α := Nat × List Int × List Int) (fun s => s.1 ≤ l.length ∧ s.2.1 ++ logL s.2.1.length (l.drop s.1) = logL 0 l ∧ s.2.2 ++ endsL s.2.1.length (l.drop s.1) = endsL 0 l) (fun s => l.length - s.1)
    (fun s => (V.d (.li byl) l :: V.bad :: V.bad :: V.bad :: V.bad :: vO 2 s.2.1 :: V.own 3 i64 s.2.2 :: vI s.1 :: V.bad :: V.bad :: V.bad :: V.bad :: V.bad :: V.bad :: V.bad :: V.bad :: V.bad :: V.bad :: V.bad :: V.bad :: V.bad :: V.bad :: V.bad :: V.bad :: V.bad :: V.bad :: V.bad :: V.bad :: V.bad :: V.bad :: V.bad :: V.bad :: V.bad :: V.bad :: V.bad :: V.bad :: V.bad :: V.bad :: []))
    (fun s => [.fam 0, .fam 0, .fam s.2.1.length, .fam s.2.2.length]) (fun s => some (V.tup [vO 0 (logL 0 l), .own 0 i64 (endsL 0 l), .d .bo true])) ?_ F (0, [], []) ⟨Nat.zero_le _, rfl, rfl⟩ (by show l.length - 0 < F; omega)
  rintro ⟨i, o, es⟩ K ⟨k1, k2, k3⟩ hK
  simp only at k1 k2 k3 hK ⊢
  have ho : o.length + (logL o.length (l.drop i)).length = (logL 0 l).length := by rw [← k2, List.length_append]
  have he : es.length + (l.drop i).length = l.length := by
    have := endsL_len l 0
    rw [← k3, List.length_append, endsL_len] at this
    exact this
  rw [List.length_drop] at he
  conv => lhs; whnf
  try simp (maxSteps := 2000000) (disch := omega) only [nI64, nU64, nU32, nU8, nSubL, nAddL, nAdd, nSub, nDiv, nMod, nZ, nLit, row_3, row_4, row_5, row_16, row_22, row_85, Ty.den, dflt_it, dflt_li, dflt_kv, Int.toNat_natCast, List.take_length, List.drop_zero]
  by_cases hi : i < l.length
  · refine br_go (tst_t (by omega)) ?_
    conv => lhs; whnf
    try simp (maxSteps := 2000000) (disch := omega) only [nI64, nU64, nU32, nU8, nSubL, nAddL, nAdd, nSub, nDiv, nMod, nZ, nLit, row_3, row_4, row_5, row_16, row_22, row_85, Ty.den, dflt_it, dflt_li, dflt_kv, Int.toNat_natCast, List.take_length, List.drop_zero]
    have hd := drop_at (d := ([] : List Int)) hi
    have hri : (l.getD i []).length ≤ 3000 := hea _ (by rw [getD_at hi]; exact List.getElem_mem hi)
    have ea := apS_at (a := o.length) (r := l.getD i []) (by omega)
    rw [hd, logL] at k2
    rw [hd, logL, List.length_append] at ho
    rw [hd, endsL] at k3
    repeat (refine br_go ?_ ?_; (focus (((repeat' first | exact rfl | exact ordB_st rfl | exact ordB_of rfl | apply band | apply tst_t | apply nt_t)  <;> (try dsimp only [Ty.den, dflt_kv]) <;> (try simp only [List.length_append, List.length_cons, List.length_nil, List.length_take, List.length_drop, List.length_replicate]) <;> (first | trivial | assumption | omega | (change (_ : Int) ≤ _; omega) | (change (_ : Int) < _; omega) | (change (_ : Nat) * 1 ≤ _; omega) | (change (_ : Nat) * 48 ≤ _; omega) | (change (_ : Nat) * 24 ≤ _; omega) | (change (_ : Nat) * 8 ≤ _; omega) | (change (_ : Nat) * 64 ≤ _; omega) | decide)); done)); (conv => lhs; whnf); (try simp (maxSteps := 2000000) (disch := omega) only [nI64, nU64, nU32, nU8, nSubL, nAddL, nAdd, nSub, nDiv, nMod, nZ, nLit, row_3, row_4, row_5, row_16, row_22, row_85, Ty.den, dflt_it, dflt_li, dflt_kv, Int.toNat_natCast, List.take_length, List.drop_zero]))
    try simp (maxSteps := 2000000) (disch := omega) only [nI64, nU64, nU32, nU8, nSubL, nAddL, nAdd, nSub, nDiv, nMod, nZ, nLit, row_3, row_4, row_5, row_16, row_22, row_85, Ty.den, dflt_it, dflt_li, dflt_kv, Int.toNat_natCast, List.take_length, List.drop_zero, ea]
    refine br_no (tst_f ((fun h => h rfl))) ?_
    conv => lhs; whnf
    try simp (maxSteps := 2000000) (disch := omega) only [nI64, nU64, nU32, nU8, nSubL, nAddL, nAdd, nSub, nDiv, nMod, nZ, nLit, row_3, row_4, row_5, row_16, row_22, row_85, Ty.den, dflt_it, dflt_li, dflt_kv, Int.toNat_natCast, List.take_length, List.drop_zero]
    repeat (refine br_go ?_ ?_; (focus (((repeat' first | exact rfl | exact ordB_st rfl | exact ordB_of rfl | apply band | apply tst_t | apply nt_t)  <;> (try dsimp only [Ty.den, dflt_kv]) <;> (try simp only [List.length_append, List.length_cons, List.length_nil, List.length_take, List.length_drop, List.length_replicate]) <;> (first | trivial | assumption | omega | (change (_ : Int) ≤ _; omega) | (change (_ : Int) < _; omega) | (change (_ : Nat) * 1 ≤ _; omega) | (change (_ : Nat) * 48 ≤ _; omega) | (change (_ : Nat) * 24 ≤ _; omega) | (change (_ : Nat) * 8 ≤ _; omega) | (change (_ : Nat) * 64 ≤ _; omega) | decide)); done)); (conv => lhs; whnf); (try simp (maxSteps := 2000000) (disch := omega) only [nI64, nU64, nU32, nU8, nSubL, nAddL, nAdd, nSub, nDiv, nMod, nZ, nLit, row_3, row_4, row_5, row_16, row_22, row_85, Ty.den, dflt_it, dflt_li, dflt_kv, Int.toNat_natCast, List.take_length, List.drop_zero]))
    refine hK (i + 1, o ++ appA o.length true (l.getD i []), es ++ [(((o ++ appA o.length true (l.getD i [])).length : Nat) : Int)]) ⟨by show i + 1 ≤ l.length; omega, by rw [← k2, List.length_append, List.append_assoc], by rw [← k3, List.length_append, List.append_assoc]; rfl⟩ (by show l.length - (i + 1) < l.length - i; omega)
  · refine br_no (tst_f (by omega)) ?_
    conv => lhs; whnf
    try simp (maxSteps := 2000000) (disch := omega) only [nI64, nU64, nU32, nU8, nSubL, nAddL, nAdd, nSub, nDiv, nMod, nZ, nLit, row_3, row_4, row_5, row_16, row_22, row_85, Ty.den, dflt_it, dflt_li, dflt_kv, Int.toNat_natCast, List.take_length, List.drop_zero]
    repeat (refine br_go ?_ ?_; (focus (((repeat' first | exact rfl | exact ordB_st rfl | exact ordB_of rfl | apply band | apply tst_t | apply nt_t)  <;> (try dsimp only [Ty.den, dflt_kv]) <;> (try simp only [List.length_append, List.length_cons, List.length_nil, List.length_take, List.length_drop, List.length_replicate]) <;> (first | trivial | assumption | omega | (change (_ : Int) ≤ _; omega) | (change (_ : Int) < _; omega) | (change (_ : Nat) * 1 ≤ _; omega) | (change (_ : Nat) * 48 ≤ _; omega) | (change (_ : Nat) * 24 ≤ _; omega) | (change (_ : Nat) * 8 ≤ _; omega) | (change (_ : Nat) * 64 ≤ _; omega) | decide)); done)); (conv => lhs; whnf); (try simp (maxSteps := 2000000) (disch := omega) only [nI64, nU64, nU32, nU8, nSubL, nAddL, nAdd, nSub, nDiv, nMod, nZ, nLit, row_3, row_4, row_5, row_16, row_22, row_85, Ty.den, dflt_it, dflt_li, dflt_kv, Int.toNat_natCast, List.take_length, List.drop_zero]))
    rw [List.drop_eq_nil_of_le (by omega)] at k2 k3
    rw [← k2, ← k3, logL, endsL, List.append_nil, List.append_nil]
end Go.Proofs.YtbcfagackcnpkaaDoor.Ev
/- Lists of bytes: a copy of one's own. -/
namespace Go.Proofs.YtbcfagackcnpkaaDoor.Ev
open Go Go.RowKit
set_option linter.unusedVariables false
set_option linter.unusedSimpArgs false
set_option maxRecDepth 100000
set_option maxHeartbeats 8000000
noncomputable def cplSp : Sp := ⟨[.li byl], fun x => tst (few5 x.1), fun x => .own 0 byl x.1⟩
abbrev cplC : Ctx := ⟨rows, (fun | 0 => ([0, 3, 4], [3]) | 1 => ([], [0, 3, 4]) | _ => ([], []))⟩
theorem cpl_ok (T : Tab) : cplSp.Ok T cplC F20 := by
  rintro ⟨(l : List (List Int)), _⟩ hf hp
  have hw : few5 l := tst_iff.1 hp
  have hea := few5_each hw.2
  have hl1 := hw.1
  obtain ⟨F, hF⟩ : ∃ F : Nat, F = l.length + 5 := ⟨_, rfl⟩
  refine ⟨F, 0, ?_⟩
  show evFn _ _ _ _ _ [.d (.li byl) l] [] _ = some (.own 0 byl l : V)
  conv => lhs; whnf
  try simp (maxSteps := 2000000) (disch := omega) only [nI64, nU64, nU32, nU8, nSubL, nAddL, nAdd, nSub, nDiv, nMod, nZ, nLit, row_3, row_4, row_5, row_16, row_22, row_85, Ty.den, dflt_it, dflt_li, dflt_kv, Int.toNat_natCast, List.take_length, List.drop_zero]
  refine loop_rule (α := Nat) (fun i => i ≤ l.length) (fun i => l.length - i)
    (fun i => (V.d (.li byl) l :: V.bad :: V.bad :: V.own 1 byl (l.take i) :: vI i :: V.bad :: V.bad :: V.bad :: V.bad :: V.bad :: V.bad :: V.bad :: V.bad :: V.bad :: V.bad :: V.bad :: V.bad :: V.bad :: V.bad :: V.bad :: []))
    (fun i => [.fam 0, .fam (l.take i).length]) (fun i => some (V.own 0 byl l)) ?_ F 0 (Nat.zero_le _) (by show l.length - 0 < F; omega)
  rintro i K k1 hK
  have htl : (l.take i).length = i := by rw [List.length_take]; omega
  conv => lhs; whnf
  try simp (maxSteps := 2000000) (disch := omega) only [nI64, nU64, nU32, nU8, nSubL, nAddL, nAdd, nSub, nDiv, nMod, nZ, nLit, row_3, row_4, row_5, row_16, row_22, row_85, Ty.den, dflt_it, dflt_li, dflt_kv, Int.toNat_natCast, List.take_length, List.drop_zero]
  by_cases hi : i < l.length
  · refine br_go (tst_t (by omega)) ?_
    conv => lhs; whnf
    try simp (maxSteps := 2000000) (disch := omega) only [nI64, nU64, nU32, nU8, nSubL, nAddL, nAdd, nSub, nDiv, nMod, nZ, nLit, row_3, row_4, row_5, row_16, row_22, row_85, Ty.den, dflt_it, dflt_li, dflt_kv, Int.toNat_natCast, List.take_length, List.drop_zero]
    have hri : (l.getD i []).length ≤ 3000 := hea _ (by rw [getD_at hi]; exact List.getElem_mem hi)
    repeat (refine br_go ?_ ?_; (focus (((repeat' first | exact rfl | exact ordB_st rfl | exact ordB_of rfl | apply band | apply tst_t | apply nt_t)  <;> (try dsimp only [Ty.den, dflt_kv]) <;> (try simp only [List.length_append, List.length_cons, List.length_nil, List.length_take, List.length_drop, List.length_replicate]) <;> (first | trivial | assumption | omega | (change (_ : Int) ≤ _; omega) | (change (_ : Int) < _; omega) | (change (_ : Nat) * 1 ≤ _; omega) | (change (_ : Nat) * 48 ≤ _; omega) | (change (_ : Nat) * 24 ≤ _; omega) | (change (_ : Nat) * 8 ≤ _; omega) | (change (_ : Nat) * 64 ≤ _; omega) | decide)); done)); (conv => lhs; whnf); (try simp (maxSteps := 2000000) (disch := omega) only [nI64, nU64, nU32, nU8, nSubL, nAddL, nAdd, nSub, nDiv, nMod, nZ, nLit, row_3, row_4, row_5, row_16, row_22, row_85, Ty.den, dflt_it, dflt_li, dflt_kv, Int.toNat_natCast, List.take_length, List.drop_zero]))
    have := hK (i + 1) (by omega) (by omega)
    rw [take_at (d := ([] : List Int)) hi] at this
    exact this
  · refine br_no (tst_f (by omega)) ?_
    conv => lhs; whnf
    try simp (maxSteps := 2000000) (disch := omega) only [nI64, nU64, nU32, nU8, nSubL, nAddL, nAdd, nSub, nDiv, nMod, nZ, nLit, row_3, row_4, row_5, row_16, row_22, row_85, Ty.den, dflt_it, dflt_li, dflt_kv, Int.toNat_natCast, List.take_length, List.drop_zero]
    repeat (refine br_go ?_ ?_; (focus (((repeat' first | exact rfl | exact ordB_st rfl | exact ordB_of rfl | apply band | apply tst_t | apply nt_t)  <;> (try dsimp only [Ty.den, dflt_kv]) <;> (try simp only [List.length_append, List.length_cons, List.length_nil, List.length_take, List.length_drop, List.length_replicate]) <;> (first | trivial | assumption | omega | (change (_ : Int) ≤ _; omega) | (change (_ : Int) < _; omega) | (change (_ : Nat) * 1 ≤ _; omega) | (change (_ : Nat) * 48 ≤ _; omega) | (change (_ : Nat) * 24 ≤ _; omega) | (change (_ : Nat) * 8 ≤ _; omega) | (change (_ : Nat) * 64 ≤ _; omega) | decide)); done)); (conv => lhs; whnf); (try simp (maxSteps := 2000000) (disch := omega) only [nI64, nU64, nU32, nU8, nSubL, nAddL, nAdd, nSub, nDiv, nMod, nZ, nLit, row_3, row_4, row_5, row_16, row_22, row_85, Ty.den, dflt_it, dflt_li, dflt_kv, Int.toNat_natCast, List.take_length, List.drop_zero]))
    rw [List.take_of_length_le (by omega)]
end Go.Proofs.YtbcfagackcnpkaaDoor.Ev
/- The contracts that the laws of logs need, in a table. -/
namespace Go.Proofs.YtbcfagackcnpkaaDoor.Ev
open Go Go.RowKit
set_option linter.unusedVariables false
set_option maxRecDepth 100000
set_option maxHeartbeats 8000000
noncomputable def T0 : Tab := tab0
theorem T0_far : TabFar Tryd.prog T0 := tab0_far
noncomputable def T1 : Tab := tabAdd T0 35 sumSp.ts sumSp.F
theorem T1_far : TabFar Tryd.prog T1 := add_ok sumSp T0_far (rows_ok _) at35 (by kernel_rfl) (by kernel_rfl) (sum_ok _)
noncomputable def T2 : Tab := tabAdd T1 39 fixedSp.ts fixedSp.F
theorem T2_far : TabFar Tryd.prog T2 := add_ok fixedSp T1_far (rows_ok _) at39 (by kernel_rfl) (by kernel_rfl) (fixed_ok _)
noncomputable def T3 : Tab := tabAdd T2 34 fixed4Sp.ts fixed4Sp.F
theorem T3_far : TabFar Tryd.prog T3 := add_ok fixed4Sp T2_far (rows_ok _) at34 (by kernel_rfl) (by kernel_rfl) (fixed4_ok _ rfl)
noncomputable def T4 : Tab := tabAdd T3 48 unfixedSp.ts unfixedSp.F
theorem T4_far : TabFar Tryd.prog T4 := add_ok unfixedSp T3_far (rows_ok _) at48 (by kernel_rfl) (by kernel_rfl) (unfixed_ok _)
noncomputable def T5 : Tab := tabAdd T4 38 unfixed4Sp.ts unfixed4Sp.F
theorem T5_far : TabFar Tryd.prog T5 := add_ok unfixed4Sp T4_far (rows_ok _) at38 (by kernel_rfl) (by kernel_rfl) (unfixed4_ok _ rfl)
noncomputable def T6 : Tab := tabAdd T5 42 trimRSp.ts trimRSp.F
theorem T6_far : TabFar Tryd.prog T6 := add_okW trimRSp T5_far (rows_ok _) at42 (by kernel_rfl) (by kernel_rfl) (trimR_ok _)
noncomputable def T7 : Tab := tabAdd T6 41 trimLSp.ts trimLSp.F
theorem T7_far : TabFar Tryd.prog T7 := add_okW trimLSp T6_far (rows_ok _) at41 (by kernel_rfl) (by kernel_rfl) (trimL_ok _)
noncomputable def T8 : Tab := tabAdd T7 26 roomSp.ts roomSp.F
theorem T8_far : TabFar Tryd.prog T8 := add_ok roomSp T7_far (rows_ok _) at26 (by kernel_rfl) (by kernel_rfl) (room_ok _)
noncomputable def T9 : Tab := tabAdd T8 28 kindSp.ts kindSp.F
theorem T9_far : TabFar Tryd.prog T9 := add_ok kindSp T8_far (rows_ok _) at28 (by kernel_rfl) (by kernel_rfl) (kind_ok _)
noncomputable def T10 : Tab := tabAdd T9 27 fragSp.ts fragSp.F
theorem T10_far : TabFar Tryd.prog T10 := add_ok fragSp T9_far (rows_ok _) at27 (by kernel_rfl) (by kernel_rfl) (frag_ok _ rfl rfl)
noncomputable def T11 : Tab := tabAdd T10 19 apSp.ts apSp.F
theorem T11_far : TabFar Tryd.prog T11 := add_ok apSp T10_far (rows_ok _) at19 (by kernel_rfl) (by kernel_rfl) (wappend_ok _ rfl rfl rfl)
noncomputable def T12 : Tab := tabAdd T11 22 lenSp.ts lenSp.F
theorem T12_far : TabFar Tryd.prog T12 := add_ok lenSp T11_far (rows_ok _) at22 (by kernel_rfl) (by kernel_rfl) (wlen_ok _ rfl)
noncomputable def T13 : Tab := tabAdd T12 31 nextSp.ts nextSp.F
theorem T13_far : TabFar Tryd.prog T13 := add_ok nextSp T12_far (rows_ok _) at31 (by kernel_rfl) (by kernel_rfl) (next_ok _ rfl rfl rfl rfl rfl rfl)
noncomputable def T14 : Tab := tabAdd T13 24 recSp.ts recSp.F
theorem T14_far : TabFar Tryd.prog T14 := add_okW recSp T13_far (rows_ok _) at24 (by kernel_rfl) (by kernel_rfl) (rec_ok _ rfl rfl)
noncomputable def T15 : Tab := tabAdd T14 11 readSp.ts readSp.F
theorem T15_far : TabFar Tryd.prog T15 := add_ok readSp T14_far (rows_ok _) at11 (by kernel_rfl) (by kernel_rfl) (read_ok _ rfl)
noncomputable def T16 : Tab := tabAdd T15 17 logSp.ts logSp.F
theorem T16_far : TabFar Tryd.prog T16 := add_ok logSp T15_far (rows_ok _) at17 (by kernel_rfl) (by kernel_rfl) (log_ok _ rfl)
noncomputable def T17 : Tab := tabAdd T16 16 few5Sp.ts few5Sp.F
theorem T17_far : TabFar Tryd.prog T17 := add_ok few5Sp T16_far (rows_ok _) at16 (by kernel_rfl) (by kernel_rfl) (few5_ok _)
noncomputable def T18 : Tab := tabAdd T17 13 listsSp.ts listsSp.F
theorem T18_far : TabFar Tryd.prog T18 := add_ok listsSp T17_far (rows_ok _) at13 (by kernel_rfl) (by kernel_rfl) (lists_ok _)
noncomputable def T19 : Tab := tabAdd T18 20 cplSp.ts cplSp.F
theorem T19_far : TabFar Tryd.prog T19 := add_ok cplSp T18_far (rows_ok _) at20 (by kernel_rfl) (by kernel_rfl) (cpl_ok _)
noncomputable def T20 : Tab := tabAdd T19 10 knownSp.ts knownSp.F
theorem T20_far : TabFar Tryd.prog T20 := add_far knownSp T19_far at10 (by kernel_rfl) (by kernel_rfl) (fun x _ => known_far)
noncomputable def TB : Tab := T20
theorem TB_far : TabFar Tryd.prog TB := T20_far
end Go.Proofs.YtbcfagackcnpkaaDoor.Ev
/- From a walk to the law's statement, where the row lists package variables. -/
namespace Go.Proofs.YtbcfagackcnpkaaDoor.Ev
open Go Go.RowKit Go.ChangeShapes Go.ChangeAt Go.WideShapes
set_option linter.unusedVariables false
theorem law_row [tI : Tst] {K : Checked} {C : Ctx} {os : Os} {H : Type} {enc : TypeId × Value → H} {f : FuncId} {fn : Func} {s : ChangeSpec} {conds : List PathCond} {laid : List (String × DataW Unit)} {F : Stop.Interp} (hC : RowsOK K.prog C) (n : Nat)
    (own : ownKnob K.prog.godebug = none) (started : os.Started) (noInit : K.prog.inits.idxOf? f = none) (hfn : K.prog.funcs[f]? = some fn) (hlaid : laidOutB K.prog = true)
    (witness : ∃ (w : World) (tape : Tape) (i : Input), w.os = os ∧ (w.forCall tape i).Shaped K.prog ∧ i.vars = [] ∧ Input.okWide K.prog (w.forCall tape i) .any w.heap.size f i ∧
      (OpenSpec.ofChange s).preRow enc K.prog fn conds false laid (w.forCall tape i).memory i.args ∧ Assume.holds {} K.prog (lone (Frame.enter K.prog f i.args .normal) [] (w.forCall tape i)))
    (hvars : s.vars = []) {tb : TypeId} (hres : fn.resultTypes.toList = [tb]) (hrs : fn.resultTypes.size = 1) (htb : K.prog.underlying tb = some .bool) (hspec : ∀ ds : List (DataW H), ds.length = fn.params.toList.length → s.fn H ds = { results := [.lit (.bool true)], args := ds })
    (hopen : fn.params.toList.all (openB C n) = true) (hread : fn.params.toList.all (fun t => K.prog.readableRec t && decide (t < K.prog.types.size)) = true)
    (hlaw : ∀ xs, Typed C fn.params.toList xs → FarRes K.prog f xs (.d .bo true)) :
    ReturnsInHanded {} K os f .any ((OpenSpec.ofChange s).preRow enc K.prog fn conds false laid) (((OpenSpec.ofChange s).at F).post enc K.prog fn false true false false) := by
  refine returnsInHanded_of_row own started noInit hfn witness ?_
  intro W base args ds gs before hval hW _ _ hsz _ _ _
  have hW : DataW.Whole enc K.prog fn.params.toList s.vars false W args.toList ds gs before := hW
  have hsz : (DataW.weightsEach K.prog (fn.params.toList ++ s.plain.varTypes K.prog) (ds ++ gs)).all (· ≤ reachBytes) = true := hsz
  show Calls K.prog f args W fun e W' => ∃ v, e = .returned v ∧ s.post enc K.prog fn false true false false W args v W'
  have hW' := hW
  obtain ⟨p, q, hA, hV, rfl, hfz, hnd⟩ := hW
  rw [hvars] at hV
  obtain ⟨rfl, rfl⟩ := trodVars_none hV
  obtain ⟨l1, l2⟩ := trodAll_len hA
  have hvt : s.plain.varTypes K.prog = [] := by simp [DataSpec.varTypes, ChangeSpec.plain, hvars]
  rw [hvt, List.append_nil, List.append_nil] at hsz
  obtain ⟨xs, ht, hr⟩ := args_open hC (n := n) hA (fun j t v h1 h2 => hval j t v (by simpa using h1) (by simpa using h2)) hopen (fun j t d h1 h2 k hk => by
    have := List.all_eq_true.1 hsz _ (DataW.weights_mem_each h1 h2 k hk)
    simpa using this)
  have := hlaw xs ht (memOf W) W args.toList (fun e W' => e = .returned (.bool true) ∧ Below W.heap.size W W') (memOf_lies W) hr (by
    intro E' S' v' u w' k1 k2 k3 k4
    refine ⟨?_, by have := k2.below; rw [k1.lent] at this; exact this.to⟩
    rcases exportV_exp k4 with ⟨vs, vs', _, h, _⟩ | h
    · simp at h
    · generalize hz : V.d .bo true = z at h
      cases h with
      | d t x =>
        rw [← hz] at k3
        rw [rep_bool_iff.1 k3]
      | nils => simp at hz
      | un => simp at hz
      | own => simp at hz)
  rw [Array.toArray_toList] at this
  refine this.mono ?_
  rintro e W' ⟨rfl, bel⟩
  have hds : s.fn H (ds ++ []) = { results := [.lit (.bool true)], args := ds } := by rw [List.append_nil]; exact hspec ds l2
  refine ⟨_, rfl, ds, [], _, [], p, [], hW', ?_, ?_, ?_, bel.frame _, fun h => by cases h⟩
  · rw [hds, hres, hrs]
    exact trodAll_mk1 (shut_bool htb _)
  · rw [hds]
    exact args_stay hlaid bel hA hread
  · rw [hds, hvars]
    rfl
end Go.Proofs.YtbcfagackcnpkaaDoor.Ev
/- A world for the witness, where the listed variables hold what the row lists. -/
namespace Go.Proofs.YtbcfagackcnpkaaDoor.Ev
open Go Go.RowKit Go.ChangeShapes Go.ChangeAt Go.WideShapes
set_option linter.unusedVariables false
mutual
def flatD : DataW Unit → List Value
  | .lit l => [l.value]
  | .agg ps => flatDs ps
  | _ => []
def flatDs : List (DataW Unit) → List Value
  | [] => []
  | d :: ds => flatD d ++ flatDs ds
end
def putCells (vs : List Value) : Obj → Obj
  | .cells _ t frozen => .cells vs.toArray t frozen
  | o => o
/-- the settled world, globals 0 and 1 holding what the rows list -/
noncomputable def laidWorld (os : Os) : World :=
  { World.holding Tryd.prog os ⟨#[], #[], []⟩ with heap := ((World.holding Tryd.prog os ⟨#[], #[], []⟩).heap.modify 0 (putCells (flatD Rows.laid_unicode_utf8_first))).modify 1 (putCells (flatD Rows.laid_unicode_utf8_acceptRanges)) }
end Go.Proofs.YtbcfagackcnpkaaDoor.Ev
