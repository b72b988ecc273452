/- Parts of the proof, joined by a program of this session: WLog, EvRUnfixed, WRef, WSame, CKv, WTab3, LawRow, LaidW. -/
import Derived.Test.YtbcfagackcnpkaaDoorM3
import Derived.Test.YtbcfagackcnpkaaDoorM2
import Derived.Test.YtbcfagackcnpkaaDoorCards
import Derived.Test.YtbcfagackcnpkaaDoorTie
import Derived.Deep.DeepHandedRow
set_option linter.unusedVariables false
set_option linter.unusedSimpArgs false
set_option linter.unusedSectionVars false
/- Logs of records, and where each one ends. -/
namespace Go.Proofs.YtbcfagackcnpkaaDoor.Ev
open Go Go.RowKit
set_option linter.unusedVariables false
set_option linter.unusedSimpArgs false
set_option maxRecDepth 100000
set_option maxHeartbeats 8000000
def endsL (a : Nat) : List (List Int) → List Int
  | [] => []
  | r :: rs => ((a + (appA a true r).length : Nat) : Int) :: endsL (a + (appA a true r).length) rs
theorem logL_le : ∀ (rs : List (List Int)) (a : Nat), (logL a rs).length ≤ 14 * totB rs + 14 * rs.length
  | [], a => by simp [logL]
  | r :: rs, a => by
    have h1 := logL_le rs (a + (appA a true r).length)
    have h2 : (appA a true r).length ≤ 14 * r.length + 14 := by
      have := appA_le a true r
      split at this
      · omega
      · split at this <;> omega
    rw [logL, List.length_append, totB, List.length_cons]; omega
theorem endsL_len : ∀ (rs : List (List Int)) (a : Nat), (endsL a rs).length = rs.length
  | [], a => rfl
  | r :: rs, a => by rw [endsL, List.length_cons, List.length_cons, endsL_len rs]
theorem apS_at {a : Nat} {r : List Int} (h : r.length ≤ 4194304) : apS a r 50 = (appA a true r, 0) := by
  unfold apS
  rw [if_neg (by omega), show (max (a : Int) 0 % 64).toNat = a % 64 by omega, appA_mod a true r (a % 64) (by omega)]
abbrev i64l : Ty := .li i64
noncomputable def logSp : Sp := ⟨[.li byl], fun x => tst (few5 x.1), fun x => .tup [.own 0 by8 (logL 0 x.1), .own 0 i64 (endsL 0 x.1), .d .bo true]⟩
abbrev logC : Ctx := ⟨rows, (fun | 0 => ([0, 5, 6, 7], [5, 6]) | 1 => ([], [0, 5, 6, 7]) | _ => ([], []))⟩
theorem log_ok (T : Tab) (h1 : T 19 = apSp.ent) : logSp.Ok T logC F17 := by
  rw [on_top h1]
  rintro ⟨(l : List (List Int)), _⟩ hf hp
  have hw : few5 l := tst_iff.1 hp
  have hea := few5_each hw.2
  have hll := logL_le l 0
  have hl1 := hw.1
  have hl2 := hw.2
  obtain ⟨F, hF⟩ : ∃ F : Nat, F = l.length + 5 := ⟨_, rfl⟩
  refine ⟨F, 0, ?_⟩
  show evFn _ _ _ _ _ [.d (.li byl) l] [] _ = some (.tup [vO 0 (logL 0 l), .own 0 i64 (endsL 0 l), .d .bo true] : V)
  conv => lhs; whnf
  try simp (maxSteps := 2000000) (disch := omega) only [nI64, nU64, nU32, nU8, nSubL, nAddL, nAdd, nSub, nDiv, nMod, nZ, nLit, row_3, row_4, row_5, row_16, row_22, row_85, Ty.den, dflt_it, dflt_li, dflt_kv, Int.toNat_natCast, List.take_length, List.drop_zero]
  refine loop_rule (α := Nat × List Int × List Int) (fun s => s.1 ≤ l.length ∧ s.2.1 ++ logL s.2.1.length (l.drop s.1) = logL 0 l ∧ s.2.2 ++ endsL s.2.1.length (l.drop s.1) = endsL 0 l) (fun s => l.length - s.1)
    (fun s => (V.d (.li byl) l :: V.bad :: V.bad :: V.bad :: V.bad :: vO 2 s.2.1 :: V.own 3 i64 s.2.2 :: vI s.1 :: V.bad :: V.bad :: V.bad :: V.bad :: V.bad :: V.bad :: V.bad :: V.bad :: V.bad :: V.bad :: V.bad :: V.bad :: V.bad :: V.bad :: V.bad :: V.bad :: V.bad :: V.bad :: V.bad :: V.bad :: V.bad :: V.bad :: V.bad :: V.bad :: V.bad :: V.bad :: V.bad :: V.bad :: V.bad :: V.bad :: []))
    (fun s => [.fam 0, .fam 0, .fam s.2.1.length, .fam s.2.2.length]) (fun s => some (V.tup [vO 0 (logL 0 l), .own 0 i64 (endsL 0 l), .d .bo true])) ?_ F (0, [], []) ⟨Nat.zero_le _, rfl, rfl⟩ (by show l.length - 0 < F; omega)
  rintro ⟨i, o, es⟩ K ⟨k1, k2, k3⟩ hK
  simp only at k1 k2 k3 hK ⊢
  have ho : o.length + (logL o.length (l.drop i)).length = (logL 0 l).length := by rw [← k2, List.length_append]
  have he : es.length + (l.drop i).length = l.length := by
    have := endsL_len l 0
    rw [← k3, List.length_append, endsL_len] at this
    exact this
  rw [List.length_drop] at he
  conv => lhs; whnf
  try simp (maxSteps := 2000000) (disch := omega) only [nI64, nU64, nU32, nU8, nSubL, nAddL, nAdd, nSub, nDiv, nMod, nZ, nLit, row_3, row_4, row_5, row_16, row_22, row_85, Ty.den, dflt_it, dflt_li, dflt_kv, Int.toNat_natCast, List.take_length, List.drop_zero]
  by_cases hi : i < l.length
  · refine br_go (tst_t (by omega)) ?_
    conv => lhs; whnf
    try simp (maxSteps := 2000000) (disch := omega) only [nI64, nU64, nU32, nU8, nSubL, nAddL, nAdd, nSub, nDiv, nMod, nZ, nLit, row_3, row_4, row_5, row_16, row_22, row_85, Ty.den, dflt_it, dflt_li, dflt_kv, Int.toNat_natCast, List.take_length, List.drop_zero]
    have hd := drop_at (d := ([] : List Int)) hi
    have hri : (l.getD i []).length ≤ 3000 := hea _ (by rw [getD_at hi]; exact List.getElem_mem hi)
    have ea := apS_at (a := o.length) (r := l.getD i []) (by omega)
    rw [hd, logL] at k2
    rw [hd, logL, List.length_append] at ho
    rw [hd, endsL] at k3
    repeat (refine br_go ?_ ?_; (focus (((repeat' first | exact rfl | exact ordB_st rfl | exact ordB_of rfl | apply band | apply tst_t | apply nt_t)  <;> (try dsimp only [Ty.den, dflt_kv]) <;> (try simp only [List.length_append, List.length_cons, List.length_nil, List.length_take, List.length_drop, List.length_replicate]) <;> (first | trivial | assumption | omega | (change (_ : Int) ≤ _; omega) | (change (_ : Int) < _; omega) | (change (_ : Nat) * 1 ≤ _; omega) | (change (_ : Nat) * 48 ≤ _; omega) | (change (_ : Nat) * 24 ≤ _; omega) | (change (_ : Nat) * 8 ≤ _; omega) | (change (_ : Nat) * 64 ≤ _; omega) | decide)); done)); (conv => lhs; whnf); (try simp (maxSteps := 2000000) (disch := omega) only [nI64, nU64, nU32, nU8, nSubL, nAddL, nAdd, nSub, nDiv, nMod, nZ, nLit, row_3, row_4, row_5, row_16, row_22, row_85, Ty.den, dflt_it, dflt_li, dflt_kv, Int.toNat_natCast, List.take_length, List.drop_zero]))
    try simp (maxSteps := 2000000) (disch := omega) only [nI64, nU64, nU32, nU8, nSubL, nAddL, nAdd, nSub, nDiv, nMod, nZ, nLit, row_3, row_4, row_5, row_16, row_22, row_85, Ty.den, dflt_it, dflt_li, dflt_kv, Int.toNat_natCast, List.take_length, List.drop_zero, ea]
    refine br_no (tst_f ((fun h => h rfl))) ?_
    conv => lhs; whnf
    try simp (maxSteps := 2000000) (disch := omega) only [nI64, nU64, nU32, nU8, nSubL, nAddL, nAdd, nSub, nDiv, nMod, nZ, nLit, row_3, row_4, row_5, row_16, row_22, row_85, Ty.den, dflt_it, dflt_li, dflt_kv, Int.toNat_natCast, List.take_length, List.drop_zero]
    repeat (refine br_go ?_ ?_; (focus (((repeat' first | exact rfl | exact ordB_st rfl | exact ordB_of rfl | apply band | apply tst_t | apply nt_t)  <;> (try dsimp only [Ty.den, dflt_kv]) <;> (try simp only [List.length_append, List.length_cons, List.length_nil, List.length_take, List.length_drop, List.length_replicate]) <;> (first | trivial | assumption | omega | (change (_ : Int) ≤ _; omega) | (change (_ : Int) < _; omega) | (change (_ : Nat) * 1 ≤ _; omega) | (change (_ : Nat) * 48 ≤ _; omega) | (change (_ : Nat) * 24 ≤ _; omega) | (change (_ : Nat) * 8 ≤ _; omega) | (change (_ : Nat) * 64 ≤ _; omega) | decide)); done)); (conv => lhs; whnf); (try simp (maxSteps := 2000000) (disch := omega) only [nI64, nU64, nU32, nU8, nSubL, nAddL, nAdd, nSub, nDiv, nMod, nZ, nLit, row_3, row_4, row_5, row_16, row_22, row_85, Ty.den, dflt_it, dflt_li, dflt_kv, Int.toNat_natCast, List.take_length, List.drop_zero]))
    refine hK (i + 1, o ++ appA o.length true (l.getD i []), es ++ [(((o ++ appA o.length true (l.getD i [])).length : Nat) : Int)]) ⟨by show i + 1 ≤ l.length; omega, by rw [← k2, List.length_append, List.append_assoc], by rw [← k3, List.length_append, List.append_assoc]; rfl⟩ (by show l.length - (i + 1) < l.length - i; omega)
  · refine br_no (tst_f (by omega)) ?_
    conv => lhs; whnf
    try simp (maxSteps := 2000000) (disch := omega) only [nI64, nU64, nU32, nU8, nSubL, nAddL, nAdd, nSub, nDiv, nMod, nZ, nLit, row_3, row_4, row_5, row_16, row_22, row_85, Ty.den, dflt_it, dflt_li, dflt_kv, Int.toNat_natCast, List.take_length, List.drop_zero]
    repeat (refine br_go ?_ ?_; (focus (((repeat' first | exact rfl | exact ordB_st rfl | exact ordB_of rfl | apply band | apply tst_t | apply nt_t)  <;> (try dsimp only [Ty.den, dflt_kv]) <;> (try simp only [List.length_append, List.length_cons, List.length_nil, List.length_take, List.length_drop, List.length_replicate]) <;> (first | trivial | assumption | omega | (change (_ : Int) ≤ _; omega) | (change (_ : Int) < _; omega) | (change (_ : Nat) * 1 ≤ _; omega) | (change (_ : Nat) * 48 ≤ _; omega) | (change (_ : Nat) * 24 ≤ _; omega) | (change (_ : Nat) * 8 ≤ _; omega) | (change (_ : Nat) * 64 ≤ _; omega) | decide)); done)); (conv => lhs; whnf); (try simp (maxSteps := 2000000) (disch := omega) only [nI64, nU64, nU32, nU8, nSubL, nAddL, nAdd, nSub, nDiv, nMod, nZ, nLit, row_3, row_4, row_5, row_16, row_22, row_85, Ty.den, dflt_it, dflt_li, dflt_kv, Int.toNat_natCast, List.take_length, List.drop_zero]))
    rw [List.drop_eq_nil_of_le (by omega)] at k2 k3
    rw [← k2, ← k3, logL, endsL, List.append_nil, List.append_nil]
end Go.Proofs.YtbcfagackcnpkaaDoor.Ev
/- Numbers of fixed width, read by the document. -/
namespace Go.Proofs.YtbcfagackcnpkaaDoor.Ev
open Go Go.RowKit
set_option linter.unusedVariables false
set_option maxRecDepth 100000
abbrev runfixedC : Ctx := ⟨rows, (fun | 0 => ([0, 1, 7, 8], [7]) | 1 => ([], [0, 1, 7, 8]) | _ => ([], []))⟩
theorem runfixed_ev (tab : Tab) (l : List Int) (hb : Bytes l) (a m F : Nat) (hm : m ≤ 8) (hml : a + m ≤ l.length) (hl : l.length ≤ 140737488355328) (hF : m < F) : evFn runfixedC tab noCall F F32 [.d (.li (.it .u8)) l, .d (.it .i64) (a : Int), .d (.it .i64) (m : Int)] [] (fun v S => exportF runfixedC F32.resultTypes.toList v S) = some (.d (.it .u64) (leVal ((l.drop a).take m))) := by
  conv => lhs; whnf
  have h0 : IntKind.i64.wrap ((m : Int) - 1) = (m : Int) - 1 := wrapI64 (by omega) (by omega)
  rw [h0]
  refine loop_rule (α := Nat × Int) (fun s => s.1 ≤ m ∧ s.2 = leVal ((l.drop (a + s.1)).take (m - s.1))) (fun s => s.1)
    (fun s => [.d (.li (.it .u8)) l, .d (.it .i64) (a : Int), .bad, .bad, .bad, .bad, .bad, .d (.it .u64) s.2, .d (.it .i64) ((s.1 : Int) - 1), .bad, .bad, .bad, .bad, .bad, .bad, .bad, .bad, .bad, .bad, .bad, .bad, .bad, .bad, .bad, .bad, .bad]) (fun s => [])
    (fun s => some (V.d (.it .u64) (leVal ((l.drop a).take m)))) ?_ F (m, 0) ⟨Nat.le_refl _, by simp [leVal]⟩ hF
  rintro ⟨n, acc⟩ K ⟨hn, hacc⟩ hK
  simp only at hn hacc hK ⊢
  conv => lhs; whnf
  by_cases ha : (n : Int) - 1 ≥ 0
  · refine br_go (tst_t ha) ?_
    conv => lhs; whnf
    have e1 : IntKind.i64.wrap ((a : Int) + ((n : Int) - 1)) = ((a + (n - 1) : Nat) : Int) := by rw [wrapI64 (by omega) (by omega)]; omega
    rw [e1]
    refine br_go (band (tst_t (show (0 : Int) ≤ ((a + (n - 1) : Nat) : Int) by omega)) (tst_t (show ((a + (n - 1) : Nat) : Int) < ((List.length l : Nat) : Int) by omega))) ?_
    conv => lhs; whnf
    have hx := rd_bytes hb ((a + (n - 1) : Nat) : Int)
    have ht := (hb.drop (a + n)).take (m - n)
    have hr := leVal_range ht
    have p : (256 : Nat) ^ ((l.drop (a + n)).take (m - n)).length ≤ 256 ^ 7 := Nat.pow_le_pow_right (by decide) (by rw [List.length_take]; omega)
    have p' : ((256 ^ ((l.drop (a + n)).take (m - n)).length : Nat) : Int) ≤ 72057594037927936 := by
      have : (256 : Nat) ^ 7 = 72057594037927936 := by decide
      omega
    rw [← hacc] at hr
    have e : IntKind.u64.wrap (IntKind.u64.wrap (256 * acc) + IntKind.u64.wrap (rd l ((a + (n - 1) : Nat) : Int))) = leVal ((l.drop (a + (n - 1))).take (m - (n - 1))) := by
      rw [wrapU64_id hx.1 (by omega), wrapU64_id (n := 256 * _) (by omega) (by omega), wrapU64_id (by omega) (by omega), hacc]
      have em : m - (n - 1) = (m - n) + 1 := by omega
      have en : a + (n - 1) + 1 = a + n := by omega
      rw [drop_cons (l := l) (i := a + (n - 1)) (by omega), em, List.take_succ_cons, leVal, en, Int.add_comm]
    have e2 : IntKind.i64.wrap ((n : Int) - 1 - 1) = ((n - 1 : Nat) : Int) - 1 := by rw [wrapI64 (by omega) (by omega)]; omega
    have := hK (n - 1, _) ⟨by omega, e⟩ (by simp only; omega)
    simp only at this
    rw [← e2] at this
    exact this
  · refine br_no (tst_f ha) ?_
    have : n = 0 := by omega
    subst this
    conv => lhs; whnf
    rw [hacc]; rfl
end Go.Proofs.YtbcfagackcnpkaaDoor.Ev
/- Logs: the document lays records down. -/
namespace Go.Proofs.YtbcfagackcnpkaaDoor.Ev
open Go Go.RowKit
set_option linter.unusedVariables false
set_option linter.unusedSimpArgs false
set_option maxRecDepth 100000
set_option maxHeartbeats 8000000
theorem rwfixed_ok (T : Tab) : fixedSp.Ok T rfixedC F40 := by
  rintro ⟨(n : Int), (m : Int), _⟩ hf hp
  have hp : (0 : Int) ≤ m ∧ (m : Int) ≤ 8 := by simpa only [fixedSp, Bool.and_eq_true, tst_iff] using hp
  have := rfixed_ev T n (Int.toNat m) (Int.toNat m + 1) (Int.toNat_le.2 hp.2) (Nat.lt_succ_self _)
  rw [Int.toNat_of_nonneg hp.1] at this
  exact ⟨_, 0, this⟩
noncomputable def summedSp : Sp := ⟨[byl], fun _ => true, fun x => .own 0 by8 (fixedL (sumS x.1) 4)⟩
abbrev summedC : Ctx := ⟨rows, (fun  | _ => ([], []))⟩
theorem summed_ok (T : Tab) (h1 : T 33 = sumSp.ent) (h2 : T 40 = fixedSp.ent) : summedSp.Ok T summedC F36 := by
  rw [on_top h1, on_top h2]
  rintro ⟨(l : List Int), _⟩ hf _
  have hs := sumS_lt l
  obtain ⟨F, hF⟩ : ∃ F : Nat, F = 5 := ⟨_, rfl⟩
  refine ⟨F, 0, ?_⟩
  show evFn _ _ _ _ _ [vB l] [] _ = some (vO 0 (fixedL (sumS l) 4) : V)
  conv => lhs; whnf
  try simp (maxSteps := 2000000) (disch := omega) only [nI64, nU64, nU32, nU8, nSubL, nAddL, nAdd, nSub, nDiv, nMod, nZ, nLit, row_3, row_4, row_5, row_16, row_22, row_85, Ty.den, dflt_it, dflt_li, dflt_kv, Int.toNat_natCast, List.take_length, List.drop_zero]
  repeat (refine br_go ?_ ?_; (focus (((repeat' first | exact rfl | exact ordB_st rfl | exact ordB_of rfl | apply band | apply tst_t | apply nt_t)  <;> (try dsimp only [Ty.den, dflt_kv]) <;> (try simp only [List.length_append, List.length_cons, List.length_nil, List.length_take, List.length_drop, List.length_replicate]) <;> (first | trivial | assumption | omega | (change (_ : Int) ≤ _; omega) | (change (_ : Int) < _; omega) | (change (_ : Nat) * 1 ≤ _; omega) | (change (_ : Nat) * 48 ≤ _; omega) | (change (_ : Nat) * 24 ≤ _; omega) | (change (_ : Nat) * 8 ≤ _; omega) | (change (_ : Nat) * 64 ≤ _; omega) | decide)); done)); (conv => lhs; whnf); (try simp (maxSteps := 2000000) (disch := omega) only [nI64, nU64, nU32, nU8, nSubL, nAddL, nAdd, nSub, nDiv, nMod, nZ, nLit, row_3, row_4, row_5, row_16, row_22, row_85, Ty.den, dflt_it, dflt_li, dflt_kv, Int.toNat_natCast, List.take_length, List.drop_zero]))
noncomputable def rfragSp : Sp := ⟨[i64, byl], fun x => tst (1 ≤ x.1) && tst (x.1 ≤ 4) && tst (List.length x.2.1 ≤ 60), fun x => .own 0 by8 (fragS x.1 x.2.1)⟩
abbrev rfragC : Ctx := ⟨rows, (fun  | _ => ([], []))⟩
theorem rfrag_ok (T : Tab) (h1 : T 36 = summedSp.ent) : rfragSp.Ok T rfragC F29 := by
  rw [on_top h1]
  rintro ⟨(k : Int), (d : List Int), _⟩ hf hp
  have hp : (1 ≤ k ∧ k ≤ 4) ∧ d.length ≤ 60 := by simpa only [rfragSp, Bool.and_eq_true, tst_iff] using hp
  obtain ⟨F, hF⟩ : ∃ F : Nat, F = 5 := ⟨_, rfl⟩
  refine ⟨F, 0, ?_⟩
  show evFn _ _ _ _ _ [vI k, vB d] [] _ = some (vO 0 (fragS k d) : V)
  conv => lhs; whnf
  try simp (maxSteps := 2000000) (disch := omega) only [nI64, nU64, nU32, nU8, nSubL, nAddL, nAdd, nSub, nDiv, nMod, nZ, nLit, row_3, row_4, row_5, row_16, row_22, row_85, Ty.den, dflt_it, dflt_li, dflt_kv, Int.toNat_natCast, List.take_length, List.drop_zero]
  have hx : (fixedL (sumS ([k] ++ d)) 4).length = 4 := fixedL_length _ _
  repeat (refine br_go ?_ ?_; (focus (((repeat' first | exact rfl | exact ordB_st rfl | exact ordB_of rfl | apply band | apply tst_t | apply nt_t)  <;> (try dsimp only [Ty.den, dflt_kv]) <;> (try simp only [List.length_append, List.length_cons, List.length_nil, List.length_take, List.length_drop, List.length_replicate]) <;> (first | trivial | assumption | omega | (change (_ : Int) ≤ _; omega) | (change (_ : Int) < _; omega) | (change (_ : Nat) * 1 ≤ _; omega) | (change (_ : Nat) * 48 ≤ _; omega) | (change (_ : Nat) * 24 ≤ _; omega) | (change (_ : Nat) * 8 ≤ _; omega) | (change (_ : Nat) * 64 ≤ _; omega) | decide)); done)); (conv => lhs; whnf); (try simp (maxSteps := 2000000) (disch := omega) only [nI64, nU64, nU32, nU8, nSubL, nAddL, nAdd, nSub, nDiv, nMod, nZ, nLit, row_3, row_4, row_5, row_16, row_22, row_85, Ty.den, dflt_it, dflt_li, dflt_kv, Int.toNat_natCast, List.take_length, List.drop_zero]))
  have e1 : (d.length : Int) % 256 = ((d.length % 256 : Nat) : Int) := by omega
  have e2 : (d.length : Int) / 256 = ((d.length / 256 % 256 : Nat) : Int) := by omega
  rw [e1, e2, List.append_assoc]
  rfl
abbrev rapC : Ctx := ⟨rows, (fun | 0 => ([0, 1, 6, 7], [4, 5]) | 1 => ([], [0, 1, 6, 7]) | 2 => ([], [0, 1, 6, 9, 10, 11]) | _ => ([], []))⟩
theorem rappend_ok (T : Tab) (h3 : T 29 = rfragSp.ent) : apSp.Ok T rapC F21 := by
  rw [on_top h3]
  rintro ⟨(a : Int), (l : List Int), _⟩ hf hp
  obtain ⟨F, hF⟩ : ∃ F : Nat, F = 3 * l.length + 10 := ⟨_, rfl⟩
  refine ⟨F, 0, ?_⟩
  show evFn _ _ _ _ _ [vI a, vB l] [] _ = some (.tup [vO 0 (apS a l 50).1, vI (apS a l 50).2] : V)
  conv => lhs; whnf
  try simp (maxSteps := 2000000) (disch := omega) only [nI64, nU64, nU32, nU8, nSubL, nAddL, nAdd, nSub, nDiv, nMod, nZ, nLit, row_3, row_4, row_5, row_16, row_22, row_85, Ty.den, dflt_it, dflt_li, dflt_kv, Int.toNat_natCast, List.take_length, List.drop_zero]
  unfold apS
  by_cases g1 : l.length > 4194304
  · rw [if_pos g1]
    refine br_go (tst_t (by omega)) ?_
    conv => lhs; whnf
    try simp (maxSteps := 2000000) (disch := omega) only [nI64, nU64, nU32, nU8, nSubL, nAddL, nAdd, nSub, nDiv, nMod, nZ, nLit, row_3, row_4, row_5, row_16, row_22, row_85, Ty.den, dflt_it, dflt_li, dflt_kv, Int.toNat_natCast, List.take_length, List.drop_zero]
    repeat (refine br_go ?_ ?_; (focus (((repeat' first | exact rfl | exact ordB_st rfl | exact ordB_of rfl | apply band | apply tst_t | apply nt_t)  <;> (try dsimp only [Ty.den, dflt_kv]) <;> (try simp only [List.length_append, List.length_cons, List.length_nil, List.length_take, List.length_drop, List.length_replicate]) <;> (first | trivial | assumption | omega | (change (_ : Int) ≤ _; omega) | (change (_ : Int) < _; omega) | (change (_ : Nat) * 1 ≤ _; omega) | (change (_ : Nat) * 48 ≤ _; omega) | (change (_ : Nat) * 24 ≤ _; omega) | (change (_ : Nat) * 8 ≤ _; omega) | (change (_ : Nat) * 64 ≤ _; omega) | decide)); done)); (conv => lhs; whnf); (try simp (maxSteps := 2000000) (disch := omega) only [nI64, nU64, nU32, nU8, nSubL, nAddL, nAdd, nSub, nDiv, nMod, nZ, nLit, row_3, row_4, row_5, row_16, row_22, row_85, Ty.den, dflt_it, dflt_li, dflt_kv, Int.toNat_natCast, List.take_length, List.drop_zero]))
  · rw [if_neg g1]
    refine br_no (tst_f (by omega)) ?_
    conv => lhs; whnf
    try simp (maxSteps := 2000000) (disch := omega) only [nI64, nU64, nU32, nU8, nSubL, nAddL, nAdd, nSub, nDiv, nMod, nZ, nLit, row_3, row_4, row_5, row_16, row_22, row_85, Ty.den, dflt_it, dflt_li, dflt_kv, Int.toNat_natCast, List.take_length, List.drop_zero]
    repeat (refine br_go ?_ ?_; (focus (((repeat' first | exact rfl | exact ordB_st rfl | exact ordB_of rfl | apply band | apply tst_t | apply nt_t)  <;> (try dsimp only [Ty.den, dflt_kv]) <;> (try simp only [List.length_append, List.length_cons, List.length_nil, List.length_take, List.length_drop, List.length_replicate]) <;> (first | trivial | assumption | omega | (change (_ : Int) ≤ _; omega) | (change (_ : Int) < _; omega) | (change (_ : Nat) * 1 ≤ _; omega) | (change (_ : Nat) * 48 ≤ _; omega) | (change (_ : Nat) * 24 ≤ _; omega) | (change (_ : Nat) * 8 ≤ _; omega) | (change (_ : Nat) * 64 ≤ _; omega) | decide)); done)); (conv => lhs; whnf); (try simp (maxSteps := 2000000) (disch := omega) only [nI64, nU64, nU32, nU8, nSubL, nAddL, nAdd, nSub, nDiv, nMod, nZ, nLit, row_3, row_4, row_5, row_16, row_22, row_85, Ty.den, dflt_it, dflt_li, dflt_kv, Int.toNat_natCast, List.take_length, List.drop_zero]))
    obtain ⟨a0, ea⟩ : ∃ a0 : Nat, max a 0 % 64 = (a0 : Int) := ⟨(max a 0 % 64).toNat, by omega⟩
    try simp (maxSteps := 2000000) (disch := omega) only [nI64, nU64, nU32, nU8, nSubL, nAddL, nAdd, nSub, nDiv, nMod, nZ, nLit, row_3, row_4, row_5, row_16, row_22, row_85, Ty.den, dflt_it, dflt_li, dflt_kv, Int.toNat_natCast, List.take_length, List.drop_zero, mxI, ea]
    have hfl : (appA a0 true l).length ≤ 14 * l.length + 14 := by
      have := appA_le a0 true l
      split at this
      · omega
      · split at this <;> omega
    have ha0 : a0 < 64 := by omega
    generalize hfu : appA a0 true l = fu at *
    refine loop_rule (α := Nat × List Int × List Int × Bool) (fun s => s.1 < 64 ∧ s.2.2.1 ++ appA s.1 (!s.2.2.2) s.2.1 = fu ∧ s.2.1.length ≤ l.length)
      (fun s => 3 * s.2.1.length + (if room s.1 < 7 then 2 else if room s.1 = 7 then 1 else 0))
      (fun s => (vI s.1 :: vB s.2.1 :: V.bad :: V.bad :: V.bad :: V.bad :: vO 3 s.2.2.1 :: V.d .bo s.2.2.2 :: V.bad :: V.bad :: V.bad :: V.bad :: V.bad :: V.bad :: V.bad :: V.bad :: V.bad :: V.bad :: V.bad :: V.bad :: V.bad :: V.bad :: V.bad :: V.bad :: V.bad :: V.bad :: V.bad :: V.bad :: V.bad :: V.bad :: V.bad :: V.bad :: V.bad :: V.bad :: V.bad :: V.bad :: V.bad :: V.bad :: V.bad :: V.bad :: V.bad :: V.bad :: V.bad :: V.bad :: V.bad :: V.bad :: V.bad :: V.bad :: V.bad :: V.bad :: V.bad :: V.bad :: V.bad :: V.bad :: V.bad :: V.bad :: V.bad :: V.bad :: V.bad :: V.bad :: V.bad :: V.bad :: []))
      (fun s => [.fam 0, .gone, .gone, .fam s.2.2.1.length])
      (fun s => some (V.tup [vO 0 fu, vI 0])) ?_ F (a0, l, [], false) ⟨ha0, hfu, Nat.le_refl _⟩ (by simp only; split; omega; split <;> omega)
    rintro ⟨p, r, o, g⟩ K ⟨k1, k2, k3⟩ hK
    simp only at k1 k2 k3 hK ⊢
    have hr : room p = 64 - p := by unfold room; omega
    have hol : o.length + (appA p (!g) r).length = fu.length := by rw [← k2, List.length_append]
    have h64 : ∀ (b : Bool) (m : List Int), appA (p + room p) b m = appA 0 b m := fun b m => appA_mod 0 b m (p + room p) (by omega)
    conv => lhs; whnf
    try simp (maxSteps := 2000000) (disch := omega) only [nI64, nU64, nU32, nU8, nSubL, nAddL, nAdd, nSub, nDiv, nMod, nZ, nLit, row_3, row_4, row_5, row_16, row_22, row_85, Ty.den, dflt_it, dflt_li, dflt_kv, Int.toNat_natCast, List.take_length, List.drop_zero]
    by_cases h7 : room p < 7
    · refine br_go (tst_t (by omega)) ?_
      conv => lhs; whnf
      try simp (maxSteps := 2000000) (disch := omega) only [nI64, nU64, nU32, nU8, nSubL, nAddL, nAdd, nSub, nDiv, nMod, nZ, nLit, row_3, row_4, row_5, row_16, row_22, row_85, Ty.den, dflt_it, dflt_li, dflt_kv, Int.toNat_natCast, List.take_length, List.drop_zero]
      have hpd := appA_pad (!g) r h7
      rw [hpd, ← List.append_assoc, h64] at k2
      repeat (refine br_go ?_ ?_; (focus (((repeat' first | exact rfl | exact ordB_st rfl | exact ordB_of rfl | apply band | apply tst_t | apply nt_t)  <;> (try dsimp only [Ty.den, dflt_kv]) <;> (try simp only [List.length_append, List.length_cons, List.length_nil, List.length_take, List.length_drop, List.length_replicate]) <;> (first | trivial | assumption | omega | (change (_ : Int) ≤ _; omega) | (change (_ : Int) < _; omega) | (change (_ : Nat) * 1 ≤ _; omega) | (change (_ : Nat) * 48 ≤ _; omega) | (change (_ : Nat) * 24 ≤ _; omega) | (change (_ : Nat) * 8 ≤ _; omega) | (change (_ : Nat) * 64 ≤ _; omega) | decide)); done)); (conv => lhs; whnf); (try simp (maxSteps := 2000000) (disch := omega) only [nI64, nU64, nU32, nU8, nSubL, nAddL, nAdd, nSub, nDiv, nMod, nZ, nLit, row_3, row_4, row_5, row_16, row_22, row_85, Ty.den, dflt_it, dflt_li, dflt_kv, Int.toNat_natCast, List.take_length, List.drop_zero]))
      have en : (64 - (p : Int)).toNat = room p := by omega
      try simp (maxSteps := 2000000) (disch := omega) only [nI64, nU64, nU32, nU8, nSubL, nAddL, nAdd, nSub, nDiv, nMod, nZ, nLit, row_3, row_4, row_5, row_16, row_22, row_85, Ty.den, dflt_it, dflt_li, dflt_kv, Int.toNat_natCast, List.take_length, List.drop_zero, en]
      refine hK (0, r, o ++ List.replicate (room p) 0, g) ⟨by show 0 < 64; decide, k2, k3⟩ ?_
      simp only
      rw [if_pos h7, show room 0 = 64 from rfl, if_neg (by decide), if_neg (by decide)]
      omega
    · refine br_no (tst_f (by omega)) ?_
      conv => lhs; whnf
      try simp (maxSteps := 2000000) (disch := omega) only [nI64, nU64, nU32, nU8, nSubL, nAddL, nAdd, nSub, nDiv, nMod, nZ, nLit, row_3, row_4, row_5, row_16, row_22, row_85, Ty.den, dflt_it, dflt_li, dflt_kv, Int.toNat_natCast, List.take_length, List.drop_zero]
      repeat (refine br_go ?_ ?_; (focus (((repeat' first | exact rfl | exact ordB_st rfl | exact ordB_of rfl | apply band | apply tst_t | apply nt_t)  <;> (try dsimp only [Ty.den, dflt_kv]) <;> (try simp only [List.length_append, List.length_cons, List.length_nil, List.length_take, List.length_drop, List.length_replicate]) <;> (first | trivial | assumption | omega | (change (_ : Int) ≤ _; omega) | (change (_ : Int) < _; omega) | (change (_ : Nat) * 1 ≤ _; omega) | (change (_ : Nat) * 48 ≤ _; omega) | (change (_ : Nat) * 24 ≤ _; omega) | (change (_ : Nat) * 8 ≤ _; omega) | (change (_ : Nat) * 64 ≤ _; omega) | decide)); done)); (conv => lhs; whnf); (try simp (maxSteps := 2000000) (disch := omega) only [nI64, nU64, nU32, nU8, nSubL, nAddL, nAdd, nSub, nDiv, nMod, nZ, nLit, row_3, row_4, row_5, row_16, row_22, row_85, Ty.den, dflt_it, dflt_li, dflt_kv, Int.toNat_natCast, List.take_length, List.drop_zero]))
      try simp (maxSteps := 2000000) (disch := omega) only [nI64, nU64, nU32, nU8, nSubL, nAddL, nAdd, nSub, nDiv, nMod, nZ, nLit, row_3, row_4, row_5, row_16, row_22, row_85, Ty.den, dflt_it, dflt_li, dflt_kv, Int.toNat_natCast, List.take_length, List.drop_zero, mnI]
      by_cases h8 : r.length ≤ room p - 7
      · have em : min (64 - (p : Int) - 7) (r.length : Int) = (r.length : Int) := by omega
        have hpd := appA_end (!g) h7 h8
        rw [hpd] at k2
        rw [hpd, fragS_len] at hol
        try simp (maxSteps := 2000000) (disch := omega) only [nI64, nU64, nU32, nU8, nSubL, nAddL, nAdd, nSub, nDiv, nMod, nZ, nLit, row_3, row_4, row_5, row_16, row_22, row_85, Ty.den, dflt_it, dflt_li, dflt_kv, Int.toNat_natCast, List.take_length, List.drop_zero, em]
        cases g with
        | false =>
          conv => lhs; whnf
          try simp (maxSteps := 2000000) (disch := omega) only [nI64, nU64, nU32, nU8, nSubL, nAddL, nAdd, nSub, nDiv, nMod, nZ, nLit, row_3, row_4, row_5, row_16, row_22, row_85, Ty.den, dflt_it, dflt_li, dflt_kv, Int.toNat_natCast, List.take_length, List.drop_zero]
          repeat (refine br_go ?_ ?_; (focus (((repeat' first | exact rfl | exact ordB_st rfl | exact ordB_of rfl | apply band | apply tst_t | apply nt_t)  <;> (try dsimp only [Ty.den, dflt_kv]) <;> (try simp only [List.length_append, List.length_cons, List.length_nil, List.length_take, List.length_drop, List.length_replicate]) <;> (first | trivial | assumption | omega | (change (_ : Int) ≤ _; omega) | (change (_ : Int) < _; omega) | (change (_ : Nat) * 1 ≤ _; omega) | (change (_ : Nat) * 48 ≤ _; omega) | (change (_ : Nat) * 24 ≤ _; omega) | (change (_ : Nat) * 8 ≤ _; omega) | (change (_ : Nat) * 64 ≤ _; omega) | decide)); done)); (conv => lhs; whnf); (try simp (maxSteps := 2000000) (disch := omega) only [nI64, nU64, nU32, nU8, nSubL, nAddL, nAdd, nSub, nDiv, nMod, nZ, nLit, row_3, row_4, row_5, row_16, row_22, row_85, Ty.den, dflt_it, dflt_li, dflt_kv, Int.toNat_natCast, List.take_length, List.drop_zero]))
          try simp (maxSteps := 2000000) (disch := omega) only [nI64, nU64, nU32, nU8, nSubL, nAddL, nAdd, nSub, nDiv, nMod, nZ, nLit, row_3, row_4, row_5, row_16, row_22, row_85, Ty.den, dflt_it, dflt_li, dflt_kv, Int.toNat_natCast, List.take_length, List.drop_zero, fragS_len]
          repeat (refine br_go ?_ ?_; (focus (((repeat' first | exact rfl | exact ordB_st rfl | exact ordB_of rfl | apply band | apply tst_t | apply nt_t)  <;> (try dsimp only [Ty.den, dflt_kv]) <;> (try simp only [List.length_append, List.length_cons, List.length_nil, List.length_take, List.length_drop, List.length_replicate]) <;> (first | trivial | assumption | omega | (change (_ : Int) ≤ _; omega) | (change (_ : Int) < _; omega) | (change (_ : Nat) * 1 ≤ _; omega) | (change (_ : Nat) * 48 ≤ _; omega) | (change (_ : Nat) * 24 ≤ _; omega) | (change (_ : Nat) * 8 ≤ _; omega) | (change (_ : Nat) * 64 ≤ _; omega) | decide)); done)); (conv => lhs; whnf); (try simp (maxSteps := 2000000) (disch := omega) only [nI64, nU64, nU32, nU8, nSubL, nAddL, nAdd, nSub, nDiv, nMod, nZ, nLit, row_3, row_4, row_5, row_16, row_22, row_85, Ty.den, dflt_it, dflt_li, dflt_kv, Int.toNat_natCast, List.take_length, List.drop_zero]))
          rw [← k2]
          rfl
        | true =>
          conv => lhs; whnf
          try simp (maxSteps := 2000000) (disch := omega) only [nI64, nU64, nU32, nU8, nSubL, nAddL, nAdd, nSub, nDiv, nMod, nZ, nLit, row_3, row_4, row_5, row_16, row_22, row_85, Ty.den, dflt_it, dflt_li, dflt_kv, Int.toNat_natCast, List.take_length, List.drop_zero]
          repeat (refine br_go ?_ ?_; (focus (((repeat' first | exact rfl | exact ordB_st rfl | exact ordB_of rfl | apply band | apply tst_t | apply nt_t)  <;> (try dsimp only [Ty.den, dflt_kv]) <;> (try simp only [List.length_append, List.length_cons, List.length_nil, List.length_take, List.length_drop, List.length_replicate]) <;> (first | trivial | assumption | omega | (change (_ : Int) ≤ _; omega) | (change (_ : Int) < _; omega) | (change (_ : Nat) * 1 ≤ _; omega) | (change (_ : Nat) * 48 ≤ _; omega) | (change (_ : Nat) * 24 ≤ _; omega) | (change (_ : Nat) * 8 ≤ _; omega) | (change (_ : Nat) * 64 ≤ _; omega) | decide)); done)); (conv => lhs; whnf); (try simp (maxSteps := 2000000) (disch := omega) only [nI64, nU64, nU32, nU8, nSubL, nAddL, nAdd, nSub, nDiv, nMod, nZ, nLit, row_3, row_4, row_5, row_16, row_22, row_85, Ty.den, dflt_it, dflt_li, dflt_kv, Int.toNat_natCast, List.take_length, List.drop_zero]))
          try simp (maxSteps := 2000000) (disch := omega) only [nI64, nU64, nU32, nU8, nSubL, nAddL, nAdd, nSub, nDiv, nMod, nZ, nLit, row_3, row_4, row_5, row_16, row_22, row_85, Ty.den, dflt_it, dflt_li, dflt_kv, Int.toNat_natCast, List.take_length, List.drop_zero, fragS_len]
          repeat (refine br_go ?_ ?_; (focus (((repeat' first | exact rfl | exact ordB_st rfl | exact ordB_of rfl | apply band | apply tst_t | apply nt_t)  <;> (try dsimp only [Ty.den, dflt_kv]) <;> (try simp only [List.length_append, List.length_cons, List.length_nil, List.length_take, List.length_drop, List.length_replicate]) <;> (first | trivial | assumption | omega | (change (_ : Int) ≤ _; omega) | (change (_ : Int) < _; omega) | (change (_ : Nat) * 1 ≤ _; omega) | (change (_ : Nat) * 48 ≤ _; omega) | (change (_ : Nat) * 24 ≤ _; omega) | (change (_ : Nat) * 8 ≤ _; omega) | (change (_ : Nat) * 64 ≤ _; omega) | decide)); done)); (conv => lhs; whnf); (try simp (maxSteps := 2000000) (disch := omega) only [nI64, nU64, nU32, nU8, nSubL, nAddL, nAdd, nSub, nDiv, nMod, nZ, nLit, row_3, row_4, row_5, row_16, row_22, row_85, Ty.den, dflt_it, dflt_li, dflt_kv, Int.toNat_natCast, List.take_length, List.drop_zero]))
          rw [← k2]
          rfl
      · have em : min (64 - (p : Int) - 7) (r.length : Int) = ((room p - 7 : Nat) : Int) := by omega
        have htl : (List.take (room p - 7) r).length = room p - 7 := by rw [List.length_take]; omega
        have hpd := appA_go (!g) h7 h8
        rw [hpd, ← List.append_assoc, h64] at k2
        rw [hpd, List.length_append, fragS_len, htl] at hol
        have ef : tst (((room p - 7 : Nat) : Int) = (r.length : Int)) = false := tst_f (by omega)
        have ez : ((p : Int) + 7 + ((room p - 7 : Nat) : Int)) % 64 = 0 := by omega
        try simp (maxSteps := 2000000) (disch := omega) only [nI64, nU64, nU32, nU8, nSubL, nAddL, nAdd, nSub, nDiv, nMod, nZ, nLit, row_3, row_4, row_5, row_16, row_22, row_85, Ty.den, dflt_it, dflt_li, dflt_kv, Int.toNat_natCast, List.take_length, List.drop_zero, em, ef]
        cases g with
        | false =>
          conv => lhs; whnf
          try simp (maxSteps := 2000000) (disch := omega) only [nI64, nU64, nU32, nU8, nSubL, nAddL, nAdd, nSub, nDiv, nMod, nZ, nLit, row_3, row_4, row_5, row_16, row_22, row_85, Ty.den, dflt_it, dflt_li, dflt_kv, Int.toNat_natCast, List.take_length, List.drop_zero]
          repeat (refine br_go ?_ ?_; (focus (((repeat' first | exact rfl | exact ordB_st rfl | exact ordB_of rfl | apply band | apply tst_t | apply nt_t)  <;> (try dsimp only [Ty.den, dflt_kv]) <;> (try simp only [List.length_append, List.length_cons, List.length_nil, List.length_take, List.length_drop, List.length_replicate]) <;> (first | trivial | assumption | omega | (change (_ : Int) ≤ _; omega) | (change (_ : Int) < _; omega) | (change (_ : Nat) * 1 ≤ _; omega) | (change (_ : Nat) * 48 ≤ _; omega) | (change (_ : Nat) * 24 ≤ _; omega) | (change (_ : Nat) * 8 ≤ _; omega) | (change (_ : Nat) * 64 ≤ _; omega) | decide)); done)); (conv => lhs; whnf); (try simp (maxSteps := 2000000) (disch := omega) only [nI64, nU64, nU32, nU8, nSubL, nAddL, nAdd, nSub, nDiv, nMod, nZ, nLit, row_3, row_4, row_5, row_16, row_22, row_85, Ty.den, dflt_it, dflt_li, dflt_kv, Int.toNat_natCast, List.take_length, List.drop_zero]))
          try simp (maxSteps := 2000000) (disch := omega) only [nI64, nU64, nU32, nU8, nSubL, nAddL, nAdd, nSub, nDiv, nMod, nZ, nLit, row_3, row_4, row_5, row_16, row_22, row_85, Ty.den, dflt_it, dflt_li, dflt_kv, Int.toNat_natCast, List.take_length, List.drop_zero, fragS_len, htl]
          repeat (refine br_go ?_ ?_; (focus (((repeat' first | exact rfl | exact ordB_st rfl | exact ordB_of rfl | apply band | apply tst_t | apply nt_t)  <;> (try dsimp only [Ty.den, dflt_kv]) <;> (try simp only [List.length_append, List.length_cons, List.length_nil, List.length_take, List.length_drop, List.length_replicate]) <;> (first | trivial | assumption | omega | (change (_ : Int) ≤ _; omega) | (change (_ : Int) < _; omega) | (change (_ : Nat) * 1 ≤ _; omega) | (change (_ : Nat) * 48 ≤ _; omega) | (change (_ : Nat) * 24 ≤ _; omega) | (change (_ : Nat) * 8 ≤ _; omega) | (change (_ : Nat) * 64 ≤ _; omega) | decide)); done)); (conv => lhs; whnf); (try simp (maxSteps := 2000000) (disch := omega) only [nI64, nU64, nU32, nU8, nSubL, nAddL, nAdd, nSub, nDiv, nMod, nZ, nLit, row_3, row_4, row_5, row_16, row_22, row_85, Ty.den, dflt_it, dflt_li, dflt_kv, Int.toNat_natCast, List.take_length, List.drop_zero]))
          rw [ez]
          refine hK (0, List.drop (room p - 7) r, o ++ fragS 2 (List.take (room p - 7) r), true) ⟨by show 0 < 64; decide, k2, by show (List.drop _ r).length ≤ l.length; rw [List.length_drop]; omega⟩ ?_
          simp only
          rw [show room 0 = 64 from rfl, if_neg (by decide), if_neg (by decide), List.length_drop, if_neg h7]
          split <;> omega
        | true =>
          conv => lhs; whnf
          try simp (maxSteps := 2000000) (disch := omega) only [nI64, nU64, nU32, nU8, nSubL, nAddL, nAdd, nSub, nDiv, nMod, nZ, nLit, row_3, row_4, row_5, row_16, row_22, row_85, Ty.den, dflt_it, dflt_li, dflt_kv, Int.toNat_natCast, List.take_length, List.drop_zero]
          repeat (refine br_go ?_ ?_; (focus (((repeat' first | exact rfl | exact ordB_st rfl | exact ordB_of rfl | apply band | apply tst_t | apply nt_t)  <;> (try dsimp only [Ty.den, dflt_kv]) <;> (try simp only [List.length_append, List.length_cons, List.length_nil, List.length_take, List.length_drop, List.length_replicate]) <;> (first | trivial | assumption | omega | (change (_ : Int) ≤ _; omega) | (change (_ : Int) < _; omega) | (change (_ : Nat) * 1 ≤ _; omega) | (change (_ : Nat) * 48 ≤ _; omega) | (change (_ : Nat) * 24 ≤ _; omega) | (change (_ : Nat) * 8 ≤ _; omega) | (change (_ : Nat) * 64 ≤ _; omega) | decide)); done)); (conv => lhs; whnf); (try simp (maxSteps := 2000000) (disch := omega) only [nI64, nU64, nU32, nU8, nSubL, nAddL, nAdd, nSub, nDiv, nMod, nZ, nLit, row_3, row_4, row_5, row_16, row_22, row_85, Ty.den, dflt_it, dflt_li, dflt_kv, Int.toNat_natCast, List.take_length, List.drop_zero]))
          try simp (maxSteps := 2000000) (disch := omega) only [nI64, nU64, nU32, nU8, nSubL, nAddL, nAdd, nSub, nDiv, nMod, nZ, nLit, row_3, row_4, row_5, row_16, row_22, row_85, Ty.den, dflt_it, dflt_li, dflt_kv, Int.toNat_natCast, List.take_length, List.drop_zero, fragS_len, htl]
          repeat (refine br_go ?_ ?_; (focus (((repeat' first | exact rfl | exact ordB_st rfl | exact ordB_of rfl | apply band | apply tst_t | apply nt_t)  <;> (try dsimp only [Ty.den, dflt_kv]) <;> (try simp only [List.length_append, List.length_cons, List.length_nil, List.length_take, List.length_drop, List.length_replicate]) <;> (first | trivial | assumption | omega | (change (_ : Int) ≤ _; omega) | (change (_ : Int) < _; omega) | (change (_ : Nat) * 1 ≤ _; omega) | (change (_ : Nat) * 48 ≤ _; omega) | (change (_ : Nat) * 24 ≤ _; omega) | (change (_ : Nat) * 8 ≤ _; omega) | (change (_ : Nat) * 64 ≤ _; omega) | decide)); done)); (conv => lhs; whnf); (try simp (maxSteps := 2000000) (disch := omega) only [nI64, nU64, nU32, nU8, nSubL, nAddL, nAdd, nSub, nDiv, nMod, nZ, nLit, row_3, row_4, row_5, row_16, row_22, row_85, Ty.den, dflt_it, dflt_li, dflt_kv, Int.toNat_natCast, List.take_length, List.drop_zero]))
          rw [ez]
          refine hK (0, List.drop (room p - 7) r, o ++ fragS 3 (List.take (room p - 7) r), true) ⟨by show 0 < 64; decide, k2, by show (List.drop _ r).length ≤ l.length; rw [List.length_drop]; omega⟩ ?_
          simp only
          rw [show room 0 = 64 from rfl, if_neg (by decide), if_neg (by decide), List.length_drop, if_neg h7]
          split <;> omega
abbrev rlenC : Ctx := ⟨rows, (fun  | _ => ([], []))⟩
theorem rwlen_ok (T : Tab) (h1 : T 21 = apSp.ent) : lenSp.Ok T rlenC F23 := by
  rw [on_top h1]
  rintro ⟨(a : Int), (n : Int), _⟩ hf _
  obtain ⟨F, hF⟩ : ∃ F : Nat, F = 5 := ⟨_, rfl⟩
  refine ⟨F, 0, ?_⟩
  show evFn _ _ _ _ _ [vI a, vI n] [] _ = some (vI (lenS a n : Nat) : V)
  conv => lhs; whnf
  try simp (maxSteps := 2000000) (disch := omega) only [nI64, nU64, nU32, nU8, nSubL, nAddL, nAdd, nSub, nDiv, nMod, nZ, nLit, row_3, row_4, row_5, row_16, row_22, row_85, Ty.den, dflt_it, dflt_li, dflt_kv, Int.toNat_natCast, List.take_length, List.drop_zero]
  unfold lenS
  by_cases g1 : n < 0
  · rw [if_pos (.inl g1)]
    refine br_go (tst_t (g1)) ?_
    conv => lhs; whnf
    try simp (maxSteps := 2000000) (disch := omega) only [nI64, nU64, nU32, nU8, nSubL, nAddL, nAdd, nSub, nDiv, nMod, nZ, nLit, row_3, row_4, row_5, row_16, row_22, row_85, Ty.den, dflt_it, dflt_li, dflt_kv, Int.toNat_natCast, List.take_length, List.drop_zero]
    repeat (refine br_go ?_ ?_; (focus (((repeat' first | exact rfl | exact ordB_st rfl | exact ordB_of rfl | apply band | apply tst_t | apply nt_t)  <;> (try dsimp only [Ty.den, dflt_kv]) <;> (try simp only [List.length_append, List.length_cons, List.length_nil, List.length_take, List.length_drop, List.length_replicate]) <;> (first | trivial | assumption | omega | (change (_ : Int) ≤ _; omega) | (change (_ : Int) < _; omega) | (change (_ : Nat) * 1 ≤ _; omega) | (change (_ : Nat) * 48 ≤ _; omega) | (change (_ : Nat) * 24 ≤ _; omega) | (change (_ : Nat) * 8 ≤ _; omega) | (change (_ : Nat) * 64 ≤ _; omega) | decide)); done)); (conv => lhs; whnf); (try simp (maxSteps := 2000000) (disch := omega) only [nI64, nU64, nU32, nU8, nSubL, nAddL, nAdd, nSub, nDiv, nMod, nZ, nLit, row_3, row_4, row_5, row_16, row_22, row_85, Ty.den, dflt_it, dflt_li, dflt_kv, Int.toNat_natCast, List.take_length, List.drop_zero]))
    rfl
  · refine br_no (tst_f (g1)) ?_
    conv => lhs; whnf
    try simp (maxSteps := 2000000) (disch := omega) only [nI64, nU64, nU32, nU8, nSubL, nAddL, nAdd, nSub, nDiv, nMod, nZ, nLit, row_3, row_4, row_5, row_16, row_22, row_85, Ty.den, dflt_it, dflt_li, dflt_kv, Int.toNat_natCast, List.take_length, List.drop_zero]
    by_cases g2 : n > 4194304
    · rw [if_pos (.inr g2)]
      refine br_go (tst_t (g2)) ?_
      conv => lhs; whnf
      try simp (maxSteps := 2000000) (disch := omega) only [nI64, nU64, nU32, nU8, nSubL, nAddL, nAdd, nSub, nDiv, nMod, nZ, nLit, row_3, row_4, row_5, row_16, row_22, row_85, Ty.den, dflt_it, dflt_li, dflt_kv, Int.toNat_natCast, List.take_length, List.drop_zero]
      repeat (refine br_go ?_ ?_; (focus (((repeat' first | exact rfl | exact ordB_st rfl | exact ordB_of rfl | apply band | apply tst_t | apply nt_t)  <;> (try dsimp only [Ty.den, dflt_kv]) <;> (try simp only [List.length_append, List.length_cons, List.length_nil, List.length_take, List.length_drop, List.length_replicate]) <;> (first | trivial | assumption | omega | (change (_ : Int) ≤ _; omega) | (change (_ : Int) < _; omega) | (change (_ : Nat) * 1 ≤ _; omega) | (change (_ : Nat) * 48 ≤ _; omega) | (change (_ : Nat) * 24 ≤ _; omega) | (change (_ : Nat) * 8 ≤ _; omega) | (change (_ : Nat) * 64 ≤ _; omega) | decide)); done)); (conv => lhs; whnf); (try simp (maxSteps := 2000000) (disch := omega) only [nI64, nU64, nU32, nU8, nSubL, nAddL, nAdd, nSub, nDiv, nMod, nZ, nLit, row_3, row_4, row_5, row_16, row_22, row_85, Ty.den, dflt_it, dflt_li, dflt_kv, Int.toNat_natCast, List.take_length, List.drop_zero]))
      rfl
    · rw [if_neg (by omega)]
      refine br_no (tst_f (g2)) ?_
      conv => lhs; whnf
      try simp (maxSteps := 2000000) (disch := omega) only [nI64, nU64, nU32, nU8, nSubL, nAddL, nAdd, nSub, nDiv, nMod, nZ, nLit, row_3, row_4, row_5, row_16, row_22, row_85, Ty.den, dflt_it, dflt_li, dflt_kv, Int.toNat_natCast, List.take_length, List.drop_zero]
      obtain ⟨m, rfl⟩ : ∃ m : Nat, n = m := ⟨n.toNat, by omega⟩
      have e1 : apS a (List.replicate m 0) 50 = (appA (max a 0 % 64).toNat true (List.replicate m 0), 0) := by
        unfold apS; rw [if_neg (by rw [List.length_replicate]; omega)]
      repeat (refine br_go ?_ ?_; (focus (((repeat' first | exact rfl | exact ordB_st rfl | exact ordB_of rfl | apply band | apply tst_t | apply nt_t)  <;> (try dsimp only [Ty.den, dflt_kv]) <;> (try simp only [List.length_append, List.length_cons, List.length_nil, List.length_take, List.length_drop, List.length_replicate]) <;> (first | trivial | assumption | omega | (change (_ : Int) ≤ _; omega) | (change (_ : Int) < _; omega) | (change (_ : Nat) * 1 ≤ _; omega) | (change (_ : Nat) * 48 ≤ _; omega) | (change (_ : Nat) * 24 ≤ _; omega) | (change (_ : Nat) * 8 ≤ _; omega) | (change (_ : Nat) * 64 ≤ _; omega) | decide)); done)); (conv => lhs; whnf); (try simp (maxSteps := 2000000) (disch := omega) only [nI64, nU64, nU32, nU8, nSubL, nAddL, nAdd, nSub, nDiv, nMod, nZ, nLit, row_3, row_4, row_5, row_16, row_22, row_85, Ty.den, dflt_it, dflt_li, dflt_kv, Int.toNat_natCast, List.take_length, List.drop_zero]))
      rw [List.take_of_length_le (by simp), e1]
end Go.Proofs.YtbcfagackcnpkaaDoor.Ev
/- Logs: how long records of one length are. -/
namespace Go.Proofs.YtbcfagackcnpkaaDoor.Ev
open Go Go.RowKit
set_option linter.unusedVariables false
set_option linter.unusedSimpArgs false
set_option maxRecDepth 100000
set_option maxHeartbeats 8000000
theorem appA_same (a : Nat) (b : Bool) (l : List Int) : ∀ (c : Nat) (b' : Bool) (m : List Int), c % 64 = a % 64 → m.length = l.length → (appA c b' m).length = (appA a b l).length := by
  induction a, b, l using appA_ind with
  | h1 a b l h ih =>
    intro c b' m hc hm
    have hr : room c = room a := by unfold room; rw [hc]
    rw [appA_pad b l h, appA_pad b' m (by rw [hr]; exact h), List.length_append, List.length_append, hr, ih (c + room a) b' m (by omega) hm]
  | h2 a b l h h2 =>
    intro c b' m hc hm
    have hr : room c = room a := by unfold room; rw [hc]
    rw [appA_end b h h2, appA_end b' (by rw [hr]; exact h) (by rw [hr, hm]; exact h2), fragS_len, fragS_len, hm]
  | h3 a b l h h2 ih =>
    intro c b' m hc hm
    have hr : room c = room a := by unfold room; rw [hc]
    rw [appA_go b h h2, appA_go b' (by rw [hr]; exact h) (by rw [hr, hm]; exact h2), List.length_append, List.length_append, fragS_len, fragS_len, hr,
      ih (c + room a) false (m.drop (room a - 7)) (by omega) (by rw [List.length_drop, List.length_drop, hm]), List.length_take, List.length_take, hm]
theorem lenS_at {a n : Nat} (h : n ≤ 4194304) {r : List Int} (hr : r.length = n) : lenS a n = (appA a true r).length := by
  unfold lenS
  rw [if_neg (by omega), Int.toNat_natCast, show (max (a : Int) 0 % 64).toNat = a % 64 by omega]
  exact appA_same a true r (a % 64) true _ (by omega) (by rw [List.length_replicate, hr])
theorem totB_le {s : Nat} : ∀ (l : List (List Int)), (∀ x ∈ l, x.length = s) → s ≤ 300 → totB l ≤ 300 * l.length
  | [], _, _ => by simp [totB]
  | x :: l, h, hs => by
    have h1 := totB_le l (fun y hy => h y (List.mem_cons_of_mem _ hy)) hs
    have h2 := h x List.mem_cons_self
    rw [totB, List.length_cons]; omega
end Go.Proofs.YtbcfagackcnpkaaDoor.Ev
/- Entries held against one another, copied, looked at: by the helps. -/
namespace Go.Proofs.YtbcfagackcnpkaaDoor.Ev
open Go Go.RowKit
set_option linter.unusedVariables false
set_option linter.unusedSimpArgs false
set_option maxRecDepth 100000
set_option maxHeartbeats 8000000
abbrev hbytesC : Ctx := ⟨rows, (fun  | _ => ([], []))⟩
theorem hbytes_ok (T : Tab) : hbytesSp.Ok T hbytesC F14 := by
  rintro ⟨(a : List Int), (b : List Int), _⟩ hf _
  obtain ⟨F, hF⟩ : ∃ F : Nat, F = 1 := ⟨_, rfl⟩
  refine ⟨F, 0, ?_⟩
  show evFn _ _ _ _ _ [vB a, vB b] [] _ = some (vT (a = b) : V)
  conv => lhs; whnf
  try simp (maxSteps := 2000000) (disch := omega) only [nI64, nU64, nU32, nU8, nSubL, nAddL, nAdd, nSub, nDiv, nMod, nZ, nLit, row_3, row_4, row_5, row_16, row_22, row_85, Ty.den, dflt_it, dflt_li, dflt_kv, Int.toNat_natCast, List.take_length, List.drop_zero]
end Go.Proofs.YtbcfagackcnpkaaDoor.Ev
/- The contracts that the laws of logs need, in a table. -/
namespace Go.Proofs.YtbcfagackcnpkaaDoor.Ev
open Go Go.RowKit
set_option linter.unusedVariables false
set_option maxRecDepth 100000
set_option maxHeartbeats 8000000
noncomputable def T0 : Tab := tab0
theorem T0_far : TabFar Tryd.prog T0 := tab0_far
noncomputable def T1 : Tab := tabAdd T0 35 sumSp.ts sumSp.F
theorem T1_far : TabFar Tryd.prog T1 := add_ok sumSp T0_far (rows_ok _) at35 (by kernel_rfl) (by kernel_rfl) (sum_ok _)
noncomputable def T2 : Tab := tabAdd T1 39 fixedSp.ts fixedSp.F
theorem T2_far : TabFar Tryd.prog T2 := add_ok fixedSp T1_far (rows_ok _) at39 (by kernel_rfl) (by kernel_rfl) (fixed_ok _)
noncomputable def T3 : Tab := tabAdd T2 34 fixed4Sp.ts fixed4Sp.F
theorem T3_far : TabFar Tryd.prog T3 := add_ok fixed4Sp T2_far (rows_ok _) at34 (by kernel_rfl) (by kernel_rfl) (fixed4_ok _ rfl)
noncomputable def T4 : Tab := tabAdd T3 48 unfixedSp.ts unfixedSp.F
theorem T4_far : TabFar Tryd.prog T4 := add_ok unfixedSp T3_far (rows_ok _) at48 (by kernel_rfl) (by kernel_rfl) (unfixed_ok _)
noncomputable def T5 : Tab := tabAdd T4 38 unfixed4Sp.ts unfixed4Sp.F
theorem T5_far : TabFar Tryd.prog T5 := add_ok unfixed4Sp T4_far (rows_ok _) at38 (by kernel_rfl) (by kernel_rfl) (unfixed4_ok _ rfl)
noncomputable def T6 : Tab := tabAdd T5 42 trimRSp.ts trimRSp.F
theorem T6_far : TabFar Tryd.prog T6 := add_okW trimRSp T5_far (rows_ok _) at42 (by kernel_rfl) (by kernel_rfl) (trimR_ok _)
noncomputable def T7 : Tab := tabAdd T6 41 trimLSp.ts trimLSp.F
theorem T7_far : TabFar Tryd.prog T7 := add_okW trimLSp T6_far (rows_ok _) at41 (by kernel_rfl) (by kernel_rfl) (trimL_ok _)
noncomputable def T8 : Tab := tabAdd T7 26 roomSp.ts roomSp.F
theorem T8_far : TabFar Tryd.prog T8 := add_ok roomSp T7_far (rows_ok _) at26 (by kernel_rfl) (by kernel_rfl) (room_ok _)
noncomputable def T9 : Tab := tabAdd T8 28 kindSp.ts kindSp.F
theorem T9_far : TabFar Tryd.prog T9 := add_ok kindSp T8_far (rows_ok _) at28 (by kernel_rfl) (by kernel_rfl) (kind_ok _)
noncomputable def T10 : Tab := tabAdd T9 27 fragSp.ts fragSp.F
theorem T10_far : TabFar Tryd.prog T10 := add_ok fragSp T9_far (rows_ok _) at27 (by kernel_rfl) (by kernel_rfl) (frag_ok _ rfl rfl)
noncomputable def T11 : Tab := tabAdd T10 19 apSp.ts apSp.F
theorem T11_far : TabFar Tryd.prog T11 := add_ok apSp T10_far (rows_ok _) at19 (by kernel_rfl) (by kernel_rfl) (wappend_ok _ rfl rfl rfl)
noncomputable def T12 : Tab := tabAdd T11 22 lenSp.ts lenSp.F
theorem T12_far : TabFar Tryd.prog T12 := add_ok lenSp T11_far (rows_ok _) at22 (by kernel_rfl) (by kernel_rfl) (wlen_ok _ rfl)
noncomputable def T13 : Tab := tabAdd T12 31 nextSp.ts nextSp.F
theorem T13_far : TabFar Tryd.prog T13 := add_ok nextSp T12_far (rows_ok _) at31 (by kernel_rfl) (by kernel_rfl) (next_ok _ rfl rfl rfl rfl rfl rfl)
noncomputable def T14 : Tab := tabAdd T13 24 recSp.ts recSp.F
theorem T14_far : TabFar Tryd.prog T14 := add_okW recSp T13_far (rows_ok _) at24 (by kernel_rfl) (by kernel_rfl) (rec_ok _ rfl rfl)
noncomputable def T15 : Tab := tabAdd T14 11 readSp.ts readSp.F
theorem T15_far : TabFar Tryd.prog T15 := add_ok readSp T14_far (rows_ok _) at11 (by kernel_rfl) (by kernel_rfl) (read_ok _ rfl)
noncomputable def T16 : Tab := tabAdd T15 17 logSp.ts logSp.F
theorem T16_far : TabFar Tryd.prog T16 := add_ok logSp T15_far (rows_ok _) at17 (by kernel_rfl) (by kernel_rfl) (log_ok _ rfl)
noncomputable def T17 : Tab := tabAdd T16 16 few5Sp.ts few5Sp.F
theorem T17_far : TabFar Tryd.prog T17 := add_ok few5Sp T16_far (rows_ok _) at16 (by kernel_rfl) (by kernel_rfl) (few5_ok _)
noncomputable def T18 : Tab := tabAdd T17 13 listsSp.ts listsSp.F
theorem T18_far : TabFar Tryd.prog T18 := add_ok listsSp T17_far (rows_ok _) at13 (by kernel_rfl) (by kernel_rfl) (lists_ok _)
noncomputable def T19 : Tab := tabAdd T18 33 sumSp.ts sumSp.F
theorem T19_far : TabFar Tryd.prog T19 := add_ok sumSp T18_far (rows_ok _) at33 (by kernel_rfl) (by kernel_rfl) (rsum_ok _)
noncomputable def T20 : Tab := tabAdd T19 40 fixedSp.ts fixedSp.F
theorem T20_far : TabFar Tryd.prog T20 := add_ok fixedSp T19_far (rows_ok _) at40 (by kernel_rfl) (by kernel_rfl) (rwfixed_ok _)
noncomputable def T21 : Tab := tabAdd T20 36 summedSp.ts summedSp.F
theorem T21_far : TabFar Tryd.prog T21 := add_ok summedSp T20_far (rows_ok _) at36 (by kernel_rfl) (by kernel_rfl) (summed_ok _ rfl rfl)
noncomputable def T22 : Tab := tabAdd T21 29 rfragSp.ts rfragSp.F
theorem T22_far : TabFar Tryd.prog T22 := add_ok rfragSp T21_far (rows_ok _) at29 (by kernel_rfl) (by kernel_rfl) (rfrag_ok _ rfl)
noncomputable def T23 : Tab := tabAdd T22 21 apSp.ts apSp.F
theorem T23_far : TabFar Tryd.prog T23 := add_ok apSp T22_far (rows_ok _) at21 (by kernel_rfl) (by kernel_rfl) (rappend_ok _ rfl)
noncomputable def T24 : Tab := tabAdd T23 23 lenSp.ts lenSp.F
theorem T24_far : TabFar Tryd.prog T24 := add_ok lenSp T23_far (rows_ok _) at23 (by kernel_rfl) (by kernel_rfl) (rwlen_ok _ rfl)
noncomputable def T25 : Tab := tabAdd T24 14 hbytesSp.ts hbytesSp.F
theorem T25_far : TabFar Tryd.prog T25 := add_ok hbytesSp T24_far (rows_ok _) at14 (by kernel_rfl) (by kernel_rfl) (hbytes_ok _)
noncomputable def T26 : Tab := tabAdd T25 10 knownSp.ts knownSp.F
theorem T26_far : TabFar Tryd.prog T26 := add_far knownSp T25_far at10 (by kernel_rfl) (by kernel_rfl) (fun x _ => known_far)
noncomputable def TB : Tab := T26
theorem TB_far : TabFar Tryd.prog TB := T26_far
end Go.Proofs.YtbcfagackcnpkaaDoor.Ev
/- From a walk to the law's statement, where the row lists package variables. -/
namespace Go.Proofs.YtbcfagackcnpkaaDoor.Ev
open Go Go.RowKit Go.ChangeShapes Go.ChangeAt Go.WideShapes
set_option linter.unusedVariables false
theorem law_row [tI : Tst] {K : Checked} {C : Ctx} {os : Os} {H : Type} {enc : TypeId × Value → H} {f : FuncId} {fn : Func} {s : ChangeSpec} {conds : List PathCond} {laid : List (String × DataW Unit)} {F : Stop.Interp} (hC : RowsOK K.prog C) (n : Nat)
    (own : ownKnob K.prog.godebug = none) (started : os.Started) (noInit : K.prog.inits.idxOf? f = none) (hfn : K.prog.funcs[f]? = some fn) (hlaid : laidOutB K.prog = true)
    (witness : ∃ (w : World) (tape : Tape) (i : Input), w.os = os ∧ (w.forCall tape i).Shaped K.prog ∧ i.vars = [] ∧ Input.okWide K.prog (w.forCall tape i) .any w.heap.size f i ∧
      (OpenSpec.ofChange s).preRow enc K.prog fn conds false laid (w.forCall tape i).memory i.args ∧ Assume.holds {} K.prog (lone (Frame.enter K.prog f i.args .normal) [] (w.forCall tape i)))
    (hvars : s.vars = []) {tb : TypeId} (hres : fn.resultTypes.toList = [tb]) (hrs : fn.resultTypes.size = 1) (htb : K.prog.underlying tb = some .bool) (hspec : ∀ ds : List (DataW H), ds.length = fn.params.toList.length → s.fn H ds = { results := [.lit (.bool true)], args := ds })
    (hopen : fn.params.toList.all (openB C n) = true) (hread : fn.params.toList.all (fun t => K.prog.readableRec t && decide (t < K.prog.types.size)) = true)
    (hlaw : ∀ xs, Typed C fn.params.toList xs → FarRes K.prog f xs (.d .bo true)) :
    ReturnsInHanded {} K os f .any ((OpenSpec.ofChange s).preRow enc K.prog fn conds false laid) (((OpenSpec.ofChange s).at F).post enc K.prog fn false true false false) := by
  refine returnsInHanded_of_row own started noInit hfn witness ?_
  intro W base args ds gs before hval hW _ _ hsz _ _ _
  have hW : DataW.Whole enc K.prog fn.params.toList s.vars false W args.toList ds gs before := hW
  have hsz : (DataW.weightsEach K.prog (fn.params.toList ++ s.plain.varTypes K.prog) (ds ++ gs)).all (· ≤ reachBytes) = true := hsz
  show Calls K.prog f args W fun e W' => ∃ v, e = .returned v ∧ s.post enc K.prog fn false true false false W args v W'
  have hW' := hW
  obtain ⟨p, q, hA, hV, rfl, hfz, hnd⟩ := hW
  rw [hvars] at hV
  obtain ⟨rfl, rfl⟩ := trodVars_none hV
  obtain ⟨l1, l2⟩ := trodAll_len hA
  have hvt : s.plain.varTypes K.prog = [] := by simp [DataSpec.varTypes, ChangeSpec.plain, hvars]
  rw [hvt, List.append_nil, List.append_nil] at hsz
  obtain ⟨xs, ht, hr⟩ := args_open hC (n := n) hA (fun j t v h1 h2 => hval j t v (by simpa using h1) (by simpa using h2)) hopen (fun j t d h1 h2 k hk => by
    have := List.all_eq_true.1 hsz _ (DataW.weights_mem_each h1 h2 k hk)
    simpa using this)
  have := hlaw xs ht (memOf W) W args.toList (fun e W' => e = .returned (.bool true) ∧ Below W.heap.size W W') (memOf_lies W) hr (by
    intro E' S' v' u w' k1 k2 k3 k4
    refine ⟨?_, by have := k2.below; rw [k1.lent] at this; exact this.to⟩
    rcases exportV_exp k4 with ⟨vs, vs', _, h, _⟩ | h
    · simp at h
    · generalize hz : V.d .bo true = z at h
      cases h with
      | d t x =>
        rw [← hz] at k3
        rw [rep_bool_iff.1 k3]
      | nils => simp at hz
      | un => simp at hz
      | own => simp at hz)
  rw [Array.toArray_toList] at this
  refine this.mono ?_
  rintro e W' ⟨rfl, bel⟩
  have hds : s.fn H (ds ++ []) = { results := [.lit (.bool true)], args := ds } := by rw [List.append_nil]; exact hspec ds l2
  refine ⟨_, rfl, ds, [], _, [], p, [], hW', ?_, ?_, ?_, bel.frame _, fun h => by cases h⟩
  · rw [hds, hres, hrs]
    exact trodAll_mk1 (shut_bool htb _)
  · rw [hds]
    exact args_stay hlaid bel hA hread
  · rw [hds, hvars]
    rfl
end Go.Proofs.YtbcfagackcnpkaaDoor.Ev
/- A world for the witness, where the listed variables hold what the row lists. -/
namespace Go.Proofs.YtbcfagackcnpkaaDoor.Ev
open Go Go.RowKit Go.ChangeShapes Go.ChangeAt Go.WideShapes
set_option linter.unusedVariables false
mutual
def flatD : DataW Unit → List Value
  | .lit l => [l.value]
  | .agg ps => flatDs ps
  | _ => []
def flatDs : List (DataW Unit) → List Value
  | [] => []
  | d :: ds => flatD d ++ flatDs ds
end
def putCells (vs : List Value) : Obj → Obj
  | .cells _ t frozen => .cells vs.toArray t frozen
  | o => o
/-- the settled world, globals 0 and 1 holding what the rows list -/
noncomputable def laidWorld (os : Os) : World :=
  { World.holding Tryd.prog os ⟨#[], #[], []⟩ with heap := ((World.holding Tryd.prog os ⟨#[], #[], []⟩).heap.modify 0 (putCells (flatD Rows.laid_unicode_utf8_first))).modify 1 (putCells (flatD Rows.laid_unicode_utf8_acceptRanges)) }
end Go.Proofs.YtbcfagackcnpkaaDoor.Ev
