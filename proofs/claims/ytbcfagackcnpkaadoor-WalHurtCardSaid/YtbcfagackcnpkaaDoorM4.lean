/- Parts of the proof, joined by a program of this session: WLog, WMarks, WTab5, LawRow, LaidW. -/
import Derived.Test.YtbcfagackcnpkaaDoorM3
import Derived.Test.YtbcfagackcnpkaaDoorM2
import Derived.Test.YtbcfagackcnpkaaDoorCards
import Derived.Test.YtbcfagackcnpkaaDoorTie
import Derived.Deep.DeepHandedRow
set_option linter.unusedVariables false
set_option linter.unusedSimpArgs false
set_option linter.unusedSectionVars false
/- Logs of records, and where each one ends. -/
namespace Go.Proofs.YtbcfagackcnpkaaDoor.Ev
open Go Go.RowKit
set_option linter.unusedVariables false
set_option linter.unusedSimpArgs false
set_option maxRecDepth 100000
set_option maxHeartbeats 8000000
def endsL (a : Nat) : List (List Int) → List Int
  | [] => []
  | r :: rs => ((a + (appA a true r).length : Nat) : Int) :: endsL (a + (appA a true r).length) rs
theorem logL_le : ∀ (rs : List (List Int)) (a : Nat), (logL a rs).length ≤ 14 * totB rs + 14 * rs.length
  | [], a => by simp [logL]
  | r :: rs, a => by
    have h1 := logL_le rs (a + (appA a true r).length)
    have h2 : (appA a true r).length ≤ 14 * r.length + 14 := by
      have := appA_le a true r
      split at this
      · omega
      · split at this <;> omega
    rw [logL, List.length_append, totB, List.length_cons]; omega
theorem endsL_len : ∀ (rs : List (List Int)) (a : Nat), (endsL a rs).length = rs.length
  | [], a => rfl
  | r :: rs, a => by rw [endsL, List.length_cons, List.length_cons, endsL_len rs]
theorem apS_at {a : Nat} {r : List Int} (h : r.length ≤ 4194304) : apS a r 50 = (appA a true r, 0) := by
  unfold apS
  rw [if_neg (by omega), show (max (a : Int) 0 % 64).toNat = a % 64 by omega, appA_mod a true r (a % 64) (by omega)]
abbrev i64l : Ty := .li i64
noncomputable def logSp : Sp := ⟨[.li byl], fun x => tst (few5 x.1), fun x => .tup [.own 0 by8 (logL 0 x.1), .own 0 i64 (endsL 0 x.1), .d .bo true]⟩
abbrev logC : Ctx := ⟨rows, (fun | 0 => ([0, 5, 6, 7], [5, 6]) | 1 => ([], [0, 5, 6, 7]) | _ => ([], []))⟩
theorem log_ok (T : Tab) (h1 : T 19 = apSp.ent) : logSp.Ok T logC F17 := by
  rw [on_top h1]
  rintro ⟨(l : List (List Int)), _⟩ hf hp
  have hw : few5 l := tst_iff.1 hp
  have hea := few5_each hw.2
  have hll := logL_le l 0
  have hl1 := hw.1
  have hl2 := hw.2
  obtain ⟨F, hF⟩ : ∃ F : Nat, F = l.length + 5 := ⟨_, rfl⟩
  refine ⟨F, 0, ?_⟩
  show evFn _ _ _ _ _ [.d (.li byl) l] [] _ = some (.tup [vO 0 (logL 0 l), .own 0 i64 (endsL 0 l), .d .bo true] : V)
  conv => lhs; whnf
  try simp (maxSteps := 2000000) (disch := omega) only [nI64, nU64, nU32, nU8, nSubL, nAddL, nAdd, nSub, nDiv, nMod, nZ, nLit, row_3, row_4, row_5, row_16, row_22, row_85, Ty.den, dflt_it, dflt_li, dflt_kv, Int.toNat_natCast, List.take_length, List.drop_zero]
  refine loop_rule (α := Nat × List Int × List Int) (fun s => s.1 ≤ l.length ∧ s.2.1 ++ logL s.2.1.length (l.drop s.1) = logL 0 l ∧ s.2.2 ++ endsL s.2.1.length (l.drop s.1) = endsL 0 l) (fun s => l.length - s.1)
    (fun s => (V.d (.li byl) l :: V.bad :: V.bad :: V.bad :: V.bad :: vO 2 s.2.1 :: V.own 3 i64 s.2.2 :: vI s.1 :: V.bad :: V.bad :: V.bad :: V.bad :: V.bad :: V.bad :: V.bad :: V.bad :: V.bad :: V.bad :: V.bad :: V.bad :: V.bad :: V.bad :: V.bad :: V.bad :: V.bad :: V.bad :: V.bad :: V.bad :: V.bad :: V.bad :: V.bad :: V.bad :: V.bad :: V.bad :: V.bad :: V.bad :: V.bad :: V.bad :: []))
    (fun s => [.fam 0, .fam 0, .fam s.2.1.length, .fam s.2.2.length]) (fun s => some (V.tup [vO 0 (logL 0 l), .own 0 i64 (endsL 0 l), .d .bo true])) ?_ F (0, [], []) ⟨Nat.zero_le _, rfl, rfl⟩ (by show l.length - 0 < F; omega)
  rintro ⟨i, o, es⟩ K ⟨k1, k2, k3⟩ hK
  simp only at k1 k2 k3 hK ⊢
  have ho : o.length + (logL o.length (l.drop i)).length = (logL 0 l).length := by rw [← k2, List.length_append]
  have he : es.length + (l.drop i).length = l.length := by
    have := endsL_len l 0
    rw [← k3, List.length_append, endsL_len] at this
    exact this
  rw [List.length_drop] at he
  conv => lhs; whnf
  try simp (maxSteps := 2000000) (disch := omega) only [nI64, nU64, nU32, nU8, nSubL, nAddL, nAdd, nSub, nDiv, nMod, nZ, nLit, row_3, row_4, row_5, row_16, row_22, row_85, Ty.den, dflt_it, dflt_li, dflt_kv, Int.toNat_natCast, List.take_length, List.drop_zero]
  by_cases hi : i < l.length
  · refine br_go (tst_t (by omega)) ?_
    conv => lhs; whnf
    try simp (maxSteps := 2000000) (disch := omega) only [nI64, nU64, nU32, nU8, nSubL, nAddL, nAdd, nSub, nDiv, nMod, nZ, nLit, row_3, row_4, row_5, row_16, row_22, row_85, Ty.den, dflt_it, dflt_li, dflt_kv, Int.toNat_natCast, List.take_length, List.drop_zero]
    have hd := drop_at (d := ([] : List Int)) hi
    have hri : (l.getD i []).length ≤ 3000 := hea _ (by rw [getD_at hi]; exact List.getElem_mem hi)
    have ea := apS_at (a := o.length) (r := l.getD i []) (by omega)
    rw [hd, logL] at k2
    rw [hd, logL, List.length_append] at ho
    rw [hd, endsL] at k3
    repeat (refine br_go ?_ ?_; (focus (((repeat' first | exact rfl | exact ordB_st rfl | exact ordB_of rfl | apply band | apply tst_t | apply nt_t)  <;> (try dsimp only [Ty.den, dflt_kv]) <;> (try simp only [List.length_append, List.length_cons, List.length_nil, List.length_take, List.length_drop, List.length_replicate]) <;> (first | trivial | assumption | omega | (change (_ : Int) ≤ _; omega) | (change (_ : Int) < _; omega) | (change (_ : Nat) * 1 ≤ _; omega) | (change (_ : Nat) * 48 ≤ _; omega) | (change (_ : Nat) * 24 ≤ _; omega) | (change (_ : Nat) * 8 ≤ _; omega) | (change (_ : Nat) * 64 ≤ _; omega) | decide)); done)); (conv => lhs; whnf); (try simp (maxSteps := 2000000) (disch := omega) only [nI64, nU64, nU32, nU8, nSubL, nAddL, nAdd, nSub, nDiv, nMod, nZ, nLit, row_3, row_4, row_5, row_16, row_22, row_85, Ty.den, dflt_it, dflt_li, dflt_kv, Int.toNat_natCast, List.take_length, List.drop_zero]))
    try simp (maxSteps := 2000000) (disch := omega) only [nI64, nU64, nU32, nU8, nSubL, nAddL, nAdd, nSub, nDiv, nMod, nZ, nLit, row_3, row_4, row_5, row_16, row_22, row_85, Ty.den, dflt_it, dflt_li, dflt_kv, Int.toNat_natCast, List.take_length, List.drop_zero, ea]
    refine br_no (tst_f ((fun h => h rfl))) ?_
    conv => lhs; whnf
    try simp (maxSteps := 2000000) (disch := omega) only [nI64, nU64, nU32, nU8, nSubL, nAddL, nAdd, nSub, nDiv, nMod, nZ, nLit, row_3, row_4, row_5, row_16, row_22, row_85, Ty.den, dflt_it, dflt_li, dflt_kv, Int.toNat_natCast, List.take_length, List.drop_zero]
    repeat (refine br_go ?_ ?_; (focus (((repeat' first | exact rfl | exact ordB_st rfl | exact ordB_of rfl | apply band | apply tst_t | apply nt_t)  <;> (try dsimp only [Ty.den, dflt_kv]) <;> (try simp only [List.length_append, List.length_cons, List.length_nil, List.length_take, List.length_drop, List.length_replicate]) <;> (first | trivial | assumption | omega | (change (_ : Int) ≤ _; omega) | (change (_ : Int) < _; omega) | (change (_ : Nat) * 1 ≤ _; omega) | (change (_ : Nat) * 48 ≤ _; omega) | (change (_ : Nat) * 24 ≤ _; omega) | (change (_ : Nat) * 8 ≤ _; omega) | (change (_ : Nat) * 64 ≤ _; omega) | decide)); done)); (conv => lhs; whnf); (try simp (maxSteps := 2000000) (disch := omega) only [nI64, nU64, nU32, nU8, nSubL, nAddL, nAdd, nSub, nDiv, nMod, nZ, nLit, row_3, row_4, row_5, row_16, row_22, row_85, Ty.den, dflt_it, dflt_li, dflt_kv, Int.toNat_natCast, List.take_length, List.drop_zero]))
    refine hK (i + 1, o ++ appA o.length true (l.getD i []), es ++ [(((o ++ appA o.length true (l.getD i [])).length : Nat) : Int)]) ⟨by show i + 1 ≤ l.length; omega, by rw [← k2, List.length_append, List.append_assoc], by rw [← k3, List.length_append, List.append_assoc]; rfl⟩ (by show l.length - (i + 1) < l.length - i; omega)
  · refine br_no (tst_f (by omega)) ?_
    conv => lhs; whnf
    try simp (maxSteps := 2000000) (disch := omega) only [nI64, nU64, nU32, nU8, nSubL, nAddL, nAdd, nSub, nDiv, nMod, nZ, nLit, row_3, row_4, row_5, row_16, row_22, row_85, Ty.den, dflt_it, dflt_li, dflt_kv, Int.toNat_natCast, List.take_length, List.drop_zero]
    repeat (refine br_go ?_ ?_; (focus (((repeat' first | exact rfl | exact ordB_st rfl | exact ordB_of rfl | apply band | apply tst_t | apply nt_t)  <;> (try dsimp only [Ty.den, dflt_kv]) <;> (try simp only [List.length_append, List.length_cons, List.length_nil, List.length_take, List.length_drop, List.length_replicate]) <;> (first | trivial | assumption | omega | (change (_ : Int) ≤ _; omega) | (change (_ : Int) < _; omega) | (change (_ : Nat) * 1 ≤ _; omega) | (change (_ : Nat) * 48 ≤ _; omega) | (change (_ : Nat) * 24 ≤ _; omega) | (change (_ : Nat) * 8 ≤ _; omega) | (change (_ : Nat) * 64 ≤ _; omega) | decide)); done)); (conv => lhs; whnf); (try simp (maxSteps := 2000000) (disch := omega) only [nI64, nU64, nU32, nU8, nSubL, nAddL, nAdd, nSub, nDiv, nMod, nZ, nLit, row_3, row_4, row_5, row_16, row_22, row_85, Ty.den, dflt_it, dflt_li, dflt_kv, Int.toNat_natCast, List.take_length, List.drop_zero]))
    rw [List.drop_eq_nil_of_le (by omega)] at k2 k3
    rw [← k2, ← k3, logL, endsL, List.append_nil, List.append_nil]
end Go.Proofs.YtbcfagackcnpkaaDoor.Ev
/- Logs: which bytes are those of a fragment's length, found by going over the log. -/
namespace Go.Proofs.YtbcfagackcnpkaaDoor.Ev
open Go Go.RowKit
set_option linter.unusedVariables false
set_option linter.unusedSimpArgs false
set_option maxRecDepth 100000
set_option maxHeartbeats 8000000
def lenN (b : List Int) (a : Nat) : Nat := (b.getD (a + 4) 0 + 256 * b.getD (a + 5) 0).toNat
def lensA (b : List Int) (a : Nat) (o : List Bool) : List Bool :=
  if a + 7 ≤ b.length then (if room a < 7 then lensA b (a + room a) o else lensA b (a + 7 + lenN b a) ((o.set (a + 4) true).set (a + 5) true)) else o
termination_by b.length - a
decreasing_by
  · have := room_le a; omega
  · omega
theorem lensA_pad {b : List Int} {a : Nat} (o : List Bool) (h : a + 7 ≤ b.length) (h7 : room a < 7) : lensA b a o = lensA b (a + room a) o := by rw [lensA, if_pos h, if_pos h7]
theorem lensA_go {b : List Int} {a : Nat} (o : List Bool) (h : a + 7 ≤ b.length) (h7 : ¬ room a < 7) : lensA b a o = lensA b (a + 7 + lenN b a) ((o.set (a + 4) true).set (a + 5) true) := by rw [lensA, if_pos h, if_neg h7]
theorem lensA_end {b : List Int} {a : Nat} (o : List Bool) (h : ¬ a + 7 ≤ b.length) : lensA b a o = o := by rw [lensA, if_neg h]
theorem rep_add (m n : Nat) : List.replicate (m + n) false = List.replicate m false ++ List.replicate n false := List.replicate_append_replicate.symm
theorem set_marks {r s : List Bool} {a n k : Nat} (ha : r.length = a) : (((r ++ (List.replicate (7 + n + k) false ++ s)).set (a + 4) true).set (a + 5) true) = r ++ (marks n ++ (List.replicate k false ++ s)) := by
  rw [List.set_append_right _ _ (by omega), List.set_append_right _ _ (by omega), ha, show a + 4 - a = 4 by omega, show a + 5 - a = 5 by omega]
  congr 1
  rw [show 7 + n + k = 7 + (n + k) by omega]
  rw [rep_add 7, rep_add n]
  simp only [marks, List.append_assoc]
  rfl
theorem lenN_frag {b p q : List Int} {k : Int} {d : List Int} {a : Nat} (h : b = p ++ (fragS k d ++ q)) (ha : a = p.length) (hd : d.length ≤ 57) : lenN b a = d.length := by
  have hf4 := fixedL_length (sumS (k :: d)) 4
  have ef : fragS k d = fixedL (sumS (k :: d)) 4 ++ ([((d.length % 256 : Nat) : Int), ((d.length / 256 % 256 : Nat) : Int)] ++ (k :: d)) := rfl
  have g4 := getD_seg (b := b) (p := p ++ fixedL (sumS (k :: d)) 4) (x := ((d.length % 256 : Nat) : Int)) (q := ((d.length / 256 % 256 : Nat) : Int) :: (k :: d ++ q)) (i := a + 4) (by rw [h, ef]; simp only [List.append_assoc, List.cons_append, List.nil_append]) (by rw [List.length_append, hf4, ha])
  have g5 := getD_seg (b := b) (p := p ++ fixedL (sumS (k :: d)) 4 ++ [((d.length % 256 : Nat) : Int)]) (x := ((d.length / 256 % 256 : Nat) : Int)) (q := k :: d ++ q) (i := a + 5) (by rw [h, ef]; simp only [List.append_assoc, List.cons_append, List.nil_append]) (by rw [List.length_append, List.length_append, hf4, ha]; rfl)
  unfold lenN
  rw [g4, g5]; omega
theorem appA_ge7 (a : Nat) (bg : Bool) (l : List Int) : 7 ≤ (appA a bg l).length := by
  induction a, bg, l using appA_ind with
  | h1 a b l h ih => rw [appA_pad b l h, List.length_append]; omega
  | h2 a b l h h2 => rw [appA_end b h h2, fragS_len]; omega
  | h3 a b l h h2 ih => rw [appA_go b h h2, List.length_append]; omega
theorem lensA_app (b q : List Int) (s : List Bool) (a : Nat) (bg : Bool) (l : List Int) : ∀ (p : List Int) (r : List Bool), b = p ++ (appA a bg l ++ q) → a = p.length → r.length = a →
    lensA b a (r ++ (List.replicate (appA a bg l).length false ++ s)) = lensA b (a + (appA a bg l).length) (r ++ (appM a l ++ s)) := by
  induction a, bg, l using appA_ind with
  | h1 a bg l h7 ih =>
    intro p r hb ha hr
    have h := appA_ge7 (a + room a) bg l
    rw [appA_pad bg l h7] at hb ⊢
    have hbl : a + 7 ≤ b.length := by rw [hb, List.length_append, List.length_append, List.length_append]; omega
    rw [lensA_pad _ hbl h7, appM_pad l h7, List.length_append, List.length_replicate, rep_add]
    have := ih (p ++ List.replicate (room a) 0) (r ++ List.replicate (room a) false) (by rw [hb]; simp only [List.append_assoc]) (by rw [List.length_append, List.length_replicate, ha]) (by rw [List.length_append, List.length_replicate, hr])
    simp only [List.append_assoc] at this ⊢
    rw [this, Nat.add_assoc]
  | h2 a bg l h7 h8 =>
    intro p r hb ha hr
    have hrm := room_le a
    rw [appA_end bg h7 h8] at hb ⊢
    have hbl : a + 7 ≤ b.length := by rw [hb, List.length_append, List.length_append, fragS_len]; omega
    rw [lensA_go _ hbl h7, appM_end h7 h8, fragS_len, lenN_frag hb ha (by omega)]
    have := set_marks (r := r) (s := s) (a := a) (n := l.length) (k := 0) hr
    rw [Nat.add_zero] at this
    rw [this]
    simp only [List.replicate_zero, List.nil_append, Nat.add_assoc]
  | h3 a bg l h7 h8 ih =>
    intro p r hb ha hr
    have hrm := room_le a
    have htl : (l.take (room a - 7)).length = room a - 7 := by rw [List.length_take]; omega
    rw [appA_go bg h7 h8] at hb ⊢
    have hbl : a + 7 ≤ b.length := by rw [hb, List.length_append, List.length_append, List.length_append, fragS_len]; omega
    rw [lensA_go _ hbl h7, appM_go h7 h8, List.length_append, fragS_len, lenN_frag (d := l.take (room a - 7)) (by rw [hb, List.append_assoc]) ha (by omega), htl, set_marks hr]
    have := ih (p ++ fragS (kindS bg false) (l.take (room a - 7))) (r ++ marks (room a - 7)) (by rw [hb]; simp only [List.append_assoc]) (by rw [List.length_append, fragS_len, htl, ← ha]; omega) (by rw [List.length_append, marks_len, hr]; omega)
    rw [show a + 7 + (room a - 7) = a + room a by omega]
    simp only [List.append_assoc] at this ⊢
    rw [this, show a + (7 + (room a - 7) + (appA (a + room a) false (List.drop (room a - 7) l)).length) = a + room a + (appA (a + room a) false (List.drop (room a - 7) l)).length by omega]
theorem lensA_log (b q : List Int) (s : List Bool) : ∀ (rs : List (List Int)) (p : List Int) (r : List Bool) (a : Nat), b = p ++ (logL a rs ++ q) → a = p.length → r.length = a →
    lensA b a (r ++ (List.replicate (logL a rs).length false ++ s)) = lensA b (a + (logL a rs).length) (r ++ (marksL a rs ++ s))
  | [], p, r, a, hb, ha, hr => by simp [logL, marksL]
  | x :: rs, p, r, a, hb, ha, hr => by
    rw [logL] at hb ⊢
    rw [marksL, List.length_append, rep_add, List.append_assoc, lensA_app b (logL (a + (appA a true x).length) rs ++ q) _ a true x p r (by rw [hb, List.append_assoc]) ha hr]
    have := lensA_log b q s rs (p ++ appA a true x) (r ++ appM a x) (a + (appA a true x).length) (by rw [hb]; simp only [List.append_assoc]) (by rw [List.length_append, ha]) (by rw [List.length_append, appM_len a true, hr])
    simp only [List.append_assoc] at this ⊢
    rw [this, Nat.add_assoc]
theorem lensA_whole (rs : List (List Int)) : lensA (logL 0 rs) 0 (List.replicate (logL 0 rs).length false) = marksL 0 rs := by
  have := lensA_log (logL 0 rs) [] [] rs [] [] 0 (by simp) rfl rfl
  simp only [List.append_nil, List.nil_append] at this
  rw [this, Nat.zero_add, lensA_end _ (by omega)]
theorem lensA_len (b : List Int) : ∀ (k a : Nat) (o : List Bool), b.length - a ≤ k → (lensA b a o).length = o.length := by
  intro k
  induction k with
  | zero => intro a o h; rw [lensA_end _ (by omega)]
  | succ k ih =>
    intro a o h
    by_cases h1 : a + 7 ≤ b.length
    · have := room_le a
      by_cases h7 : room a < 7
      · rw [lensA_pad _ h1 h7, ih _ _ (by omega)]
      · rw [lensA_go _ h1 h7, ih _ _ (by omega), List.length_set, List.length_set]
    · rw [lensA_end _ h1]
noncomputable def lensSp : Sp := ⟨[byl], fun x => tst (List.length x.1 ≤ 1000000), fun x => .d (.li .bo) (lensA x.1 0 (List.replicate (List.length x.1) false))⟩
abbrev lensC : Ctx := ⟨rows, (fun | 0 => ([0, 3, 4], [3]) | 1 => ([], [0, 3, 4]) | _ => ([], []))⟩
theorem lens_ok (T : Tab) : lensSp.Ok T lensC F18 := by
  rintro ⟨(b : List Int), _⟩ hf hp
  have hl : b.length ≤ 1000000 := tst_iff.1 hp
  have hby : ∀ x ∈ b, 0 ≤ x ∧ x ≤ 255 := (fits_by.1 hf.1).2
  obtain ⟨F, hF⟩ : ∃ F : Nat, F = b.length + 5 := ⟨_, rfl⟩
  refine ⟨F, 0, ?_⟩
  show evFn _ _ _ _ _ [vB b] [] _ = some (.d (.li .bo) (lensA b 0 (List.replicate b.length false)) : V)
  conv => lhs; whnf
  try simp (maxSteps := 2000000) (disch := omega) only [nI64, nU64, nU32, nU8, nSubL, nAddL, nAdd, nSub, nDiv, nMod, nZ, nLit, row_3, row_4, row_5, row_16, row_22, row_85, Ty.den, dflt_it, dflt_li, dflt_kv, Int.toNat_natCast, List.take_length, List.drop_zero]
  repeat (refine br_go ?_ ?_; (focus (((repeat' first | exact rfl | exact ordB_st rfl | exact ordB_of rfl | apply band | apply tst_t | apply nt_t)  <;> (try dsimp only [Ty.den, dflt_kv]) <;> (try simp only [List.length_append, List.length_cons, List.length_nil, List.length_take, List.length_drop, List.length_replicate]) <;> (first | trivial | assumption | omega | (change (_ : Int) ≤ _; omega) | (change (_ : Int) < _; omega) | (change (_ : Nat) * 1 ≤ _; omega) | (change (_ : Nat) * 48 ≤ _; omega) | (change (_ : Nat) * 24 ≤ _; omega) | (change (_ : Nat) * 8 ≤ _; omega) | (change (_ : Nat) * 64 ≤ _; omega) | decide)); done)); (conv => lhs; whnf); (try simp (maxSteps := 2000000) (disch := omega) only [nI64, nU64, nU32, nU8, nSubL, nAddL, nAdd, nSub, nDiv, nMod, nZ, nLit, row_3, row_4, row_5, row_16, row_22, row_85, Ty.den, dflt_it, dflt_li, dflt_kv, Int.toNat_natCast, List.take_length, List.drop_zero]))
  generalize hR : lensA b 0 (List.replicate b.length false) = R
  refine loop_rule (α := Nat × List Bool) (fun s => s.1 ≤ b.length + 70000 ∧ s.2.length = b.length ∧ lensA b s.1 s.2 = R) (fun s => b.length - s.1)
    (fun s => (vB b :: V.bad :: V.bad :: V.sr 2 0 0 b.length 1 .full :: vI s.1 :: V.bad :: V.bad :: V.bad :: V.bad :: V.bad :: V.bad :: V.bad :: V.bad :: V.bad :: V.bad :: V.bad :: V.bad :: V.bad :: V.bad :: V.bad :: V.bad :: V.bad :: V.bad :: V.bad :: V.bad :: V.bad :: V.bad :: V.bad :: V.bad :: V.bad :: V.bad :: V.bad :: V.bad :: V.bad :: V.bad :: V.bad :: V.bad :: V.bad :: V.bad :: V.bad :: V.bad :: V.bad :: V.bad :: V.bad :: V.bad :: V.bad :: V.bad :: V.bad :: []))
    (fun s => [.fam 0, .gone, .row 0 .bo s.2, .gone])
    (fun s => some (V.d (.li .bo) R)) ?_ F (0, List.replicate b.length false) ⟨by show 0 ≤ _; omega, List.length_replicate, hR⟩ (by show b.length - 0 < F; omega)
  rintro ⟨a, o⟩ K ⟨k1, k2, k3⟩ hK
  simp only at k1 k2 k3 hK ⊢
  have hrm := room_le a
  have hr : room a = 64 - a % 64 := rfl
  conv => lhs; whnf
  try simp (maxSteps := 2000000) (disch := omega) only [nI64, nU64, nU32, nU8, nSubL, nAddL, nAdd, nSub, nDiv, nMod, nZ, nLit, row_3, row_4, row_5, row_16, row_22, row_85, Ty.den, dflt_it, dflt_li, dflt_kv, Int.toNat_natCast, List.take_length, List.drop_zero]
  by_cases h7 : a + 7 ≤ b.length
  · refine br_go (tst_t (by omega)) ?_
    conv => lhs; whnf
    try simp (maxSteps := 2000000) (disch := omega) only [nI64, nU64, nU32, nU8, nSubL, nAddL, nAdd, nSub, nDiv, nMod, nZ, nLit, row_3, row_4, row_5, row_16, row_22, row_85, Ty.den, dflt_it, dflt_li, dflt_kv, Int.toNat_natCast, List.take_length, List.drop_zero]
    repeat (refine br_go ?_ ?_; (focus (((repeat' first | exact rfl | exact ordB_st rfl | exact ordB_of rfl | apply band | apply tst_t | apply nt_t)  <;> (try dsimp only [Ty.den, dflt_kv]) <;> (try simp only [List.length_append, List.length_cons, List.length_nil, List.length_take, List.length_drop, List.length_replicate]) <;> (first | trivial | assumption | omega | (change (_ : Int) ≤ _; omega) | (change (_ : Int) < _; omega) | (change (_ : Nat) * 1 ≤ _; omega) | (change (_ : Nat) * 48 ≤ _; omega) | (change (_ : Nat) * 24 ≤ _; omega) | (change (_ : Nat) * 8 ≤ _; omega) | (change (_ : Nat) * 64 ≤ _; omega) | decide)); done)); (conv => lhs; whnf); (try simp (maxSteps := 2000000) (disch := omega) only [nI64, nU64, nU32, nU8, nSubL, nAddL, nAdd, nSub, nDiv, nMod, nZ, nLit, row_3, row_4, row_5, row_16, row_22, row_85, Ty.den, dflt_it, dflt_li, dflt_kv, Int.toNat_natCast, List.take_length, List.drop_zero]))
    by_cases h8 : room a < 7
    · refine br_go (tst_t (by omega)) ?_
      conv => lhs; whnf
      try simp (maxSteps := 2000000) (disch := omega) only [nI64, nU64, nU32, nU8, nSubL, nAddL, nAdd, nSub, nDiv, nMod, nZ, nLit, row_3, row_4, row_5, row_16, row_22, row_85, Ty.den, dflt_it, dflt_li, dflt_kv, Int.toNat_natCast, List.take_length, List.drop_zero]
      rw [lensA_pad o h7 h8] at k3
      repeat (refine br_go ?_ ?_; (focus (((repeat' first | exact rfl | exact ordB_st rfl | exact ordB_of rfl | apply band | apply tst_t | apply nt_t)  <;> (try dsimp only [Ty.den, dflt_kv]) <;> (try simp only [List.length_append, List.length_cons, List.length_nil, List.length_take, List.length_drop, List.length_replicate]) <;> (first | trivial | assumption | omega | (change (_ : Int) ≤ _; omega) | (change (_ : Int) < _; omega) | (change (_ : Nat) * 1 ≤ _; omega) | (change (_ : Nat) * 48 ≤ _; omega) | (change (_ : Nat) * 24 ≤ _; omega) | (change (_ : Nat) * 8 ≤ _; omega) | (change (_ : Nat) * 64 ≤ _; omega) | decide)); done)); (conv => lhs; whnf); (try simp (maxSteps := 2000000) (disch := omega) only [nI64, nU64, nU32, nU8, nSubL, nAddL, nAdd, nSub, nDiv, nMod, nZ, nLit, row_3, row_4, row_5, row_16, row_22, row_85, Ty.den, dflt_it, dflt_li, dflt_kv, Int.toNat_natCast, List.take_length, List.drop_zero]))
      have e : ((a : Int) + (64 - (a : Int) % 64)) = ((a + room a : Nat) : Int) := by omega
      rw [e]
      exact hK (a + room a, o) ⟨by show a + room a ≤ _; omega, k2, k3⟩ (by show b.length - (a + room a) < b.length - a; omega)
    · refine br_no (tst_f (by omega)) ?_
      conv => lhs; whnf
      try simp (maxSteps := 2000000) (disch := omega) only [nI64, nU64, nU32, nU8, nSubL, nAddL, nAdd, nSub, nDiv, nMod, nZ, nLit, row_3, row_4, row_5, row_16, row_22, row_85, Ty.den, dflt_it, dflt_li, dflt_kv, Int.toNat_natCast, List.take_length, List.drop_zero]
      rw [lensA_go o h7 h8] at k3
      have hb4 := hby (b.getD (a + 4) 0) (by rw [getD_at (by omega)]; exact List.getElem_mem (by omega))
      have hb5 := hby (b.getD (a + 5) 0) (by rw [getD_at (by omega)]; exact List.getElem_mem (by omega))
      have hln : ((lenN b a : Nat) : Int) = b.getD (a + 4) 0 + 256 * b.getD (a + 5) 0 := by unfold lenN; omega
      repeat (refine br_go ?_ ?_; (focus (((repeat' first | exact rfl | exact ordB_st rfl | exact ordB_of rfl | apply band | apply tst_t | apply nt_t)  <;> (try dsimp only [Ty.den, dflt_kv]) <;> (try simp only [List.length_append, List.length_cons, List.length_nil, List.length_take, List.length_drop, List.length_replicate]) <;> (first | trivial | assumption | omega | (change (_ : Int) ≤ _; omega) | (change (_ : Int) < _; omega) | (change (_ : Nat) * 1 ≤ _; omega) | (change (_ : Nat) * 48 ≤ _; omega) | (change (_ : Nat) * 24 ≤ _; omega) | (change (_ : Nat) * 8 ≤ _; omega) | (change (_ : Nat) * 64 ≤ _; omega) | decide)); done)); (conv => lhs; whnf); (try simp (maxSteps := 2000000) (disch := omega) only [nI64, nU64, nU32, nU8, nSubL, nAddL, nAdd, nSub, nDiv, nMod, nZ, nLit, row_3, row_4, row_5, row_16, row_22, row_85, Ty.den, dflt_it, dflt_li, dflt_kv, Int.toNat_natCast, List.take_length, List.drop_zero]))
      have e1 : (tst True && tst (0 + (a + 5) < (o.set (0 + (a + 4)) true).length)) = true := by rw [tst_t trivial, tst_t (by rw [List.length_set]; omega)]; rfl
      try simp (maxSteps := 2000000) (disch := omega) only [nI64, nU64, nU32, nU8, nSubL, nAddL, nAdd, nSub, nDiv, nMod, nZ, nLit, row_3, row_4, row_5, row_16, row_22, row_85, Ty.den, dflt_it, dflt_li, dflt_kv, Int.toNat_natCast, List.take_length, List.drop_zero, e1]
      conv => lhs; whnf
      try simp (maxSteps := 2000000) (disch := omega) only [nI64, nU64, nU32, nU8, nSubL, nAddL, nAdd, nSub, nDiv, nMod, nZ, nLit, row_3, row_4, row_5, row_16, row_22, row_85, Ty.den, dflt_it, dflt_li, dflt_kv, Int.toNat_natCast, List.take_length, List.drop_zero]
      repeat (refine br_go ?_ ?_; (focus (((repeat' first | exact rfl | exact ordB_st rfl | exact ordB_of rfl | apply band | apply tst_t | apply nt_t)  <;> (try dsimp only [Ty.den, dflt_kv]) <;> (try simp only [List.length_append, List.length_cons, List.length_nil, List.length_take, List.length_drop, List.length_replicate]) <;> (first | trivial | assumption | omega | (change (_ : Int) ≤ _; omega) | (change (_ : Int) < _; omega) | (change (_ : Nat) * 1 ≤ _; omega) | (change (_ : Nat) * 48 ≤ _; omega) | (change (_ : Nat) * 24 ≤ _; omega) | (change (_ : Nat) * 8 ≤ _; omega) | (change (_ : Nat) * 64 ≤ _; omega) | decide)); done)); (conv => lhs; whnf); (try simp (maxSteps := 2000000) (disch := omega) only [nI64, nU64, nU32, nU8, nSubL, nAddL, nAdd, nSub, nDiv, nMod, nZ, nLit, row_3, row_4, row_5, row_16, row_22, row_85, Ty.den, dflt_it, dflt_li, dflt_kv, Int.toNat_natCast, List.take_length, List.drop_zero]))
      have e : ((a : Int) + 7 + b.getD (a + 4) 0 + 256 * b.getD (a + 5) 0) = ((a + 7 + lenN b a : Nat) : Int) := by omega
      rw [e, Nat.zero_add, Nat.zero_add]
      refine hK (a + 7 + lenN b a, (o.set (a + 4) true).set (a + 5) true) ⟨by show a + 7 + lenN b a ≤ _; omega, by show ((o.set (a + 4) true).set (a + 5) true).length = _; rw [List.length_set, List.length_set, k2], k3⟩ (by show b.length - (a + 7 + lenN b a) < b.length - a; omega)
  · refine br_no (tst_f (by omega)) ?_
    conv => lhs; whnf
    try simp (maxSteps := 2000000) (disch := omega) only [nI64, nU64, nU32, nU8, nSubL, nAddL, nAdd, nSub, nDiv, nMod, nZ, nLit, row_3, row_4, row_5, row_16, row_22, row_85, Ty.den, dflt_it, dflt_li, dflt_kv, Int.toNat_natCast, List.take_length, List.drop_zero]
    rw [lensA_end o h7] at k3
    repeat (refine br_go ?_ ?_; (focus (((repeat' first | exact rfl | exact ordB_st rfl | exact ordB_of rfl | apply band | apply tst_t | apply nt_t)  <;> (try dsimp only [Ty.den, dflt_kv]) <;> (try simp only [List.length_append, List.length_cons, List.length_nil, List.length_take, List.length_drop, List.length_replicate]) <;> (first | trivial | assumption | omega | (change (_ : Int) ≤ _; omega) | (change (_ : Int) < _; omega) | (change (_ : Nat) * 1 ≤ _; omega) | (change (_ : Nat) * 48 ≤ _; omega) | (change (_ : Nat) * 24 ≤ _; omega) | (change (_ : Nat) * 8 ≤ _; omega) | (change (_ : Nat) * 64 ≤ _; omega) | decide)); done)); (conv => lhs; whnf); (try simp (maxSteps := 2000000) (disch := omega) only [nI64, nU64, nU32, nU8, nSubL, nAddL, nAdd, nSub, nDiv, nMod, nZ, nLit, row_3, row_4, row_5, row_16, row_22, row_85, Ty.den, dflt_it, dflt_li, dflt_kv, Int.toNat_natCast, List.take_length, List.drop_zero]))
    rw [← k2, List.take_length, k3]
end Go.Proofs.YtbcfagackcnpkaaDoor.Ev
/- The contracts that the laws of logs need, in a table. -/
namespace Go.Proofs.YtbcfagackcnpkaaDoor.Ev
open Go Go.RowKit
set_option linter.unusedVariables false
set_option maxRecDepth 100000
set_option maxHeartbeats 8000000
noncomputable def T0 : Tab := tab0
theorem T0_far : TabFar Tryd.prog T0 := tab0_far
noncomputable def T1 : Tab := tabAdd T0 35 sumSp.ts sumSp.F
theorem T1_far : TabFar Tryd.prog T1 := add_ok sumSp T0_far (rows_ok _) at35 (by kernel_rfl) (by kernel_rfl) (sum_ok _)
noncomputable def T2 : Tab := tabAdd T1 39 fixedSp.ts fixedSp.F
theorem T2_far : TabFar Tryd.prog T2 := add_ok fixedSp T1_far (rows_ok _) at39 (by kernel_rfl) (by kernel_rfl) (fixed_ok _)
noncomputable def T3 : Tab := tabAdd T2 34 fixed4Sp.ts fixed4Sp.F
theorem T3_far : TabFar Tryd.prog T3 := add_ok fixed4Sp T2_far (rows_ok _) at34 (by kernel_rfl) (by kernel_rfl) (fixed4_ok _ rfl)
noncomputable def T4 : Tab := tabAdd T3 48 unfixedSp.ts unfixedSp.F
theorem T4_far : TabFar Tryd.prog T4 := add_ok unfixedSp T3_far (rows_ok _) at48 (by kernel_rfl) (by kernel_rfl) (unfixed_ok _)
noncomputable def T5 : Tab := tabAdd T4 38 unfixed4Sp.ts unfixed4Sp.F
theorem T5_far : TabFar Tryd.prog T5 := add_ok unfixed4Sp T4_far (rows_ok _) at38 (by kernel_rfl) (by kernel_rfl) (unfixed4_ok _ rfl)
noncomputable def T6 : Tab := tabAdd T5 42 trimRSp.ts trimRSp.F
theorem T6_far : TabFar Tryd.prog T6 := add_okW trimRSp T5_far (rows_ok _) at42 (by kernel_rfl) (by kernel_rfl) (trimR_ok _)
noncomputable def T7 : Tab := tabAdd T6 41 trimLSp.ts trimLSp.F
theorem T7_far : TabFar Tryd.prog T7 := add_okW trimLSp T6_far (rows_ok _) at41 (by kernel_rfl) (by kernel_rfl) (trimL_ok _)
noncomputable def T8 : Tab := tabAdd T7 26 roomSp.ts roomSp.F
theorem T8_far : TabFar Tryd.prog T8 := add_ok roomSp T7_far (rows_ok _) at26 (by kernel_rfl) (by kernel_rfl) (room_ok _)
noncomputable def T9 : Tab := tabAdd T8 28 kindSp.ts kindSp.F
theorem T9_far : TabFar Tryd.prog T9 := add_ok kindSp T8_far (rows_ok _) at28 (by kernel_rfl) (by kernel_rfl) (kind_ok _)
noncomputable def T10 : Tab := tabAdd T9 27 fragSp.ts fragSp.F
theorem T10_far : TabFar Tryd.prog T10 := add_ok fragSp T9_far (rows_ok _) at27 (by kernel_rfl) (by kernel_rfl) (frag_ok _ rfl rfl)
noncomputable def T11 : Tab := tabAdd T10 19 apSp.ts apSp.F
theorem T11_far : TabFar Tryd.prog T11 := add_ok apSp T10_far (rows_ok _) at19 (by kernel_rfl) (by kernel_rfl) (wappend_ok _ rfl rfl rfl)
noncomputable def T12 : Tab := tabAdd T11 22 lenSp.ts lenSp.F
theorem T12_far : TabFar Tryd.prog T12 := add_ok lenSp T11_far (rows_ok _) at22 (by kernel_rfl) (by kernel_rfl) (wlen_ok _ rfl)
noncomputable def T13 : Tab := tabAdd T12 31 nextSp.ts nextSp.F
theorem T13_far : TabFar Tryd.prog T13 := add_ok nextSp T12_far (rows_ok _) at31 (by kernel_rfl) (by kernel_rfl) (next_ok _ rfl rfl rfl rfl rfl rfl)
noncomputable def T14 : Tab := tabAdd T13 24 recSp.ts recSp.F
theorem T14_far : TabFar Tryd.prog T14 := add_okW recSp T13_far (rows_ok _) at24 (by kernel_rfl) (by kernel_rfl) (rec_ok _ rfl rfl)
noncomputable def T15 : Tab := tabAdd T14 11 readSp.ts readSp.F
theorem T15_far : TabFar Tryd.prog T15 := add_ok readSp T14_far (rows_ok _) at11 (by kernel_rfl) (by kernel_rfl) (read_ok _ rfl)
noncomputable def T16 : Tab := tabAdd T15 16 few5Sp.ts few5Sp.F
theorem T16_far : TabFar Tryd.prog T16 := add_ok few5Sp T15_far (rows_ok _) at16 (by kernel_rfl) (by kernel_rfl) (few5_ok _)
noncomputable def T17 : Tab := tabAdd T16 13 listsSp.ts listsSp.F
theorem T17_far : TabFar Tryd.prog T17 := add_ok listsSp T16_far (rows_ok _) at13 (by kernel_rfl) (by kernel_rfl) (lists_ok _)
noncomputable def T18 : Tab := tabAdd T17 10 knownSp.ts knownSp.F
theorem T18_far : TabFar Tryd.prog T18 := add_far knownSp T17_far at10 (by kernel_rfl) (by kernel_rfl) (fun x _ => known_far)
noncomputable def TB : Tab := T18
theorem TB_far : TabFar Tryd.prog TB := T18_far
end Go.Proofs.YtbcfagackcnpkaaDoor.Ev
/- From a walk to the law's statement, where the row lists package variables. -/
namespace Go.Proofs.YtbcfagackcnpkaaDoor.Ev
open Go Go.RowKit Go.ChangeShapes Go.ChangeAt Go.WideShapes
set_option linter.unusedVariables false
theorem law_row [tI : Tst] {K : Checked} {C : Ctx} {os : Os} {H : Type} {enc : TypeId × Value → H} {f : FuncId} {fn : Func} {s : ChangeSpec} {conds : List PathCond} {laid : List (String × DataW Unit)} {F : Stop.Interp} (hC : RowsOK K.prog C) (n : Nat)
    (own : ownKnob K.prog.godebug = none) (started : os.Started) (noInit : K.prog.inits.idxOf? f = none) (hfn : K.prog.funcs[f]? = some fn) (hlaid : laidOutB K.prog = true)
    (witness : ∃ (w : World) (tape : Tape) (i : Input), w.os = os ∧ (w.forCall tape i).Shaped K.prog ∧ i.vars = [] ∧ Input.okWide K.prog (w.forCall tape i) .any w.heap.size f i ∧
      (OpenSpec.ofChange s).preRow enc K.prog fn conds false laid (w.forCall tape i).memory i.args ∧ Assume.holds {} K.prog (lone (Frame.enter K.prog f i.args .normal) [] (w.forCall tape i)))
    (hvars : s.vars = []) {tb : TypeId} (hres : fn.resultTypes.toList = [tb]) (hrs : fn.resultTypes.size = 1) (htb : K.prog.underlying tb = some .bool) (hspec : ∀ ds : List (DataW H), ds.length = fn.params.toList.length → s.fn H ds = { results := [.lit (.bool true)], args := ds })
    (hopen : fn.params.toList.all (openB C n) = true) (hread : fn.params.toList.all (fun t => K.prog.readableRec t && decide (t < K.prog.types.size)) = true)
    (hlaw : ∀ xs, Typed C fn.params.toList xs → FarRes K.prog f xs (.d .bo true)) :
    ReturnsInHanded {} K os f .any ((OpenSpec.ofChange s).preRow enc K.prog fn conds false laid) (((OpenSpec.ofChange s).at F).post enc K.prog fn false true false false) := by
  refine returnsInHanded_of_row own started noInit hfn witness ?_
  intro W base args ds gs before hval hW _ _ hsz _ _ _
  have hW : DataW.Whole enc K.prog fn.params.toList s.vars false W args.toList ds gs before := hW
  have hsz : (DataW.weightsEach K.prog (fn.params.toList ++ s.plain.varTypes K.prog) (ds ++ gs)).all (· ≤ reachBytes) = true := hsz
  show Calls K.prog f args W fun e W' => ∃ v, e = .returned v ∧ s.post enc K.prog fn false true false false W args v W'
  have hW' := hW
  obtain ⟨p, q, hA, hV, rfl, hfz, hnd⟩ := hW
  rw [hvars] at hV
  obtain ⟨rfl, rfl⟩ := trodVars_none hV
  obtain ⟨l1, l2⟩ := trodAll_len hA
  have hvt : s.plain.varTypes K.prog = [] := by simp [DataSpec.varTypes, ChangeSpec.plain, hvars]
  rw [hvt, List.append_nil, List.append_nil] at hsz
  obtain ⟨xs, ht, hr⟩ := args_open hC (n := n) hA (fun j t v h1 h2 => hval j t v (by simpa using h1) (by simpa using h2)) hopen (fun j t d h1 h2 k hk => by
    have := List.all_eq_true.1 hsz _ (DataW.weights_mem_each h1 h2 k hk)
    simpa using this)
  have := hlaw xs ht (memOf W) W args.toList (fun e W' => e = .returned (.bool true) ∧ Below W.heap.size W W') (memOf_lies W) hr (by
    intro E' S' v' u w' k1 k2 k3 k4
    refine ⟨?_, by have := k2.below; rw [k1.lent] at this; exact this.to⟩
    rcases exportV_exp k4 with ⟨vs, vs', _, h, _⟩ | h
    · simp at h
    · generalize hz : V.d .bo true = z at h
      cases h with
      | d t x =>
        rw [← hz] at k3
        rw [rep_bool_iff.1 k3]
      | nils => simp at hz
      | un => simp at hz
      | own => simp at hz)
  rw [Array.toArray_toList] at this
  refine this.mono ?_
  rintro e W' ⟨rfl, bel⟩
  have hds : s.fn H (ds ++ []) = { results := [.lit (.bool true)], args := ds } := by rw [List.append_nil]; exact hspec ds l2
  refine ⟨_, rfl, ds, [], _, [], p, [], hW', ?_, ?_, ?_, bel.frame _, fun h => by cases h⟩
  · rw [hds, hres, hrs]
    exact trodAll_mk1 (shut_bool htb _)
  · rw [hds]
    exact args_stay hlaid bel hA hread
  · rw [hds, hvars]
    rfl
end Go.Proofs.YtbcfagackcnpkaaDoor.Ev
/- A world for the witness, where the listed variables hold what the row lists. -/
namespace Go.Proofs.YtbcfagackcnpkaaDoor.Ev
open Go Go.RowKit Go.ChangeShapes Go.ChangeAt Go.WideShapes
set_option linter.unusedVariables false
mutual
def flatD : DataW Unit → List Value
  | .lit l => [l.value]
  | .agg ps => flatDs ps
  | _ => []
def flatDs : List (DataW Unit) → List Value
  | [] => []
  | d :: ds => flatD d ++ flatDs ds
end
def putCells (vs : List Value) : Obj → Obj
  | .cells _ t frozen => .cells vs.toArray t frozen
  | o => o
/-- the settled world, globals 0 and 1 holding what the rows list -/
noncomputable def laidWorld (os : Os) : World :=
  { World.holding Tryd.prog os ⟨#[], #[], []⟩ with heap := ((World.holding Tryd.prog os ⟨#[], #[], []⟩).heap.modify 0 (putCells (flatD Rows.laid_unicode_utf8_first))).modify 1 (putCells (flatD Rows.laid_unicode_utf8_acceptRanges)) }
end Go.Proofs.YtbcfagackcnpkaaDoor.Ev
