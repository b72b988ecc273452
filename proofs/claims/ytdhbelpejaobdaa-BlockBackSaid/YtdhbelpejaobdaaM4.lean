/- Parts of the proof, joined by a program of this session: CSpecP, CParse, CSeek, CTab7, CBack. -/
import Derived.Test.YtdhbelpejaobdaaM3
set_option linter.unusedVariables false
set_option linter.unusedSimpArgs false
set_option linter.unusedSectionVars false
/- What is read as a block: the way of the program. -/
namespace Go.Proofs.Ytdhbelpejaobdaa.Ev
open Go Go.RowKit
set_option linter.unusedVariables false
set_option linter.unusedSimpArgs false
set_option maxHeartbeats 2000000
theorem takeS_pos : ∀ (l : List Int) (i : Nat) (acc : Int), (takeS l i acc).2.2 = 0 → (i : Int) + 1 ≤ (takeS l i acc).2.1
  | [], i, acc, h => by simp [takeS] at h
  | c :: l, i, acc, h => by
    simp only [takeS] at h ⊢
    split at h
    · simp at h
    · rename_i h1
      rw [if_neg h1]
      split at h
      · rename_i h2; rw [if_pos h2]; exact Int.le_refl _
      · rename_i h2
        rw [if_neg h2]
        have := takeS_pos l (i + 1) _ h
        omega
/-- a number that isn't bad: where it ends -/
theorem num_ok_at {b : List Int} {a : Int} (ha : 0 ≤ a ∧ a ≤ (b.length : Int)) (h : (numPost b a false).2.2.1 = false) : a + 1 ≤ (numPost b a false).2.1 ∧ (takeS (b.drop a.toNat) 0 0).2.2 = 0 ∧ (takeS (b.drop a.toNat) 0 0).1 ≤ b.length := by
  have hb : numBad b a.toNat = false := by simpa [numPost] using h
  have : ¬ ((takeS (b.drop a.toNat) 0 0).2.2 ≠ 0 ∨ (takeS (b.drop a.toNat) 0 0).1 > b.length) := by simpa [numBad] using hb
  have h0 : (takeS (b.drop a.toNat) 0 0).2.2 = 0 := by
    rcases Classical.em ((takeS (b.drop a.toNat) 0 0).2.2 = 0) with h | h
    · exact h
    · exact absurd (.inl h) this
  have := takeS_pos _ 0 0 h0
  refine ⟨?_, h0, by omega⟩
  show a + 1 ≤ a + _
  omega
theorem num_keeps (b : List Int) (a : Int) (bad : Bool) : (numPost b a bad).1 = b ∧ ((numPost b a bad).2.2.1 = false → bad = false ∧ (numPost b a false).2.2.1 = false) := by
  refine ⟨rfl, fun h => ?_⟩
  have h : (bad || numBad b a.toNat) = false := h
  rw [Bool.or_eq_false_iff] at h
  exact ⟨h.1, h.2⟩
theorem takeP_keeps (b : List Int) (a : Int) (bad : Bool) (n : Int) : (takePost b a bad n).2.2.1 = false → bad = false ∧ n ≤ b.length - a ∧ (takePost b a bad n).2.1 = a + n := by
  intro h
  have h1 : takeBad b a bad n = false := h
  have h2 : bad = false ∧ ¬ n > b.length - a := by simpa [takeBad] using h1
  refine ⟨h2.1, by omega, ?_⟩
  show (if takeBad b a bad n then a else a + n) = _
  rw [if_neg (by rw [h1]; exact Bool.false_ne_true)]
/-- an entry that isn't bad -/
structure EntOk (b : List Int) (a : Int) (last : List Int) : Prop where
  at1 : a + 3 ≤ (entP b a false last).1.2.1
  at2 : (entP b a false last).1.2.1 ≤ (b.length : Int)
  key : ((entP b a false last).2.1.length : Int) ≤ last.length + ((entP b a false last).1.2.1 - a)
  both : ((entP b a false last).2.1.length : Int) + (entP b a false last).2.2.1.length ≤ last.length + ((entP b a false last).1.2.1 - a)
  same : (entP b a false last).1 = (b, (entP b a false last).1.2.1, false, ())
theorem ent_good {b : List Int} (hb : Bytes b) {a : Int} {last : List Int} (ha : 0 ≤ a ∧ a ≤ (b.length : Int)) (h : (entP b a false last).1.2.2.1 = false) : EntOk b a last := by
  by_cases hk : numRes b a > last.length
  · rw [entP_bad hk] at h; simp at h
  have e := entP_no (bad := false) hk
  simp only at e
  have k1 := num_keeps b a false
  have k2 := num_keeps b (numPost b a false).2.1 (numPost b a false).2.2.1
  have k3 := num_keeps b (numPost b (numPost b a false).2.1 (numPost b a false).2.2.1).2.1 (numPost b (numPost b a false).2.1 (numPost b a false).2.2.1).2.2.1
  generalize hs1 : numPost b a false = s1 at *
  generalize hs2 : numPost b s1.2.1 s1.2.2.1 = s2 at *
  generalize hs3 : numPost b s2.2.1 s2.2.2.1 = s3 at *
  have k5 := takeP_keeps b s3.2.1 s3.2.2.1 (numRes b s1.2.1)
  generalize hs5 : takePost b s3.2.1 s3.2.2.1 (numRes b s1.2.1) = s5 at *
  have k6 := takeP_keeps b s5.2.1 s5.2.2.1 (numRes b s2.2.1)
  generalize hs6 : takePost b s5.2.1 s5.2.2.1 (numRes b s2.2.1) = s6 at *
  by_cases h6 : s6.2.2.1 = true
  · rw [e, if_pos h6] at h
    rw [h6] at h; simp at h
  have h6 := Bool.eq_false_iff.2 h6
  rw [e, if_neg (by rw [h6]; exact Bool.false_ne_true)] at h
  obtain ⟨b5, l6, p6⟩ := k6 h6
  obtain ⟨b3, l5, p5⟩ := k5 b5
  obtain ⟨b2, c3⟩ := k3.2 b3
  obtain ⟨b1, c2⟩ := k2.2 b2
  rw [b1] at hs2
  rw [b2] at hs3
  have g1 := num_ok_at ha (by rw [hs1]; exact b1)
  rw [hs1] at g1
  have at1 := num_at (bad := false) ha
  rw [hs1] at at1
  have g2 := num_ok_at at1 (by rw [hs2]; exact b2)
  rw [hs2] at g2
  have at2 := num_at (bad := false) at1
  rw [hs2] at at2
  have g3 := num_ok_at at2 (by rw [hs3]; exact b3)
  rw [hs3] at g3
  have at3 := num_at (bad := false) at2
  rw [hs3] at at3
  have r0 := num_res hb ha
  have r1 := num_res hb at1
  have r2 := num_res hb at2
  have t1 : (takeRes b s3.2.1 s3.2.2.1 (numRes b s1.2.1)).length ≤ (numRes b s1.2.1).toNat := by
    unfold takeRes; split
    · simp
    · rw [List.length_take]; omega
  have t2 : (takeRes b s5.2.1 s5.2.2.1 (numRes b s2.2.1)).length ≤ (numRes b s2.2.1).toNat := by
    unfold takeRes; split
    · simp
    · rw [List.length_take]; omega
  have hl : (last.take (numRes b a).toNat).length ≤ last.length := by rw [List.length_take]; omega
  have h6e : s6 = (b, s6.2.1, false, ()) := by
    have : s6.1 = b := by rw [← hs6]; rfl
    rw [← this, ← h6]
  rw [if_neg (by rw [h6]; exact Bool.false_ne_true)] at e
  constructor
  · rw [e]; show a + 3 ≤ s6.2.1; omega
  · rw [e]; show s6.2.1 ≤ _; omega
  · rw [e]
    show ((last.take (numRes b a).toNat ++ takeRes b s3.2.1 s3.2.2.1 (numRes b s1.2.1)).length : Int) ≤ last.length + (s6.2.1 - a)
    rw [List.length_append]; omega
  · rw [e]
    show ((last.take (numRes b a).toNat ++ takeRes b s3.2.1 s3.2.2.1 (numRes b s1.2.1)).length : Int) + (takeRes b s5.2.1 s5.2.2.1 (numRes b s2.2.1)).length ≤ last.length + (s6.2.1 - a)
    rw [List.length_append]; omega
  · rw [e]; exact h6e
noncomputable section
/-- the entries from a place on: two restarts or more; where the second one is; the restart that was seen -/
def pGo (d : List Int) (two : Prop) [Decidable two] (sec : Int) (a rs : Int) (l : List KV) (last : List Int) : Option (Int × List KV) :=
  if h : a < d.length then
    if (entP d a false last).1.2.2.1 = true then none
    else if h2 : a < (entP d a false last).1.2.1 then pGo d two sec (entP d a false last).1.2.1 (if two ∧ a = sec then l.length else rs) (l ++ [(entP d a false last).2]) (entP d a false last).2.1 else none
  else some (rs, l)
termination_by (d.length - a).toNat
def parseF (b : List Int) (n : Int) (d : List Int) (sec : Int) : List KV × Int :=
  match pGo d (n > 1) sec 0 0 [] [] with
  | none => ([], 72)
  | some (rs, l) => if (buildS l (if n ≤ 1 then max (l.length : Int) 1 else rs) 71 70).2 = 0 ∧ (buildS l (if n ≤ 1 then max (l.length : Int) 1 else rs) 71 70).1 = b then (l, 0) else ([], 72)
def parseS (b : List Int) : List KV × Int :=
  if b.length < 4 then ([], 72)
  else if (unfixedS (b.drop (b.length - 4)) 4).1 > ((b.length - 4) / 4 : Nat) then ([], 72)
  else parseF b (unfixedS (b.drop (b.length - 4)) 4).1 (b.take (b.length - 4 - 4 * (unfixedS (b.drop (b.length - 4)) 4).1.toNat))
    (if (unfixedS (b.drop (b.length - 4)) 4).1 > 1 then (unfixedS (b.drop (b.length - 4 * (unfixedS (b.drop (b.length - 4)) 4).1.toNat)) 4).1 else 0)
def parsePre (b : List Int) : Bool := tst (b.length ≤ 20000)
def parseSp : Sp := ⟨[byl], fun x => parsePre x.1, fun x => .tup [.own 0 kv (parseS x.1).1, vI (parseS x.1).2]⟩
end
end Go.Proofs.Ytdhbelpejaobdaa.Ev
/- A block's entries, read by the program. -/
namespace Go.Proofs.Ytdhbelpejaobdaa.Ev
open Go Go.RowKit
set_option linter.unusedVariables false
set_option linter.unusedSimpArgs false
set_option maxRecDepth 100000
set_option maxHeartbeats 8000000
abbrev bequalC : Ctx := ⟨rows, (fun  | _ => ([], []))⟩
theorem bequal_ok (T : Tab) : equalSp.Ok T bequalC F37 := by
  rintro ⟨(a : List Int), (b : List Int), _⟩ hf _
  obtain ⟨F, hF⟩ : ∃ F : Nat, F = 1 := ⟨_, rfl⟩
  refine ⟨F, 0, ?_⟩
  show evFn _ _ _ _ _ [vB a, vB b] [] _ = some (vT (a = b) : V)
  conv => lhs; whnf
  try simp (disch := omega) only [nI64, nU64, nU32, nU8, nSubL, nAddL, nAdd, nSub, nDiv, nMod, nZ, nLit, row_3, row_5, row_16, row_26, row_42, row_58, Ty.den, dflt_it, dflt_li, dflt_kv, Int.toNat_natCast, List.take_length, List.drop_zero]
  repeat (refine br_go ?_ ?_; (focus (((repeat' first | exact rfl | exact ordB_st rfl | exact ordB_of rfl | apply band | apply tst_t | apply nt_t)  <;> (try dsimp only [Ty.den, dflt_kv]) <;> (try simp only [List.length_append, List.length_cons, List.length_nil, List.length_take, List.length_drop, List.length_replicate]) <;> (first | trivial | assumption | omega | (change (_ : Int) ≤ _; omega) | (change (_ : Int) < _; omega) | (change (_ : Nat) * 1 ≤ _; omega) | (change (_ : Nat) * 48 ≤ _; omega) | (change (_ : Nat) * 24 ≤ _; omega) | (change (_ : Nat) * 8 ≤ _; omega) | (change (_ : Nat) * 64 ≤ _; omega) | decide)); done)); (conv => lhs; whnf); (try simp (disch := omega) only [nI64, nU64, nU32, nU8, nSubL, nAddL, nAdd, nSub, nDiv, nMod, nZ, nLit, row_3, row_5, row_16, row_26, row_42, row_58, Ty.den, dflt_it, dflt_li, dflt_kv, Int.toNat_natCast, List.take_length, List.drop_zero]))
theorem total_append (l : List KV) (x : KV) : total (l ++ [x]) = total l + (x.1.length + x.2.1.length) := by
  induction l with
  | nil => simp [total]
  | cons y l ih => rw [List.cons_append, total_cons, total_cons, ih]; omega
abbrev parseC : Ctx := ⟨rows, (fun | 0 => ([0, 5, 7, 8, 9, 10, 11], [0, 5, 8, 10]) | 1 => ([], [0, 5, 7, 8, 9, 10, 11]) | _ => ([], []))⟩
/-- what is told behind the loop -/
def parseR (b : List Int) (n : Int) : Option (Int × List KV) → Option V
  | none => some (.tup [.own 0 kv ([] : List KV), vI 72])
  | some (rs, l) => some (.tup [.own 0 kv (if (buildS l (if n ≤ 1 then max (l.length : Int) 1 else rs) 71 70).2 = 0 ∧ (buildS l (if n ≤ 1 then max (l.length : Int) 1 else rs) 71 70).1 = b then l else []), vI (if (buildS l (if n ≤ 1 then max (l.length : Int) 1 else rs) 71 70).2 = 0 ∧ (buildS l (if n ≤ 1 then max (l.length : Int) 1 else rs) 71 70).1 = b then 0 else 72)])
def flO (o : Nat) (fl : Bool) (l : List Int) : V := match fl with | true => vO o l | false => vB l
theorem parseF_R (b : List Int) (n : Int) (d : List Int) (sec : Int) : parseR b n (pGo d (n > 1) sec 0 0 [] []) = some (.tup [.own 0 kv (parseF b n d sec).1, vI (parseF b n d sec).2]) := by
  unfold parseF
  cases pGo d (n > 1) sec 0 0 [] [] with
  | none => rfl
  | some x =>
    obtain ⟨rs, l⟩ := x
    simp only [parseR]
    by_cases h : (buildS l (if n ≤ 1 then max (l.length : Int) 1 else rs) 71 70).2 = 0 ∧ (buildS l (if n ≤ 1 then max (l.length : Int) 1 else rs) 71 70).1 = b
    · rw [if_pos h, if_pos h, if_pos h]
    · rw [if_neg h, if_neg h, if_neg h]
theorem parse_ok (M : MTab) (T : Tab) (h1 : M 36 = some entMSp.ent) (h2 : T 36 = none) (h3 : T 35 = unfixed4Sp.ent) (h4 : T 14 = buildSp.ent) (h5 : T 37 = equalSp.ent) : parseSp.OkM M T parseC F18 := by
  rw [m_on_top h1, off_top h2, on_top h3, on_top h4, on_top h5]
  rintro ⟨(b : List Int), _⟩ hf hp
  have hl : b.length ≤ 20000 := tst_iff.1 hp
  have hb : Bytes b := bytes_of hf.1
  obtain ⟨F, hF⟩ : ∃ F : Nat, F = b.length + 5 := ⟨_, rfl⟩
  refine ⟨F, 0, ?_⟩
  show evFn _ _ _ _ _ [vB b] [] _ = some (.tup [.own 0 kv (parseS b).1, vI (parseS b).2] : V)
  conv => lhs; whnf
  try simp (disch := omega) only [nI64, nU64, nU32, nU8, nSubL, nAddL, nAdd, nSub, nDiv, nMod, nZ, nLit, row_3, row_5, row_16, row_26, row_42, row_58, Ty.den, dflt_it, dflt_li, dflt_kv, Int.toNat_natCast, List.take_length, List.drop_zero]
  by_cases g1 : b.length < 4
  · have e : parseS b = ([], 72) := if_pos g1
    rw [e]
    refine br_go (tst_t (by omega)) ?_
    conv => lhs; whnf
    try simp (disch := omega) only [nI64, nU64, nU32, nU8, nSubL, nAddL, nAdd, nSub, nDiv, nMod, nZ, nLit, row_3, row_5, row_16, row_26, row_42, row_58, Ty.den, dflt_it, dflt_li, dflt_kv, Int.toNat_natCast, List.take_length, List.drop_zero]
    repeat (refine br_go ?_ ?_; (focus (((repeat' first | exact rfl | exact ordB_st rfl | exact ordB_of rfl | apply band | apply tst_t | apply nt_t)  <;> (try dsimp only [Ty.den, dflt_kv]) <;> (try simp only [List.length_append, List.length_cons, List.length_nil, List.length_take, List.length_drop, List.length_replicate]) <;> (first | trivial | assumption | omega | (change (_ : Int) ≤ _; omega) | (change (_ : Int) < _; omega) | (change (_ : Nat) * 1 ≤ _; omega) | (change (_ : Nat) * 48 ≤ _; omega) | (change (_ : Nat) * 24 ≤ _; omega) | (change (_ : Nat) * 8 ≤ _; omega) | (change (_ : Nat) * 64 ≤ _; omega) | decide)); done)); (conv => lhs; whnf); (try simp (disch := omega) only [nI64, nU64, nU32, nU8, nSubL, nAddL, nAdd, nSub, nDiv, nMod, nZ, nLit, row_3, row_5, row_16, row_26, row_42, row_58, Ty.den, dflt_it, dflt_li, dflt_kv, Int.toNat_natCast, List.take_length, List.drop_zero]))
  · refine br_no (tst_f (by omega)) ?_
    conv => lhs; whnf
    try simp (disch := omega) only [nI64, nU64, nU32, nU8, nSubL, nAddL, nAdd, nSub, nDiv, nMod, nZ, nLit, row_3, row_5, row_16, row_26, row_42, row_58, Ty.den, dflt_it, dflt_li, dflt_kv, Int.toNat_natCast, List.take_length, List.drop_zero]
    repeat (refine br_go ?_ ?_; (focus (((repeat' first | exact rfl | exact ordB_st rfl | exact ordB_of rfl | apply band | apply tst_t | apply nt_t)  <;> (try dsimp only [Ty.den, dflt_kv]) <;> (try simp only [List.length_append, List.length_cons, List.length_nil, List.length_take, List.length_drop, List.length_replicate]) <;> (first | trivial | assumption | omega | (change (_ : Int) ≤ _; omega) | (change (_ : Int) < _; omega) | (change (_ : Nat) * 1 ≤ _; omega) | (change (_ : Nat) * 48 ≤ _; omega) | (change (_ : Nat) * 24 ≤ _; omega) | (change (_ : Nat) * 8 ≤ _; omega) | (change (_ : Nat) * 64 ≤ _; omega) | decide)); done)); (conv => lhs; whnf); (try simp (disch := omega) only [nI64, nU64, nU32, nU8, nSubL, nAddL, nAdd, nSub, nDiv, nMod, nZ, nLit, row_3, row_5, row_16, row_26, row_42, row_58, Ty.den, dflt_it, dflt_li, dflt_kv, Int.toNat_natCast, List.take_length, List.drop_zero]))
    have hn0 := unfixedS_range (hb.drop (b.length - 4)) 4
    have e256 : ((256 ^ 4 : Nat) : Int) = 4294967296 := by decide
    rw [e256] at hn0
    obtain ⟨n, hn⟩ : ∃ n : Nat, (unfixedS (List.drop (b.length - 4) b) 4).1 = n := ⟨(unfixedS (List.drop (b.length - 4) b) 4).1.toNat, by omega⟩
    have e0 : parseS b = if (n : Int) > ((b.length - 4) / 4 : Nat) then ([], 72) else parseF b n (b.take (b.length - 4 - 4 * n)) (if (n : Int) > 1 then (unfixedS (b.drop (b.length - 4 * n)) 4).1 else 0) := by
      unfold parseS
      rw [if_neg g1, hn, Int.toNat_natCast]
    rw [hn] at hn0
    rw [e0]
    try simp (disch := omega) only [nI64, nU64, nU32, nU8, nSubL, nAddL, nAdd, nSub, nDiv, nMod, nZ, nLit, row_3, row_5, row_16, row_26, row_42, row_58, Ty.den, dflt_it, dflt_li, dflt_kv, Int.toNat_natCast, List.take_length, List.drop_zero, hn]
    by_cases g2 : n > (b.length - 4) / 4
    · rw [if_pos (by omega)]
      refine br_go (tst_t (by omega)) ?_
      conv => lhs; whnf
      try simp (disch := omega) only [nI64, nU64, nU32, nU8, nSubL, nAddL, nAdd, nSub, nDiv, nMod, nZ, nLit, row_3, row_5, row_16, row_26, row_42, row_58, Ty.den, dflt_it, dflt_li, dflt_kv, Int.toNat_natCast, List.take_length, List.drop_zero]
      repeat (refine br_go ?_ ?_; (focus (((repeat' first | exact rfl | exact ordB_st rfl | exact ordB_of rfl | apply band | apply tst_t | apply nt_t)  <;> (try dsimp only [Ty.den, dflt_kv]) <;> (try simp only [List.length_append, List.length_cons, List.length_nil, List.length_take, List.length_drop, List.length_replicate]) <;> (first | trivial | assumption | omega | (change (_ : Int) ≤ _; omega) | (change (_ : Int) < _; omega) | (change (_ : Nat) * 1 ≤ _; omega) | (change (_ : Nat) * 48 ≤ _; omega) | (change (_ : Nat) * 24 ≤ _; omega) | (change (_ : Nat) * 8 ≤ _; omega) | (change (_ : Nat) * 64 ≤ _; omega) | decide)); done)); (conv => lhs; whnf); (try simp (disch := omega) only [nI64, nU64, nU32, nU8, nSubL, nAddL, nAdd, nSub, nDiv, nMod, nZ, nLit, row_3, row_5, row_16, row_26, row_42, row_58, Ty.den, dflt_it, dflt_li, dflt_kv, Int.toNat_natCast, List.take_length, List.drop_zero]))
    · rw [if_neg (by omega)]
      refine br_no (tst_f (by omega)) ?_
      conv => lhs; whnf
      try simp (disch := omega) only [nI64, nU64, nU32, nU8, nSubL, nAddL, nAdd, nSub, nDiv, nMod, nZ, nLit, row_3, row_5, row_16, row_26, row_42, row_58, Ty.den, dflt_it, dflt_li, dflt_kv, Int.toNat_natCast, List.take_length, List.drop_zero]
      repeat (refine br_go ?_ ?_; (focus (((repeat' first | exact rfl | exact ordB_st rfl | exact ordB_of rfl | apply band | apply tst_t | apply nt_t)  <;> (try dsimp only [Ty.den, dflt_kv]) <;> (try simp only [List.length_append, List.length_cons, List.length_nil, List.length_take, List.length_drop, List.length_replicate]) <;> (first | trivial | assumption | omega | (change (_ : Int) ≤ _; omega) | (change (_ : Int) < _; omega) | (change (_ : Nat) * 1 ≤ _; omega) | (change (_ : Nat) * 48 ≤ _; omega) | (change (_ : Nat) * 24 ≤ _; omega) | (change (_ : Nat) * 8 ≤ _; omega) | (change (_ : Nat) * 64 ≤ _; omega) | decide)); done)); (conv => lhs; whnf); (try simp (disch := omega) only [nI64, nU64, nU32, nU8, nSubL, nAddL, nAdd, nSub, nDiv, nMod, nZ, nLit, row_3, row_5, row_16, row_26, row_42, row_58, Ty.den, dflt_it, dflt_li, dflt_kv, Int.toNat_natCast, List.take_length, List.drop_zero]))
      have hD : (List.take ((b.length : Int) - 4 - 4 * (n : Int)).toNat b).length = b.length - 4 - 4 * n := by rw [List.length_take]; omega
      have hDt : ((b.length : Int) - 4 - 4 * (n : Int)).toNat = b.length - 4 - 4 * n := by omega
      obtain ⟨d, hd⟩ : ∃ d, d = List.take (b.length - 4 - 4 * n) b := ⟨_, rfl⟩
      have hdl : d.length = b.length - 4 - 4 * n := by rw [hd, List.length_take]; omega
      have hbd : Bytes d := by rw [hd]; exact hb.take _
      have hi4 : d.length + 4 = b.length - 4 * n := by omega
      by_cases g3 : n > 1
      · refine br_go (tst_t (by omega)) ?_
        conv => lhs; whnf
        try simp (disch := omega) only [nI64, nU64, nU32, nU8, nSubL, nAddL, nAdd, nSub, nDiv, nMod, nZ, nLit, row_3, row_5, row_16, row_26, row_42, row_58, Ty.den, dflt_it, dflt_li, dflt_kv, Int.toNat_natCast, List.take_length, List.drop_zero]
        try simp (disch := omega) only [nI64, nU64, nU32, nU8, nSubL, nAddL, nAdd, nSub, nDiv, nMod, nZ, nLit, row_3, row_5, row_16, row_26, row_42, row_58, Ty.den, dflt_it, dflt_li, dflt_kv, Int.toNat_natCast, List.take_length, List.drop_zero, hD, hDt]
        repeat (refine br_go ?_ ?_; (focus (((repeat' first | exact rfl | exact ordB_st rfl | exact ordB_of rfl | apply band | apply tst_t | apply nt_t)  <;> (try dsimp only [Ty.den, dflt_kv]) <;> (try simp only [List.length_append, List.length_cons, List.length_nil, List.length_take, List.length_drop, List.length_replicate]) <;> (first | trivial | assumption | omega | (change (_ : Int) ≤ _; omega) | (change (_ : Int) < _; omega) | (change (_ : Nat) * 1 ≤ _; omega) | (change (_ : Nat) * 48 ≤ _; omega) | (change (_ : Nat) * 24 ≤ _; omega) | (change (_ : Nat) * 8 ≤ _; omega) | (change (_ : Nat) * 64 ≤ _; omega) | decide)); done)); (conv => lhs; whnf); (try simp (disch := omega) only [nI64, nU64, nU32, nU8, nSubL, nAddL, nAdd, nSub, nDiv, nMod, nZ, nLit, row_3, row_5, row_16, row_26, row_42, row_58, Ty.den, dflt_it, dflt_li, dflt_kv, Int.toNat_natCast, List.take_length, List.drop_zero]))
        rw [if_pos (show (n : Int) > 1 by omega)]
        try simp (disch := omega) only [nI64, nU64, nU32, nU8, nSubL, nAddL, nAdd, nSub, nDiv, nMod, nZ, nLit, row_3, row_5, row_16, row_26, row_42, row_58, Ty.den, dflt_it, dflt_li, dflt_kv, Int.toNat_natCast, List.take_length, List.drop_zero, ← hd, hi4]
        have hsr := unfixedS_range (hb.drop (b.length - 4 * n)) 4
        rw [e256] at hsr
        refine (loop_rule (α := Bool × Int × Int × List KV × List Int) (fun a => 0 ≤ a.2.1 ∧ a.2.1 ≤ (d.length : Int) ∧ (a.2.2.2.1.length : Int) ≤ a.2.1 ∧ (a.2.2.2.2.length : Int) ≤ a.2.1 ∧ total a.2.2.2.1 ≤ 40000 * a.2.2.2.1.length ∧ (a.1 = true → a.2.2.2.2 = [])) (fun a => (d.length - a.2.1).toNat)
          (fun a => (vB b :: V.bad :: V.bad :: V.bad :: V.bad :: vW n :: V.bad :: V.p 4 0 :: vI a.2.2.1 :: vW (unfixedS (b.drop (b.length - 4 * n)) 4).1 :: V.own 7 kv a.2.2.2.1 :: flO 8 a.1 a.2.2.2.2 :: V.bad :: V.bad :: V.bad :: V.bad :: V.bad :: V.bad :: V.bad :: V.bad :: V.bad :: V.bad :: V.bad :: V.bad :: V.bad :: V.bad :: V.bad :: V.bad :: V.bad :: V.bad :: V.bad :: V.bad :: V.bad :: V.bad :: V.bad :: V.bad :: V.bad :: V.bad :: V.bad :: V.bad :: V.bad :: V.bad :: V.bad :: V.bad :: V.bad :: V.bad :: V.bad :: V.bad :: V.bad :: V.bad :: V.bad :: V.bad :: V.bad :: V.bad :: V.bad :: V.bad :: V.bad :: V.bad :: V.bad :: V.bad :: V.bad :: V.bad :: V.bad :: V.bad :: V.bad :: V.bad :: V.bad :: V.bad :: V.bad :: V.bad :: V.bad :: V.bad :: V.bad :: V.bad :: V.bad :: V.bad :: V.bad :: V.bad :: V.bad :: V.bad :: V.bad :: V.bad :: V.bad :: V.bad :: V.bad :: V.bad :: V.bad :: V.bad :: V.bad :: V.bad :: V.bad :: V.bad :: V.bad :: V.bad :: V.bad :: V.bad :: V.bad :: V.bad :: V.bad :: V.bad :: V.bad :: V.bad :: V.bad :: V.bad :: V.bad :: V.bad :: V.bad :: V.bad :: V.bad :: V.bad :: V.bad :: V.bad :: V.bad :: V.bad :: V.bad :: V.bad :: V.bad :: []))
          (fun a => [.fam 0, .gone, .gone, .fam d.length, .obj [flO 3 a.1 d, vI a.2.1, .d .bo false], .gone, .gone, .fam a.2.2.2.1.length, .fam 0])
          (fun a => parseR b n (pGo d ((n : Int) > 1) (unfixedS (b.drop (b.length - 4 * n)) 4).1 a.2.1 a.2.2.1 a.2.2.2.1 a.2.2.2.2)) ?_ F (true, 0, 0, [], []) ⟨Int.le_refl 0, by show (0 : Int) ≤ d.length; omega, by show ((0 : Nat) : Int) ≤ 0; omega, by show ((0 : Nat) : Int) ≤ 0; omega, Nat.zero_le _, fun _ => rfl⟩ (by show ((d.length : Int) - 0).toNat < F; omega)).trans (parseF_R _ _ _ _)
        rintro ⟨fl, a, rs, l, last⟩ K ⟨k1, k2, k3, k4, k5, k6⟩ hK
        simp only at k1 k2 k3 k4 k5 k6 hK ⊢
        rw [pGo]
        have hpre : entPre d a = true := band (band (tst_t k1) (tst_t k2)) (tst_t (show d.length ≤ 1099511627776 by omega))
        cases fl
        all_goals
          conv => lhs; whnf
          try simp (disch := omega) only [nI64, nU64, nU32, nU8, nSubL, nAddL, nAdd, nSub, nDiv, nMod, nZ, nLit, row_3, row_5, row_16, row_26, row_42, row_58, Ty.den, dflt_it, dflt_li, dflt_kv, Int.toNat_natCast, List.take_length, List.drop_zero]
          repeat (refine br_go ?_ ?_; (focus (((repeat' first | exact rfl | exact ordB_st rfl | exact ordB_of rfl | apply band | apply tst_t | apply nt_t)  <;> (try dsimp only [Ty.den, dflt_kv]) <;> (try simp only [List.length_append, List.length_cons, List.length_nil, List.length_take, List.length_drop, List.length_replicate]) <;> (first | trivial | assumption | omega | (change (_ : Int) ≤ _; omega) | (change (_ : Int) < _; omega) | (change (_ : Nat) * 1 ≤ _; omega) | (change (_ : Nat) * 48 ≤ _; omega) | (change (_ : Nat) * 24 ≤ _; omega) | (change (_ : Nat) * 8 ≤ _; omega) | (change (_ : Nat) * 64 ≤ _; omega) | decide)); done)); (conv => lhs; whnf); (try simp (disch := omega) only [nI64, nU64, nU32, nU8, nSubL, nAddL, nAdd, nSub, nDiv, nMod, nZ, nLit, row_3, row_5, row_16, row_26, row_42, row_58, Ty.den, dflt_it, dflt_li, dflt_kv, Int.toNat_natCast, List.take_length, List.drop_zero]))
          by_cases ha : a < (d.length : Int)
          · rw [dif_pos ha]
            refine br_go (tst_t (ha)) ?_
            conv => lhs; whnf
            try simp (disch := omega) only [nI64, nU64, nU32, nU8, nSubL, nAddL, nAdd, nSub, nDiv, nMod, nZ, nLit, row_3, row_5, row_16, row_26, row_42, row_58, Ty.den, dflt_it, dflt_li, dflt_kv, Int.toNat_natCast, List.take_length, List.drop_zero]
            refine br_go (tst_t (by omega)) ?_
            conv => lhs; whnf
            try simp (disch := omega) only [nI64, nU64, nU32, nU8, nSubL, nAddL, nAdd, nSub, nDiv, nMod, nZ, nLit, row_3, row_5, row_16, row_26, row_42, row_58, Ty.den, dflt_it, dflt_li, dflt_kv, Int.toNat_natCast, List.take_length, List.drop_zero]
            by_cases hs : a = (unfixedS (b.drop (b.length - 4 * n)) 4).1
            · refine br_go (tst_t (hs)) ?_
              conv => lhs; whnf
              try simp (disch := omega) only [nI64, nU64, nU32, nU8, nSubL, nAddL, nAdd, nSub, nDiv, nMod, nZ, nLit, row_3, row_5, row_16, row_26, row_42, row_58, Ty.den, dflt_it, dflt_li, dflt_kv, Int.toNat_natCast, List.take_length, List.drop_zero]
              refine br_go (hpre) ?_
              conv => lhs; whnf
              try simp (disch := omega) only [nI64, nU64, nU32, nU8, nSubL, nAddL, nAdd, nSub, nDiv, nMod, nZ, nLit, row_3, row_5, row_16, row_26, row_42, row_58, Ty.den, dflt_it, dflt_li, dflt_kv, Int.toNat_natCast, List.take_length, List.drop_zero]
              by_cases hbad : (entP d a false last).1.2.2.1 = true
              · rw [if_pos hbad]
                refine br_go (hbad) ?_
                conv => lhs; whnf
                try simp (disch := omega) only [nI64, nU64, nU32, nU8, nSubL, nAddL, nAdd, nSub, nDiv, nMod, nZ, nLit, row_3, row_5, row_16, row_26, row_42, row_58, Ty.den, dflt_it, dflt_li, dflt_kv, Int.toNat_natCast, List.take_length, List.drop_zero]
                repeat (refine br_go ?_ ?_; (focus (((repeat' first | exact rfl | exact ordB_st rfl | exact ordB_of rfl | apply band | apply tst_t | apply nt_t)  <;> (try dsimp only [Ty.den, dflt_kv]) <;> (try simp only [List.length_append, List.length_cons, List.length_nil, List.length_take, List.length_drop, List.length_replicate]) <;> (first | trivial | assumption | omega | (change (_ : Int) ≤ _; omega) | (change (_ : Int) < _; omega) | (change (_ : Nat) * 1 ≤ _; omega) | (change (_ : Nat) * 48 ≤ _; omega) | (change (_ : Nat) * 24 ≤ _; omega) | (change (_ : Nat) * 8 ≤ _; omega) | (change (_ : Nat) * 64 ≤ _; omega) | decide)); done)); (conv => lhs; whnf); (try simp (disch := omega) only [nI64, nU64, nU32, nU8, nSubL, nAddL, nAdd, nSub, nDiv, nMod, nZ, nLit, row_3, row_5, row_16, row_26, row_42, row_58, Ty.den, dflt_it, dflt_li, dflt_kv, Int.toNat_natCast, List.take_length, List.drop_zero]))
                rfl
              · rw [if_neg hbad]
                have hbad := Bool.eq_false_iff.2 hbad
                refine br_no (hbad) ?_
                conv => lhs; whnf
                try simp (disch := omega) only [nI64, nU64, nU32, nU8, nSubL, nAddL, nAdd, nSub, nDiv, nMod, nZ, nLit, row_3, row_5, row_16, row_26, row_42, row_58, Ty.den, dflt_it, dflt_li, dflt_kv, Int.toNat_natCast, List.take_length, List.drop_zero]
                have hg := ent_good hbd ⟨k1, k2⟩ hbad
                have g1 := hg.at1
                have g2 := hg.at2
                have g4 := hg.key
                have g5 := hg.both
                have gs := hg.same
                repeat (refine br_go ?_ ?_; (focus (((repeat' first | exact rfl | exact ordB_st rfl | exact ordB_of rfl | apply band | apply tst_t | apply nt_t)  <;> (try dsimp only [Ty.den, dflt_kv]) <;> (try simp only [List.length_append, List.length_cons, List.length_nil, List.length_take, List.length_drop, List.length_replicate]) <;> (first | trivial | assumption | omega | (change (_ : Int) ≤ _; omega) | (change (_ : Int) < _; omega) | (change (_ : Nat) * 1 ≤ _; omega) | (change (_ : Nat) * 48 ≤ _; omega) | (change (_ : Nat) * 24 ≤ _; omega) | (change (_ : Nat) * 8 ≤ _; omega) | (change (_ : Nat) * 64 ≤ _; omega) | decide)); done)); (conv => lhs; whnf); (try simp (disch := omega) only [nI64, nU64, nU32, nU8, nSubL, nAddL, nAdd, nSub, nDiv, nMod, nZ, nLit, row_3, row_5, row_16, row_26, row_42, row_58, Ty.den, dflt_it, dflt_li, dflt_kv, Int.toNat_natCast, List.take_length, List.drop_zero]))
                rw [dif_pos (show a < (entP d a false last).1.2.1 by omega), if_pos ⟨show (n : Int) > 1 by omega, hs⟩]
                have e1 : (entMSp.post (d, a, false, ()) (last, ())).1 = d := congrArg (·.1) gs
                have e3 : (entMSp.post (d, a, false, ()) (last, ())).2.2.1 = false := hbad
                rw [e1, e3]
                exact hK (false, (entP d a false last).1.2.1, (l.length : Int), l ++ [(entP d a false last).2], (entP d a false last).2.1) ⟨by show 0 ≤ (entP d a false last).1.2.1; omega, g2, by show ((l ++ [_]).length : Int) ≤ (entP d a false last).1.2.1; rw [List.length_append, List.length_singleton]; omega, by show (((entP d a false last).2.1).length : Int) ≤ (entP d a false last).1.2.1; omega, by show total (l ++ [_]) ≤ 40000 * (l ++ [_]).length; rw [total_append, List.length_append, List.length_singleton]; omega, fun h => by cases h⟩ (by show ((d.length : Int) - (entP d a false last).1.2.1).toNat < _; omega)
            · refine br_no (tst_f (hs)) ?_
              conv => lhs; whnf
              try simp (disch := omega) only [nI64, nU64, nU32, nU8, nSubL, nAddL, nAdd, nSub, nDiv, nMod, nZ, nLit, row_3, row_5, row_16, row_26, row_42, row_58, Ty.den, dflt_it, dflt_li, dflt_kv, Int.toNat_natCast, List.take_length, List.drop_zero]
              refine br_go (hpre) ?_
              conv => lhs; whnf
              try simp (disch := omega) only [nI64, nU64, nU32, nU8, nSubL, nAddL, nAdd, nSub, nDiv, nMod, nZ, nLit, row_3, row_5, row_16, row_26, row_42, row_58, Ty.den, dflt_it, dflt_li, dflt_kv, Int.toNat_natCast, List.take_length, List.drop_zero]
              by_cases hbad : (entP d a false last).1.2.2.1 = true
              · rw [if_pos hbad]
                refine br_go (hbad) ?_
                conv => lhs; whnf
                try simp (disch := omega) only [nI64, nU64, nU32, nU8, nSubL, nAddL, nAdd, nSub, nDiv, nMod, nZ, nLit, row_3, row_5, row_16, row_26, row_42, row_58, Ty.den, dflt_it, dflt_li, dflt_kv, Int.toNat_natCast, List.take_length, List.drop_zero]
                repeat (refine br_go ?_ ?_; (focus (((repeat' first | exact rfl | exact ordB_st rfl | exact ordB_of rfl | apply band | apply tst_t | apply nt_t)  <;> (try dsimp only [Ty.den, dflt_kv]) <;> (try simp only [List.length_append, List.length_cons, List.length_nil, List.length_take, List.length_drop, List.length_replicate]) <;> (first | trivial | assumption | omega | (change (_ : Int) ≤ _; omega) | (change (_ : Int) < _; omega) | (change (_ : Nat) * 1 ≤ _; omega) | (change (_ : Nat) * 48 ≤ _; omega) | (change (_ : Nat) * 24 ≤ _; omega) | (change (_ : Nat) * 8 ≤ _; omega) | (change (_ : Nat) * 64 ≤ _; omega) | decide)); done)); (conv => lhs; whnf); (try simp (disch := omega) only [nI64, nU64, nU32, nU8, nSubL, nAddL, nAdd, nSub, nDiv, nMod, nZ, nLit, row_3, row_5, row_16, row_26, row_42, row_58, Ty.den, dflt_it, dflt_li, dflt_kv, Int.toNat_natCast, List.take_length, List.drop_zero]))
                rfl
              · rw [if_neg hbad]
                have hbad := Bool.eq_false_iff.2 hbad
                refine br_no (hbad) ?_
                conv => lhs; whnf
                try simp (disch := omega) only [nI64, nU64, nU32, nU8, nSubL, nAddL, nAdd, nSub, nDiv, nMod, nZ, nLit, row_3, row_5, row_16, row_26, row_42, row_58, Ty.den, dflt_it, dflt_li, dflt_kv, Int.toNat_natCast, List.take_length, List.drop_zero]
                have hg := ent_good hbd ⟨k1, k2⟩ hbad
                have g1 := hg.at1
                have g2 := hg.at2
                have g4 := hg.key
                have g5 := hg.both
                have gs := hg.same
                repeat (refine br_go ?_ ?_; (focus (((repeat' first | exact rfl | exact ordB_st rfl | exact ordB_of rfl | apply band | apply tst_t | apply nt_t)  <;> (try dsimp only [Ty.den, dflt_kv]) <;> (try simp only [List.length_append, List.length_cons, List.length_nil, List.length_take, List.length_drop, List.length_replicate]) <;> (first | trivial | assumption | omega | (change (_ : Int) ≤ _; omega) | (change (_ : Int) < _; omega) | (change (_ : Nat) * 1 ≤ _; omega) | (change (_ : Nat) * 48 ≤ _; omega) | (change (_ : Nat) * 24 ≤ _; omega) | (change (_ : Nat) * 8 ≤ _; omega) | (change (_ : Nat) * 64 ≤ _; omega) | decide)); done)); (conv => lhs; whnf); (try simp (disch := omega) only [nI64, nU64, nU32, nU8, nSubL, nAddL, nAdd, nSub, nDiv, nMod, nZ, nLit, row_3, row_5, row_16, row_26, row_42, row_58, Ty.den, dflt_it, dflt_li, dflt_kv, Int.toNat_natCast, List.take_length, List.drop_zero]))
                rw [dif_pos (show a < (entP d a false last).1.2.1 by omega), if_neg (fun h => hs h.2)]
                have e1 : (entMSp.post (d, a, false, ()) (last, ())).1 = d := congrArg (·.1) gs
                have e3 : (entMSp.post (d, a, false, ()) (last, ())).2.2.1 = false := hbad
                rw [e1, e3]
                exact hK (false, (entP d a false last).1.2.1, rs, l ++ [(entP d a false last).2], (entP d a false last).2.1) ⟨by show 0 ≤ (entP d a false last).1.2.1; omega, g2, by show ((l ++ [_]).length : Int) ≤ (entP d a false last).1.2.1; rw [List.length_append, List.length_singleton]; omega, by show (((entP d a false last).2.1).length : Int) ≤ (entP d a false last).1.2.1; omega, by show total (l ++ [_]) ≤ 40000 * (l ++ [_]).length; rw [total_append, List.length_append, List.length_singleton]; omega, fun h => by cases h⟩ (by show ((d.length : Int) - (entP d a false last).1.2.1).toNat < _; omega)

          · rw [dif_neg ha]
            refine br_no (tst_f (ha)) ?_
            conv => lhs; whnf
            try simp (disch := omega) only [nI64, nU64, nU32, nU8, nSubL, nAddL, nAdd, nSub, nDiv, nMod, nZ, nLit, row_3, row_5, row_16, row_26, row_42, row_58, Ty.den, dflt_it, dflt_li, dflt_kv, Int.toNat_natCast, List.take_length, List.drop_zero]
            repeat (refine br_go ?_ ?_; (focus (((repeat' first | exact rfl | exact ordB_st rfl | exact ordB_of rfl | apply band | apply tst_t | apply nt_t)  <;> (try dsimp only [Ty.den, dflt_kv]) <;> (try simp only [List.length_append, List.length_cons, List.length_nil, List.length_take, List.length_drop, List.length_replicate]) <;> (first | trivial | assumption | omega | (change (_ : Int) ≤ _; omega) | (change (_ : Int) < _; omega) | (change (_ : Nat) * 1 ≤ _; omega) | (change (_ : Nat) * 48 ≤ _; omega) | (change (_ : Nat) * 24 ≤ _; omega) | (change (_ : Nat) * 8 ≤ _; omega) | (change (_ : Nat) * 64 ≤ _; omega) | decide)); done)); (conv => lhs; whnf); (try simp (disch := omega) only [nI64, nU64, nU32, nU8, nSubL, nAddL, nAdd, nSub, nDiv, nMod, nZ, nLit, row_3, row_5, row_16, row_26, row_42, row_58, Ty.den, dflt_it, dflt_li, dflt_kv, Int.toNat_natCast, List.take_length, List.drop_zero]))
            have hfl : Fair l := ⟨by omega, by omega⟩
            have hfl1 := hfl.1
            have er : (if (n : Int) ≤ 1 then max (l.length : Int) 1 else rs) = rs := if_neg (by omega)
            simp only [parseR, er]
            refine br_no (tst_f (by omega)) ?_
            conv => lhs; whnf
            try simp (disch := omega) only [nI64, nU64, nU32, nU8, nSubL, nAddL, nAdd, nSub, nDiv, nMod, nZ, nLit, row_3, row_5, row_16, row_26, row_42, row_58, Ty.den, dflt_it, dflt_li, dflt_kv, Int.toNat_natCast, List.take_length, List.drop_zero]
            refine br_go ((tst_t hfl)) ?_
            conv => lhs; whnf
            try simp (disch := omega) only [nI64, nU64, nU32, nU8, nSubL, nAddL, nAdd, nSub, nDiv, nMod, nZ, nLit, row_3, row_5, row_16, row_26, row_42, row_58, Ty.den, dflt_it, dflt_li, dflt_kv, Int.toNat_natCast, List.take_length, List.drop_zero]
            by_cases hq : (buildS l rs 71 70).2 = 0
            · refine br_no (tst_f (by simpa using hq)) ?_
              conv => lhs; whnf
              try simp (disch := omega) only [nI64, nU64, nU32, nU8, nSubL, nAddL, nAdd, nSub, nDiv, nMod, nZ, nLit, row_3, row_5, row_16, row_26, row_42, row_58, Ty.den, dflt_it, dflt_li, dflt_kv, Int.toNat_natCast, List.take_length, List.drop_zero]
              by_cases hw : (buildS l rs 71 70).1 = b
              · refine br_no (nt_f hw) ?_
                conv => lhs; whnf
                try simp (disch := omega) only [nI64, nU64, nU32, nU8, nSubL, nAddL, nAdd, nSub, nDiv, nMod, nZ, nLit, row_3, row_5, row_16, row_26, row_42, row_58, Ty.den, dflt_it, dflt_li, dflt_kv, Int.toNat_natCast, List.take_length, List.drop_zero]
                rw [if_pos ⟨hq, hw⟩, if_pos ⟨hq, hw⟩]
                repeat (refine br_go ?_ ?_; (focus (((repeat' first | exact rfl | exact ordB_st rfl | exact ordB_of rfl | apply band | apply tst_t | apply nt_t)  <;> (try dsimp only [Ty.den, dflt_kv]) <;> (try simp only [List.length_append, List.length_cons, List.length_nil, List.length_take, List.length_drop, List.length_replicate]) <;> (first | trivial | assumption | omega | (change (_ : Int) ≤ _; omega) | (change (_ : Int) < _; omega) | (change (_ : Nat) * 1 ≤ _; omega) | (change (_ : Nat) * 48 ≤ _; omega) | (change (_ : Nat) * 24 ≤ _; omega) | (change (_ : Nat) * 8 ≤ _; omega) | (change (_ : Nat) * 64 ≤ _; omega) | decide)); done)); (conv => lhs; whnf); (try simp (disch := omega) only [nI64, nU64, nU32, nU8, nSubL, nAddL, nAdd, nSub, nDiv, nMod, nZ, nLit, row_3, row_5, row_16, row_26, row_42, row_58, Ty.den, dflt_it, dflt_li, dflt_kv, Int.toNat_natCast, List.take_length, List.drop_zero]))
              · refine br_go (nt_t hw) ?_
                conv => lhs; whnf
                try simp (disch := omega) only [nI64, nU64, nU32, nU8, nSubL, nAddL, nAdd, nSub, nDiv, nMod, nZ, nLit, row_3, row_5, row_16, row_26, row_42, row_58, Ty.den, dflt_it, dflt_li, dflt_kv, Int.toNat_natCast, List.take_length, List.drop_zero]
                rw [if_neg (fun h => hw h.2), if_neg (fun h => hw h.2)]
                repeat (refine br_go ?_ ?_; (focus (((repeat' first | exact rfl | exact ordB_st rfl | exact ordB_of rfl | apply band | apply tst_t | apply nt_t)  <;> (try dsimp only [Ty.den, dflt_kv]) <;> (try simp only [List.length_append, List.length_cons, List.length_nil, List.length_take, List.length_drop, List.length_replicate]) <;> (first | trivial | assumption | omega | (change (_ : Int) ≤ _; omega) | (change (_ : Int) < _; omega) | (change (_ : Nat) * 1 ≤ _; omega) | (change (_ : Nat) * 48 ≤ _; omega) | (change (_ : Nat) * 24 ≤ _; omega) | (change (_ : Nat) * 8 ≤ _; omega) | (change (_ : Nat) * 64 ≤ _; omega) | decide)); done)); (conv => lhs; whnf); (try simp (disch := omega) only [nI64, nU64, nU32, nU8, nSubL, nAddL, nAdd, nSub, nDiv, nMod, nZ, nLit, row_3, row_5, row_16, row_26, row_42, row_58, Ty.den, dflt_it, dflt_li, dflt_kv, Int.toNat_natCast, List.take_length, List.drop_zero]))
            · refine br_go (tst_t (hq)) ?_
              conv => lhs; whnf
              try simp (disch := omega) only [nI64, nU64, nU32, nU8, nSubL, nAddL, nAdd, nSub, nDiv, nMod, nZ, nLit, row_3, row_5, row_16, row_26, row_42, row_58, Ty.den, dflt_it, dflt_li, dflt_kv, Int.toNat_natCast, List.take_length, List.drop_zero]
              rw [if_neg (fun h => hq h.1), if_neg (fun h => hq h.1)]
              repeat (refine br_go ?_ ?_; (focus (((repeat' first | exact rfl | exact ordB_st rfl | exact ordB_of rfl | apply band | apply tst_t | apply nt_t)  <;> (try dsimp only [Ty.den, dflt_kv]) <;> (try simp only [List.length_append, List.length_cons, List.length_nil, List.length_take, List.length_drop, List.length_replicate]) <;> (first | trivial | assumption | omega | (change (_ : Int) ≤ _; omega) | (change (_ : Int) < _; omega) | (change (_ : Nat) * 1 ≤ _; omega) | (change (_ : Nat) * 48 ≤ _; omega) | (change (_ : Nat) * 24 ≤ _; omega) | (change (_ : Nat) * 8 ≤ _; omega) | (change (_ : Nat) * 64 ≤ _; omega) | decide)); done)); (conv => lhs; whnf); (try simp (disch := omega) only [nI64, nU64, nU32, nU8, nSubL, nAddL, nAdd, nSub, nDiv, nMod, nZ, nLit, row_3, row_5, row_16, row_26, row_42, row_58, Ty.den, dflt_it, dflt_li, dflt_kv, Int.toNat_natCast, List.take_length, List.drop_zero]))

      · refine br_no (tst_f (by omega)) ?_
        conv => lhs; whnf
        try simp (disch := omega) only [nI64, nU64, nU32, nU8, nSubL, nAddL, nAdd, nSub, nDiv, nMod, nZ, nLit, row_3, row_5, row_16, row_26, row_42, row_58, Ty.den, dflt_it, dflt_li, dflt_kv, Int.toNat_natCast, List.take_length, List.drop_zero]
        try simp (disch := omega) only [nI64, nU64, nU32, nU8, nSubL, nAddL, nAdd, nSub, nDiv, nMod, nZ, nLit, row_3, row_5, row_16, row_26, row_42, row_58, Ty.den, dflt_it, dflt_li, dflt_kv, Int.toNat_natCast, List.take_length, List.drop_zero, hD, hDt]
        repeat (refine br_go ?_ ?_; (focus (((repeat' first | exact rfl | exact ordB_st rfl | exact ordB_of rfl | apply band | apply tst_t | apply nt_t)  <;> (try dsimp only [Ty.den, dflt_kv]) <;> (try simp only [List.length_append, List.length_cons, List.length_nil, List.length_take, List.length_drop, List.length_replicate]) <;> (first | trivial | assumption | omega | (change (_ : Int) ≤ _; omega) | (change (_ : Int) < _; omega) | (change (_ : Nat) * 1 ≤ _; omega) | (change (_ : Nat) * 48 ≤ _; omega) | (change (_ : Nat) * 24 ≤ _; omega) | (change (_ : Nat) * 8 ≤ _; omega) | (change (_ : Nat) * 64 ≤ _; omega) | decide)); done)); (conv => lhs; whnf); (try simp (disch := omega) only [nI64, nU64, nU32, nU8, nSubL, nAddL, nAdd, nSub, nDiv, nMod, nZ, nLit, row_3, row_5, row_16, row_26, row_42, row_58, Ty.den, dflt_it, dflt_li, dflt_kv, Int.toNat_natCast, List.take_length, List.drop_zero]))
        rw [if_neg (show ¬ (n : Int) > 1 by omega)]
        try simp (disch := omega) only [nI64, nU64, nU32, nU8, nSubL, nAddL, nAdd, nSub, nDiv, nMod, nZ, nLit, row_3, row_5, row_16, row_26, row_42, row_58, Ty.den, dflt_it, dflt_li, dflt_kv, Int.toNat_natCast, List.take_length, List.drop_zero, ← hd]
        refine (loop_rule (α := Bool × Int × Int × List KV × List Int) (fun a => 0 ≤ a.2.1 ∧ a.2.1 ≤ (d.length : Int) ∧ (a.2.2.2.1.length : Int) ≤ a.2.1 ∧ (a.2.2.2.2.length : Int) ≤ a.2.1 ∧ total a.2.2.2.1 ≤ 40000 * a.2.2.2.1.length ∧ (a.1 = true → a.2.2.2.2 = [])) (fun a => (d.length - a.2.1).toNat)
          (fun a => (vB b :: V.bad :: V.bad :: V.bad :: V.bad :: vW n :: V.bad :: V.p 4 0 :: vI a.2.2.1 :: vW 0 :: V.own 5 kv a.2.2.2.1 :: flO 6 a.1 a.2.2.2.2 :: V.bad :: V.bad :: V.bad :: V.bad :: V.bad :: V.bad :: V.bad :: V.bad :: V.bad :: V.bad :: V.bad :: V.bad :: V.bad :: V.bad :: V.bad :: V.bad :: V.bad :: V.bad :: V.bad :: V.bad :: V.bad :: V.bad :: V.bad :: V.bad :: V.bad :: V.bad :: V.bad :: V.bad :: V.bad :: V.bad :: V.bad :: V.bad :: V.bad :: V.bad :: V.bad :: V.bad :: V.bad :: V.bad :: V.bad :: V.bad :: V.bad :: V.bad :: V.bad :: V.bad :: V.bad :: V.bad :: V.bad :: V.bad :: V.bad :: V.bad :: V.bad :: V.bad :: V.bad :: V.bad :: V.bad :: V.bad :: V.bad :: V.bad :: V.bad :: V.bad :: V.bad :: V.bad :: V.bad :: V.bad :: V.bad :: V.bad :: V.bad :: V.bad :: V.bad :: V.bad :: V.bad :: V.bad :: V.bad :: V.bad :: V.bad :: V.bad :: V.bad :: V.bad :: V.bad :: V.bad :: V.bad :: V.bad :: V.bad :: V.bad :: V.bad :: V.bad :: V.bad :: V.bad :: V.bad :: V.bad :: V.bad :: V.bad :: V.bad :: V.bad :: V.bad :: V.bad :: V.bad :: V.bad :: V.bad :: V.bad :: V.bad :: V.bad :: V.bad :: V.bad :: V.bad :: []))
          (fun a => [.fam 0, .gone, .gone, .fam d.length, .obj [flO 3 a.1 d, vI a.2.1, .d .bo false], .fam a.2.2.2.1.length, .fam 0])
          (fun a => parseR b n (pGo d ((n : Int) > 1) 0 a.2.1 a.2.2.1 a.2.2.2.1 a.2.2.2.2)) ?_ F (true, 0, 0, [], []) ⟨Int.le_refl 0, by show (0 : Int) ≤ d.length; omega, by show ((0 : Nat) : Int) ≤ 0; omega, by show ((0 : Nat) : Int) ≤ 0; omega, Nat.zero_le _, fun _ => rfl⟩ (by show ((d.length : Int) - 0).toNat < F; omega)).trans (parseF_R _ _ _ _)
        rintro ⟨fl, a, rs, l, last⟩ K ⟨k1, k2, k3, k4, k5, k6⟩ hK
        simp only at k1 k2 k3 k4 k5 k6 hK ⊢
        rw [pGo]
        have hpre : entPre d a = true := band (band (tst_t k1) (tst_t k2)) (tst_t (show d.length ≤ 1099511627776 by omega))
        cases fl
        all_goals
          conv => lhs; whnf
          try simp (disch := omega) only [nI64, nU64, nU32, nU8, nSubL, nAddL, nAdd, nSub, nDiv, nMod, nZ, nLit, row_3, row_5, row_16, row_26, row_42, row_58, Ty.den, dflt_it, dflt_li, dflt_kv, Int.toNat_natCast, List.take_length, List.drop_zero]
          repeat (refine br_go ?_ ?_; (focus (((repeat' first | exact rfl | exact ordB_st rfl | exact ordB_of rfl | apply band | apply tst_t | apply nt_t)  <;> (try dsimp only [Ty.den, dflt_kv]) <;> (try simp only [List.length_append, List.length_cons, List.length_nil, List.length_take, List.length_drop, List.length_replicate]) <;> (first | trivial | assumption | omega | (change (_ : Int) ≤ _; omega) | (change (_ : Int) < _; omega) | (change (_ : Nat) * 1 ≤ _; omega) | (change (_ : Nat) * 48 ≤ _; omega) | (change (_ : Nat) * 24 ≤ _; omega) | (change (_ : Nat) * 8 ≤ _; omega) | (change (_ : Nat) * 64 ≤ _; omega) | decide)); done)); (conv => lhs; whnf); (try simp (disch := omega) only [nI64, nU64, nU32, nU8, nSubL, nAddL, nAdd, nSub, nDiv, nMod, nZ, nLit, row_3, row_5, row_16, row_26, row_42, row_58, Ty.den, dflt_it, dflt_li, dflt_kv, Int.toNat_natCast, List.take_length, List.drop_zero]))
          by_cases ha : a < (d.length : Int)
          · rw [dif_pos ha]
            refine br_go (tst_t (ha)) ?_
            conv => lhs; whnf
            try simp (disch := omega) only [nI64, nU64, nU32, nU8, nSubL, nAddL, nAdd, nSub, nDiv, nMod, nZ, nLit, row_3, row_5, row_16, row_26, row_42, row_58, Ty.den, dflt_it, dflt_li, dflt_kv, Int.toNat_natCast, List.take_length, List.drop_zero]
            refine br_no (tst_f (by omega)) ?_
            conv => lhs; whnf
            try simp (disch := omega) only [nI64, nU64, nU32, nU8, nSubL, nAddL, nAdd, nSub, nDiv, nMod, nZ, nLit, row_3, row_5, row_16, row_26, row_42, row_58, Ty.den, dflt_it, dflt_li, dflt_kv, Int.toNat_natCast, List.take_length, List.drop_zero]
            refine br_go (hpre) ?_
            conv => lhs; whnf
            try simp (disch := omega) only [nI64, nU64, nU32, nU8, nSubL, nAddL, nAdd, nSub, nDiv, nMod, nZ, nLit, row_3, row_5, row_16, row_26, row_42, row_58, Ty.den, dflt_it, dflt_li, dflt_kv, Int.toNat_natCast, List.take_length, List.drop_zero]
            by_cases hbad : (entP d a false last).1.2.2.1 = true
            · rw [if_pos hbad]
              refine br_go (hbad) ?_
              conv => lhs; whnf
              try simp (disch := omega) only [nI64, nU64, nU32, nU8, nSubL, nAddL, nAdd, nSub, nDiv, nMod, nZ, nLit, row_3, row_5, row_16, row_26, row_42, row_58, Ty.den, dflt_it, dflt_li, dflt_kv, Int.toNat_natCast, List.take_length, List.drop_zero]
              repeat (refine br_go ?_ ?_; (focus (((repeat' first | exact rfl | exact ordB_st rfl | exact ordB_of rfl | apply band | apply tst_t | apply nt_t)  <;> (try dsimp only [Ty.den, dflt_kv]) <;> (try simp only [List.length_append, List.length_cons, List.length_nil, List.length_take, List.length_drop, List.length_replicate]) <;> (first | trivial | assumption | omega | (change (_ : Int) ≤ _; omega) | (change (_ : Int) < _; omega) | (change (_ : Nat) * 1 ≤ _; omega) | (change (_ : Nat) * 48 ≤ _; omega) | (change (_ : Nat) * 24 ≤ _; omega) | (change (_ : Nat) * 8 ≤ _; omega) | (change (_ : Nat) * 64 ≤ _; omega) | decide)); done)); (conv => lhs; whnf); (try simp (disch := omega) only [nI64, nU64, nU32, nU8, nSubL, nAddL, nAdd, nSub, nDiv, nMod, nZ, nLit, row_3, row_5, row_16, row_26, row_42, row_58, Ty.den, dflt_it, dflt_li, dflt_kv, Int.toNat_natCast, List.take_length, List.drop_zero]))
              rfl
            · rw [if_neg hbad]
              have hbad := Bool.eq_false_iff.2 hbad
              refine br_no (hbad) ?_
              conv => lhs; whnf
              try simp (disch := omega) only [nI64, nU64, nU32, nU8, nSubL, nAddL, nAdd, nSub, nDiv, nMod, nZ, nLit, row_3, row_5, row_16, row_26, row_42, row_58, Ty.den, dflt_it, dflt_li, dflt_kv, Int.toNat_natCast, List.take_length, List.drop_zero]
              have hg := ent_good hbd ⟨k1, k2⟩ hbad
              have g1 := hg.at1
              have g2 := hg.at2
              have g4 := hg.key
              have g5 := hg.both
              have gs := hg.same
              repeat (refine br_go ?_ ?_; (focus (((repeat' first | exact rfl | exact ordB_st rfl | exact ordB_of rfl | apply band | apply tst_t | apply nt_t)  <;> (try dsimp only [Ty.den, dflt_kv]) <;> (try simp only [List.length_append, List.length_cons, List.length_nil, List.length_take, List.length_drop, List.length_replicate]) <;> (first | trivial | assumption | omega | (change (_ : Int) ≤ _; omega) | (change (_ : Int) < _; omega) | (change (_ : Nat) * 1 ≤ _; omega) | (change (_ : Nat) * 48 ≤ _; omega) | (change (_ : Nat) * 24 ≤ _; omega) | (change (_ : Nat) * 8 ≤ _; omega) | (change (_ : Nat) * 64 ≤ _; omega) | decide)); done)); (conv => lhs; whnf); (try simp (disch := omega) only [nI64, nU64, nU32, nU8, nSubL, nAddL, nAdd, nSub, nDiv, nMod, nZ, nLit, row_3, row_5, row_16, row_26, row_42, row_58, Ty.den, dflt_it, dflt_li, dflt_kv, Int.toNat_natCast, List.take_length, List.drop_zero]))
              rw [dif_pos (show a < (entP d a false last).1.2.1 by omega), if_neg (fun h => absurd h.1 (by omega))]
              have e1 : (entMSp.post (d, a, false, ()) (last, ())).1 = d := congrArg (·.1) gs
              have e3 : (entMSp.post (d, a, false, ()) (last, ())).2.2.1 = false := hbad
              rw [e1, e3]
              exact hK (false, (entP d a false last).1.2.1, rs, l ++ [(entP d a false last).2], (entP d a false last).2.1) ⟨by show 0 ≤ (entP d a false last).1.2.1; omega, g2, by show ((l ++ [_]).length : Int) ≤ (entP d a false last).1.2.1; rw [List.length_append, List.length_singleton]; omega, by show (((entP d a false last).2.1).length : Int) ≤ (entP d a false last).1.2.1; omega, by show total (l ++ [_]) ≤ 40000 * (l ++ [_]).length; rw [total_append, List.length_append, List.length_singleton]; omega, fun h => by cases h⟩ (by show ((d.length : Int) - (entP d a false last).1.2.1).toNat < _; omega)

          · rw [dif_neg ha]
            refine br_no (tst_f (ha)) ?_
            conv => lhs; whnf
            try simp (disch := omega) only [nI64, nU64, nU32, nU8, nSubL, nAddL, nAdd, nSub, nDiv, nMod, nZ, nLit, row_3, row_5, row_16, row_26, row_42, row_58, Ty.den, dflt_it, dflt_li, dflt_kv, Int.toNat_natCast, List.take_length, List.drop_zero]
            repeat (refine br_go ?_ ?_; (focus (((repeat' first | exact rfl | exact ordB_st rfl | exact ordB_of rfl | apply band | apply tst_t | apply nt_t)  <;> (try dsimp only [Ty.den, dflt_kv]) <;> (try simp only [List.length_append, List.length_cons, List.length_nil, List.length_take, List.length_drop, List.length_replicate]) <;> (first | trivial | assumption | omega | (change (_ : Int) ≤ _; omega) | (change (_ : Int) < _; omega) | (change (_ : Nat) * 1 ≤ _; omega) | (change (_ : Nat) * 48 ≤ _; omega) | (change (_ : Nat) * 24 ≤ _; omega) | (change (_ : Nat) * 8 ≤ _; omega) | (change (_ : Nat) * 64 ≤ _; omega) | decide)); done)); (conv => lhs; whnf); (try simp (disch := omega) only [nI64, nU64, nU32, nU8, nSubL, nAddL, nAdd, nSub, nDiv, nMod, nZ, nLit, row_3, row_5, row_16, row_26, row_42, row_58, Ty.den, dflt_it, dflt_li, dflt_kv, Int.toNat_natCast, List.take_length, List.drop_zero]))
            have hfl : Fair l := ⟨by omega, by omega⟩
            have hfl1 := hfl.1
            have er : (if (n : Int) ≤ 1 then max (l.length : Int) 1 else rs) = max (l.length : Int) 1 := if_pos (by omega)
            simp only [parseR, er]
            have em : (if (1 : Int) > (l.length : Int) then 1 else (l.length : Int)) = max (l.length : Int) 1 := by rw [Int.max_def]; split <;> split <;> omega
            refine br_go (tst_t (by omega)) ?_
            conv => lhs; whnf
            try simp (disch := omega) only [nI64, nU64, nU32, nU8, nSubL, nAddL, nAdd, nSub, nDiv, nMod, nZ, nLit, row_3, row_5, row_16, row_26, row_42, row_58, Ty.den, dflt_it, dflt_li, dflt_kv, Int.toNat_natCast, List.take_length, List.drop_zero]
            try simp (disch := omega) only [nI64, nU64, nU32, nU8, nSubL, nAddL, nAdd, nSub, nDiv, nMod, nZ, nLit, row_3, row_5, row_16, row_26, row_42, row_58, Ty.den, dflt_it, dflt_li, dflt_kv, Int.toNat_natCast, List.take_length, List.drop_zero, em, if_true]
            repeat (refine br_go ?_ ?_; (focus (((repeat' first | exact rfl | exact ordB_st rfl | exact ordB_of rfl | apply band | apply tst_t | apply nt_t)  <;> (try dsimp only [Ty.den, dflt_kv]) <;> (try simp only [List.length_append, List.length_cons, List.length_nil, List.length_take, List.length_drop, List.length_replicate]) <;> (first | trivial | assumption | omega | (change (_ : Int) ≤ _; omega) | (change (_ : Int) < _; omega) | (change (_ : Nat) * 1 ≤ _; omega) | (change (_ : Nat) * 48 ≤ _; omega) | (change (_ : Nat) * 24 ≤ _; omega) | (change (_ : Nat) * 8 ≤ _; omega) | (change (_ : Nat) * 64 ≤ _; omega) | decide)); done)); (conv => lhs; whnf); (try simp (disch := omega) only [nI64, nU64, nU32, nU8, nSubL, nAddL, nAdd, nSub, nDiv, nMod, nZ, nLit, row_3, row_5, row_16, row_26, row_42, row_58, Ty.den, dflt_it, dflt_li, dflt_kv, Int.toNat_natCast, List.take_length, List.drop_zero]))
            try simp (disch := omega) only [nI64, nU64, nU32, nU8, nSubL, nAddL, nAdd, nSub, nDiv, nMod, nZ, nLit, row_3, row_5, row_16, row_26, row_42, row_58, Ty.den, dflt_it, dflt_li, dflt_kv, Int.toNat_natCast, List.take_length, List.drop_zero, em, if_true]
            by_cases hq : (buildS l (max (l.length : Int) 1) 71 70).2 = 0
            · refine br_no (tst_f (by simpa using hq)) ?_
              conv => lhs; whnf
              try simp (disch := omega) only [nI64, nU64, nU32, nU8, nSubL, nAddL, nAdd, nSub, nDiv, nMod, nZ, nLit, row_3, row_5, row_16, row_26, row_42, row_58, Ty.den, dflt_it, dflt_li, dflt_kv, Int.toNat_natCast, List.take_length, List.drop_zero]
              by_cases hw : (buildS l (max (l.length : Int) 1) 71 70).1 = b
              · refine br_no (nt_f hw) ?_
                conv => lhs; whnf
                try simp (disch := omega) only [nI64, nU64, nU32, nU8, nSubL, nAddL, nAdd, nSub, nDiv, nMod, nZ, nLit, row_3, row_5, row_16, row_26, row_42, row_58, Ty.den, dflt_it, dflt_li, dflt_kv, Int.toNat_natCast, List.take_length, List.drop_zero]
                rw [if_pos ⟨hq, hw⟩, if_pos ⟨hq, hw⟩]
                repeat (refine br_go ?_ ?_; (focus (((repeat' first | exact rfl | exact ordB_st rfl | exact ordB_of rfl | apply band | apply tst_t | apply nt_t)  <;> (try dsimp only [Ty.den, dflt_kv]) <;> (try simp only [List.length_append, List.length_cons, List.length_nil, List.length_take, List.length_drop, List.length_replicate]) <;> (first | trivial | assumption | omega | (change (_ : Int) ≤ _; omega) | (change (_ : Int) < _; omega) | (change (_ : Nat) * 1 ≤ _; omega) | (change (_ : Nat) * 48 ≤ _; omega) | (change (_ : Nat) * 24 ≤ _; omega) | (change (_ : Nat) * 8 ≤ _; omega) | (change (_ : Nat) * 64 ≤ _; omega) | decide)); done)); (conv => lhs; whnf); (try simp (disch := omega) only [nI64, nU64, nU32, nU8, nSubL, nAddL, nAdd, nSub, nDiv, nMod, nZ, nLit, row_3, row_5, row_16, row_26, row_42, row_58, Ty.den, dflt_it, dflt_li, dflt_kv, Int.toNat_natCast, List.take_length, List.drop_zero]))
              · refine br_go (nt_t hw) ?_
                conv => lhs; whnf
                try simp (disch := omega) only [nI64, nU64, nU32, nU8, nSubL, nAddL, nAdd, nSub, nDiv, nMod, nZ, nLit, row_3, row_5, row_16, row_26, row_42, row_58, Ty.den, dflt_it, dflt_li, dflt_kv, Int.toNat_natCast, List.take_length, List.drop_zero]
                rw [if_neg (fun h => hw h.2), if_neg (fun h => hw h.2)]
                repeat (refine br_go ?_ ?_; (focus (((repeat' first | exact rfl | exact ordB_st rfl | exact ordB_of rfl | apply band | apply tst_t | apply nt_t)  <;> (try dsimp only [Ty.den, dflt_kv]) <;> (try simp only [List.length_append, List.length_cons, List.length_nil, List.length_take, List.length_drop, List.length_replicate]) <;> (first | trivial | assumption | omega | (change (_ : Int) ≤ _; omega) | (change (_ : Int) < _; omega) | (change (_ : Nat) * 1 ≤ _; omega) | (change (_ : Nat) * 48 ≤ _; omega) | (change (_ : Nat) * 24 ≤ _; omega) | (change (_ : Nat) * 8 ≤ _; omega) | (change (_ : Nat) * 64 ≤ _; omega) | decide)); done)); (conv => lhs; whnf); (try simp (disch := omega) only [nI64, nU64, nU32, nU8, nSubL, nAddL, nAdd, nSub, nDiv, nMod, nZ, nLit, row_3, row_5, row_16, row_26, row_42, row_58, Ty.den, dflt_it, dflt_li, dflt_kv, Int.toNat_natCast, List.take_length, List.drop_zero]))
            · refine br_go (tst_t (hq)) ?_
              conv => lhs; whnf
              try simp (disch := omega) only [nI64, nU64, nU32, nU8, nSubL, nAddL, nAdd, nSub, nDiv, nMod, nZ, nLit, row_3, row_5, row_16, row_26, row_42, row_58, Ty.den, dflt_it, dflt_li, dflt_kv, Int.toNat_natCast, List.take_length, List.drop_zero]
              rw [if_neg (fun h => hq h.1), if_neg (fun h => hq h.1)]
              repeat (refine br_go ?_ ?_; (focus (((repeat' first | exact rfl | exact ordB_st rfl | exact ordB_of rfl | apply band | apply tst_t | apply nt_t)  <;> (try dsimp only [Ty.den, dflt_kv]) <;> (try simp only [List.length_append, List.length_cons, List.length_nil, List.length_take, List.length_drop, List.length_replicate]) <;> (first | trivial | assumption | omega | (change (_ : Int) ≤ _; omega) | (change (_ : Int) < _; omega) | (change (_ : Nat) * 1 ≤ _; omega) | (change (_ : Nat) * 48 ≤ _; omega) | (change (_ : Nat) * 24 ≤ _; omega) | (change (_ : Nat) * 8 ≤ _; omega) | (change (_ : Nat) * 64 ≤ _; omega) | decide)); done)); (conv => lhs; whnf); (try simp (disch := omega) only [nI64, nU64, nU32, nU8, nSubL, nAddL, nAdd, nSub, nDiv, nMod, nZ, nLit, row_3, row_5, row_16, row_26, row_42, row_58, Ty.den, dflt_it, dflt_li, dflt_kv, Int.toNat_natCast, List.take_length, List.drop_zero]))

end Go.Proofs.Ytdhbelpejaobdaa.Ev
/- Sought in a block: by the program. -/
namespace Go.Proofs.Ytdhbelpejaobdaa.Ev
open Go Go.RowKit
set_option linter.unusedVariables false
set_option linter.unusedSimpArgs false
set_option maxRecDepth 100000
set_option maxHeartbeats 8000000
/-- of rising entries each one stands ahead of those behind -/
theorem risesFrom_order : ∀ (l : List KV) (p : Option (List Int)), risesFrom p l = true → (∀ (i j : Nat), i < j → j < l.length → order (l.getD i kvd).1 (l.getD j kvd).1 < 0) ∧ (∀ q, p = some q → ∀ j, j < l.length → order q (l.getD j kvd).1 < 0) ∧ ∀ j, j < l.length → (split (l.getD j kvd).1).2.2.2 = 0
  | [], p, h => ⟨fun i j _ hj => by simp at hj, fun q _ j hj => by simp at hj, fun j hj => by simp at hj⟩
  | x :: l, p, h => by
    rw [risesFrom_cons] at h
    simp only [Bool.and_eq_true, decide_eq_true_eq] at h
    obtain ⟨h1, h2, h3⟩ := h
    obtain ⟨k1, k2, k3⟩ := risesFrom_order l _ h3
    refine ⟨?_, ?_, ?_⟩
    · intro i j hij hj
      cases j with
      | zero => omega
      | succ j =>
        rw [List.length_cons] at hj
        cases i with
        | zero => exact k2 _ rfl j (by omega)
        | succ i => exact k1 i j (by omega) (by omega)
    · rintro q rfl j hj
      have hx : order q x.1 < 0 := by simpa [aheadOK] using h2
      rw [List.length_cons] at hj
      cases j with
      | zero => exact hx
      | succ j =>
        have h5 : order x.1 (l.getD j kvd).1 < 0 := k2 _ rfl j (by omega)
        show order q (l.getD j kvd).1 < 0
        have h6 := order_trans (a := q) (b := x.1) (c := (l.getD j kvd).1) (by omega) (by omega)
        rcases order_cases q (l.getD j kvd).1 with h | h | h
        · omega
        · exfalso
          have h7 := order_neg q (l.getD j kvd).1
          have h8 := order_trans (a := (l.getD j kvd).1) (b := q) (c := x.1) (by omega) (by omega)
          have h9 := order_neg x.1 (l.getD j kvd).1
          omega
        · omega
    · intro j hj
      rw [List.length_cons] at hj
      cases j with
      | zero => exact h1
      | succ j => exact k3 j (by omega)
theorem order_lt_trans {a b c : List Int} (h1 : order a b ≤ 0) (h2 : order b c < 0) : order a c < 0 := by
  have h6 := order_trans h1 (by omega : order b c ≤ 0)
  rcases order_cases a c with h | h | h
  · omega
  · exfalso
    have h7 := order_neg a c
    have h8 := order_trans (a := c) (b := a) (c := b) (by omega) h1
    have h9 := order_neg b c
    omega
  · omega
noncomputable section
/-- the first entry that isn't ahead of a key -/
def seekI (l : List KV) (k : List Int) : Nat := l.findIdx fun x => !decide (order x.1 k < 0)
def seekL (l : List KV) (k : List Int) : KV × Bool := if seekI l k = l.length then (kvd, false) else (l.getD (seekI l k) kvd, true)
def seekS (b k : List Int) : KV × Bool × Int := if (parseS b).2 ≠ 0 then (kvd, false, (parseS b).2) else if (split k).2.2.2 ≠ 0 then (kvd, false, 23) else ((seekL (parseS b).1 k).1, (seekL (parseS b).1 k).2, 0)
def seekSp : Sp := ⟨[byl, byl], fun x => parsePre x.1, fun x => .tup [.d kv (seekS x.1 x.2.1).1, .d .bo (seekS x.1 x.2.1).2.1, vI (seekS x.1 x.2.1).2.2]⟩
end
theorem seekI_eq {l : List KV} {k : List Int} {i : Nat} (hi : i ≤ l.length) (h1 : ∀ j, j < i → order (l.getD j kvd).1 k < 0) (h2 : i < l.length → ¬ order (l.getD i kvd).1 k < 0) : seekI l k = i := by
  unfold seekI
  by_cases hl : i < l.length
  · rw [List.findIdx_eq hl]
    refine ⟨?_, fun j hj => ?_⟩
    · have := h2 hl
      rw [getD_at hl] at this
      simpa using this
    · have := h1 j hj
      rw [getD_at (by omega)] at this
      simpa using this
  · have : i = l.length := by omega
    subst this
    rw [List.findIdx_eq_length]
    intro x hx
    obtain ⟨j, hj, rfl⟩ := List.getElem_of_mem hx
    have := h1 j hj
    rw [getD_at hj] at this
    simpa using this
theorem parseF_good {b d : List Int} {n sec : Int} (h : (parseF b n d sec).2 = 0) : Rises (parseF b n d sec).1 ∧ ∃ r : Int, 1 ≤ r ∧ r ≤ 64 ∧ built (parseF b n d sec).1 r.toNat = b := by
  unfold parseF at h ⊢
  cases hg : pGo d (n > 1) sec 0 0 [] [] with
  | none => rw [hg] at h; simp at h
  | some x =>
    obtain ⟨rs, l⟩ := x
    rw [hg] at h
    simp only at h ⊢
    generalize (if n ≤ 1 then max (l.length : Int) 1 else rs) = r at *
    by_cases hq : (buildS l r 71 70).2 = 0 ∧ (buildS l r 71 70).1 = b
    · rw [if_pos hq]
      obtain ⟨q1, q2⟩ := hq
      unfold buildS at q1 q2
      split at q1
      · simp at q1
      · rename_i hr
        rw [if_neg hr] at q2
        split at q1
        · rename_i hs
          rw [if_pos hs] at q2
          exact ⟨hs, r, by omega, by omega, q2⟩
        · simp at q1
    · rw [if_neg hq] at h; simp at h
theorem parseF_bad {b d : List Int} {n sec : Int} (h : (parseF b n d sec).2 ≠ 0) : (parseF b n d sec).1 = [] ∧ (parseF b n d sec).2 = 72 := by
  unfold parseF at h ⊢
  cases hg : pGo d (n > 1) sec 0 0 [] [] with
  | none => exact ⟨rfl, rfl⟩
  | some x =>
    obtain ⟨rs, l⟩ := x
    rw [hg] at h
    simp only at h ⊢
    generalize (if n ≤ 1 then max (l.length : Int) 1 else rs) = r at *
    by_cases hq : (buildS l r 71 70).2 = 0 ∧ (buildS l r 71 70).1 = b
    · rw [if_pos hq] at h; exact absurd rfl h
    · rw [if_neg hq]; exact ⟨rfl, rfl⟩
theorem parse_good {b : List Int} (h : (parseS b).2 = 0) : Rises (parseS b).1 ∧ ∃ r : Int, 1 ≤ r ∧ r ≤ 64 ∧ built (parseS b).1 r.toNat = b := by
  unfold parseS at h ⊢
  split at h
  · simp at h
  rename_i h1
  rw [if_neg h1]
  split at h
  · simp at h
  rename_i h2
  rw [if_neg h2]
  exact parseF_good h
theorem parse_bad {b : List Int} (h : (parseS b).2 ≠ 0) : (parseS b).1 = [] ∧ (parseS b).2 = 72 := by
  unfold parseS at h ⊢
  by_cases h1 : b.length < 4
  · rw [if_pos h1]; exact ⟨rfl, rfl⟩
  rw [if_neg h1] at h ⊢
  by_cases h2 : (unfixedS (b.drop (b.length - 4)) 4).1 > ((b.length - 4) / 4 : Nat)
  · rw [if_pos h2]; exact ⟨rfl, rfl⟩
  rw [if_neg h2] at h ⊢
  exact parseF_bad h
theorem pGo_inv {d : List Int} (hb : Bytes d) (hd : d.length ≤ 20000) {two : Prop} [Decidable two] {sec : Int} : ∀ (m : Nat) (a rs : Int) (l : List KV) (last : List Int) (rs' : Int) (l' : List KV), (d.length - a).toNat ≤ m → 0 ≤ a → a ≤ d.length → (l.length : Int) ≤ a → (last.length : Int) ≤ a → total l ≤ 40000 * l.length →
    pGo d two sec a rs l last = some (rs', l') → l'.length ≤ d.length ∧ total l' ≤ 40000 * l'.length
  | m, a, rs, l, last, rs', l', hm, h0, h1, h2, h3, h4, h => by
    rw [pGo] at h
    split at h
    · rename_i ha
      split at h
      · simp at h
      · rename_i hbad
        have hg := ent_good hb ⟨h0, h1⟩ (Bool.eq_false_iff.2 hbad)
        have g1 := hg.at1
        have g2 := hg.at2
        have g4 := hg.key
        have g5 := hg.both
        split at h
        · cases m with
          | zero => omega
          | succ m =>
            refine pGo_inv hb hd m _ _ _ _ rs' l' (by omega) (by omega) g2 ?_ (by omega) ?_ h
            · rw [List.length_append, List.length_singleton]; omega
            · rw [total_append, List.length_append, List.length_singleton]; omega
        · simp at h
    · simp only [Option.some.injEq, Prod.mk.injEq] at h
      obtain ⟨-, rfl⟩ := h
      exact ⟨by omega, h4⟩
theorem parse_fair {b : List Int} (hb : Bytes b) (hl : b.length ≤ 20000) : Fair (parseS b).1 := by
  have nil : Fair ([] : List KV) := ⟨by simp, by simp [total]⟩
  unfold parseS
  split
  · exact nil
  split
  · exact nil
  unfold parseF
  split
  · exact nil
  · rename_i rs l hg
    generalize (if (unfixedS (b.drop (b.length - 4)) 4).1 ≤ 1 then max (l.length : Int) 1 else rs) = r
    split
    · have hdl : (b.take (b.length - 4 - 4 * (unfixedS (b.drop (b.length - 4)) 4).1.toNat)).length ≤ 20000 := by rw [List.length_take]; omega
      have := pGo_inv (hb.take _) hdl _ 0 0 [] [] rs l (Nat.le_refl _) (Int.le_refl 0) (by omega) (Int.le_refl 0) (Int.le_refl 0) (Nat.zero_le _) hg
      exact ⟨by show l.length ≤ _; omega, by have := this.2; show total l ≤ _; omega⟩
    · exact nil
theorem nnt_t {p : Prop} [Decidable p] (h : p) : (!!tst p) = true := by rw [tst_t h]; rfl
theorem nnt_f {p : Prop} [Decidable p] (h : ¬ p) : (!!tst p) = false := by rw [tst_f h]; rfl
theorem split_e (a : List Int) : (split a).2.2.2 = 0 ∨ (split a).2.2.2 = 23 := by
  unfold split
  by_cases h1 : a.length < 8 ∨ 136 < a.length
  · rw [if_pos h1]; exact .inr rfl
  · rw [if_neg h1]
    by_cases h2 : 1 < leVal (a.drop (a.length - 8)) % 256
    · rw [if_pos h2]; exact .inr rfl
    · rw [if_neg h2]; exact .inl rfl
abbrev seekC : Ctx := ⟨rows, (fun  | _ => ([], []))⟩
theorem seek_ok (T : Tab) (h1 : T 18 = parseSp.ent) (h2 : T 40 = splitSp.ent) (h3 : T 43 = behindSp.ent) (h4 : T 41 = none) (h5 : T 42 = none) : seekSp.Ok T seekC F20 := by
  rw [on_top h1, on_top h2, on_top h3, off_top h4, off_top h5]
  rintro ⟨(b : List Int), (k : List Int), _⟩ hf hp
  have hl : b.length ≤ 20000 := tst_iff.1 hp
  obtain ⟨F, hF⟩ : ∃ F : Nat, F = (parseS b).1.length + 5 := ⟨_, rfl⟩
  refine ⟨F, 2, ?_⟩
  show evFn _ _ _ _ _ [vB b, vB k] [] _ = some (.tup [.d kv (seekS b k).1, .d .bo (seekS b k).2.1, vI (seekS b k).2.2] : V)
  conv => lhs; whnf
  try simp (disch := omega) only [nI64, nU64, nU32, nU8, nSubL, nAddL, nAdd, nSub, nDiv, nMod, nZ, nLit, row_3, row_5, row_16, row_26, row_42, row_58, Ty.den, dflt_it, dflt_li, dflt_kv, Int.toNat_natCast, List.take_length, List.drop_zero]
  unfold seekS
  repeat (refine br_go ?_ ?_; (focus (((repeat' first | exact rfl | exact ordB_st rfl | exact ordB_of rfl | apply band | apply tst_t | apply nt_t)  <;> (try dsimp only [Ty.den, dflt_kv]) <;> (try simp only [List.length_append, List.length_cons, List.length_nil, List.length_take, List.length_drop, List.length_replicate]) <;> (first | trivial | assumption | omega | (change (_ : Int) ≤ _; omega) | (change (_ : Int) < _; omega) | (change (_ : Nat) * 1 ≤ _; omega) | (change (_ : Nat) * 48 ≤ _; omega) | (change (_ : Nat) * 24 ≤ _; omega) | (change (_ : Nat) * 8 ≤ _; omega) | (change (_ : Nat) * 64 ≤ _; omega) | decide)); done)); (conv => lhs; whnf); (try simp (disch := omega) only [nI64, nU64, nU32, nU8, nSubL, nAddL, nAdd, nSub, nDiv, nMod, nZ, nLit, row_3, row_5, row_16, row_26, row_42, row_58, Ty.den, dflt_it, dflt_li, dflt_kv, Int.toNat_natCast, List.take_length, List.drop_zero]))
  by_cases g1 : (parseS b).2 = 0
  · refine br_no (tst_f (by simpa using g1)) ?_
    conv => lhs; whnf
    try simp (disch := omega) only [nI64, nU64, nU32, nU8, nSubL, nAddL, nAdd, nSub, nDiv, nMod, nZ, nLit, row_3, row_5, row_16, row_26, row_42, row_58, Ty.den, dflt_it, dflt_li, dflt_kv, Int.toNat_natCast, List.take_length, List.drop_zero]
    rw [if_neg (by simpa using g1)]
    repeat (refine br_go ?_ ?_; (focus (((repeat' first | exact rfl | exact ordB_st rfl | exact ordB_of rfl | apply band | apply tst_t | apply nt_t)  <;> (try dsimp only [Ty.den, dflt_kv]) <;> (try simp only [List.length_append, List.length_cons, List.length_nil, List.length_take, List.length_drop, List.length_replicate]) <;> (first | trivial | assumption | omega | (change (_ : Int) ≤ _; omega) | (change (_ : Int) < _; omega) | (change (_ : Nat) * 1 ≤ _; omega) | (change (_ : Nat) * 48 ≤ _; omega) | (change (_ : Nat) * 24 ≤ _; omega) | (change (_ : Nat) * 8 ≤ _; omega) | (change (_ : Nat) * 64 ≤ _; omega) | decide)); done)); (conv => lhs; whnf); (try simp (disch := omega) only [nI64, nU64, nU32, nU8, nSubL, nAddL, nAdd, nSub, nDiv, nMod, nZ, nLit, row_3, row_5, row_16, row_26, row_42, row_58, Ty.den, dflt_it, dflt_li, dflt_kv, Int.toNat_natCast, List.take_length, List.drop_zero]))
    by_cases g2 : (split k).2.2.2 = 0
    · refine br_no (tst_f (by simpa using g2)) ?_
      conv => lhs; whnf
      try simp (disch := omega) only [nI64, nU64, nU32, nU8, nSubL, nAddL, nAdd, nSub, nDiv, nMod, nZ, nLit, row_3, row_5, row_16, row_26, row_42, row_58, Ty.den, dflt_it, dflt_li, dflt_kv, Int.toNat_natCast, List.take_length, List.drop_zero]
      rw [if_neg (by simpa using g2)]
      repeat (refine br_go ?_ ?_; (focus (((repeat' first | exact rfl | exact ordB_st rfl | exact ordB_of rfl | apply band | apply tst_t | apply nt_t)  <;> (try dsimp only [Ty.den, dflt_kv]) <;> (try simp only [List.length_append, List.length_cons, List.length_nil, List.length_take, List.length_drop, List.length_replicate]) <;> (first | trivial | assumption | omega | (change (_ : Int) ≤ _; omega) | (change (_ : Int) < _; omega) | (change (_ : Nat) * 1 ≤ _; omega) | (change (_ : Nat) * 48 ≤ _; omega) | (change (_ : Nat) * 24 ≤ _; omega) | (change (_ : Nat) * 8 ≤ _; omega) | (change (_ : Nat) * 64 ≤ _; omega) | decide)); done)); (conv => lhs; whnf); (try simp (disch := omega) only [nI64, nU64, nU32, nU8, nSubL, nAddL, nAdd, nSub, nDiv, nMod, nZ, nLit, row_3, row_5, row_16, row_26, row_42, row_58, Ty.den, dflt_it, dflt_li, dflt_kv, Int.toNat_natCast, List.take_length, List.drop_zero]))
      have hr := (parse_good g1).1
      obtain ⟨o1, -, o3⟩ := risesFrom_order _ _ hr
      have hlf : (parseS b).1.length ≤ 140737488355328 := by have : (parseS b).1.length ≤ 1048576 := (parse_fair (bytes_of hf.1) hl).1; omega
      generalize (parseS b).1 = l at *
      have hn : l.length ≤ 140737488355328 := hlf
      refine loop_rule (α := Nat × Nat) (fun a => a.1 ≤ a.2 ∧ a.2 ≤ l.length ∧ (∀ q, q < a.1 → order (l.getD q kvd).1 k < 0) ∧ (∀ q, a.2 ≤ q → q < l.length → ¬ order (l.getD q kvd).1 k < 0)) (fun a => a.2 - a.1)
        (fun a => (V.bad :: V.fn 42 [] [V.p 0 0, V.p 5 0] :: V.bad :: V.bad :: V.bad :: vI a.1 :: vI a.2 :: V.bad :: V.bad :: V.bad :: V.bad :: V.bad :: V.bad :: V.bad :: V.bad :: V.bad :: V.bad :: V.bad :: V.bad :: V.bad :: V.bad :: V.bad :: V.bad :: V.bad :: V.bad :: V.bad :: []))
        (fun a => [.obj [vB k], .obj [vO 2 [], vO 3 []], .fam 0, .fam 0, .fam l.length, .obj [.own 4 kv l], .fam 0, .gone, .fam (split k).1.length, .gone, .gone, .gone])
        (fun a => some (V.tup [.d kv (seekL l k).1, .d .bo (seekL l k).2, vI 0])) ?_ F (0, l.length) ⟨Nat.zero_le _, Nat.le_refl _, fun q h => absurd h (Nat.not_lt_zero q), fun q h1 h2 => absurd h2 (by omega)⟩ (by show l.length - 0 < F; omega)
      rintro ⟨i, j⟩ K ⟨k1, k2, k3, k4⟩ hK
      simp only at k1 k2 k3 k4 hK ⊢
      conv => lhs; whnf
      try simp (disch := omega) only [nI64, nU64, nU32, nU8, nSubL, nAddL, nAdd, nSub, nDiv, nMod, nZ, nLit, row_3, row_5, row_16, row_26, row_42, row_58, Ty.den, dflt_it, dflt_li, dflt_kv, Int.toNat_natCast, List.take_length, List.drop_zero]
      by_cases hij : i < j
      · refine br_go (tst_t (by omega)) ?_
        conv => lhs; whnf
        try simp (disch := omega) only [nI64, nU64, nU32, nU8, nSubL, nAddL, nAdd, nSub, nDiv, nMod, nZ, nLit, row_3, row_5, row_16, row_26, row_42, row_58, Ty.den, dflt_it, dflt_li, dflt_kv, Int.toNat_natCast, List.take_length, List.drop_zero]
        have eh : IntKind.i64.wrap (((i : Int) + (j : Int)).fdiv (2 ^ min 1 IntKind.u64.bits)) = (((i + j) / 2 : Nat) : Int) := by
          have e1 : min 1 IntKind.u64.bits = 1 := by decide
          rw [e1, nI64] <;> rw [show ((i : Int) + (j : Int)).fdiv (2 ^ 1) = ((i : Int) + j) / 2 from Int.fdiv_eq_ediv_of_nonneg _ (by omega)] <;> omega
        repeat (refine br_go ?_ ?_; (focus (((repeat' first | exact rfl | exact ordB_st rfl | exact ordB_of rfl | apply band | apply tst_t | apply nt_t)  <;> (try dsimp only [Ty.den, dflt_kv]) <;> (try simp only [List.length_append, List.length_cons, List.length_nil, List.length_take, List.length_drop, List.length_replicate]) <;> (first | trivial | assumption | omega | (change (_ : Int) ≤ _; omega) | (change (_ : Int) < _; omega) | (change (_ : Nat) * 1 ≤ _; omega) | (change (_ : Nat) * 48 ≤ _; omega) | (change (_ : Nat) * 24 ≤ _; omega) | (change (_ : Nat) * 8 ≤ _; omega) | (change (_ : Nat) * 64 ≤ _; omega) | decide)); done)); (conv => lhs; whnf); (try simp (disch := omega) only [nI64, nU64, nU32, nU8, nSubL, nAddL, nAdd, nSub, nDiv, nMod, nZ, nLit, row_3, row_5, row_16, row_26, row_42, row_58, Ty.den, dflt_it, dflt_li, dflt_kv, Int.toNat_natCast, List.take_length, List.drop_zero]))
        try simp (disch := omega) only [nI64, nU64, nU32, nU8, nSubL, nAddL, nAdd, nSub, nDiv, nMod, nZ, nLit, row_3, row_5, row_16, row_26, row_42, row_58, Ty.den, dflt_it, dflt_li, dflt_kv, Int.toNat_natCast, List.take_length, List.drop_zero, eh]
        repeat (refine br_go ?_ ?_; (focus (((repeat' first | exact rfl | exact ordB_st rfl | exact ordB_of rfl | apply band | apply tst_t | apply nt_t)  <;> (try dsimp only [Ty.den, dflt_kv]) <;> (try simp only [List.length_append, List.length_cons, List.length_nil, List.length_take, List.length_drop, List.length_replicate]) <;> (first | trivial | assumption | omega | (change (_ : Int) ≤ _; omega) | (change (_ : Int) < _; omega) | (change (_ : Nat) * 1 ≤ _; omega) | (change (_ : Nat) * 48 ≤ _; omega) | (change (_ : Nat) * 24 ≤ _; omega) | (change (_ : Nat) * 8 ≤ _; omega) | (change (_ : Nat) * 64 ≤ _; omega) | decide)); done)); (conv => lhs; whnf); (try simp (disch := omega) only [nI64, nU64, nU32, nU8, nSubL, nAddL, nAdd, nSub, nDiv, nMod, nZ, nLit, row_3, row_5, row_16, row_26, row_42, row_58, Ty.den, dflt_it, dflt_li, dflt_kv, Int.toNat_natCast, List.take_length, List.drop_zero]))
        try simp (disch := omega) only [nI64, nU64, nU32, nU8, nSubL, nAddL, nAdd, nSub, nDiv, nMod, nZ, nLit, row_3, row_5, row_16, row_26, row_42, row_58, Ty.den, dflt_it, dflt_li, dflt_kv, Int.toNat_natCast, List.take_length, List.drop_zero, eh]
        by_cases hc : order (l.getD ((i + j) / 2) kvd).1 k < 0
        · have hh : (i + j) / 2 < l.length := by omega
          refine br_go (nnt_t ⟨o3 _ hh, g2, hc⟩) ?_
          conv => lhs; whnf
          try simp (disch := omega) only [nI64, nU64, nU32, nU8, nSubL, nAddL, nAdd, nSub, nDiv, nMod, nZ, nLit, row_3, row_5, row_16, row_26, row_42, row_58, Ty.den, dflt_it, dflt_li, dflt_kv, Int.toNat_natCast, List.take_length, List.drop_zero]
          repeat (refine br_go ?_ ?_; (focus (((repeat' first | exact rfl | exact ordB_st rfl | exact ordB_of rfl | apply band | apply tst_t | apply nt_t)  <;> (try dsimp only [Ty.den, dflt_kv]) <;> (try simp only [List.length_append, List.length_cons, List.length_nil, List.length_take, List.length_drop, List.length_replicate]) <;> (first | trivial | assumption | omega | (change (_ : Int) ≤ _; omega) | (change (_ : Int) < _; omega) | (change (_ : Nat) * 1 ≤ _; omega) | (change (_ : Nat) * 48 ≤ _; omega) | (change (_ : Nat) * 24 ≤ _; omega) | (change (_ : Nat) * 8 ≤ _; omega) | (change (_ : Nat) * 64 ≤ _; omega) | decide)); done)); (conv => lhs; whnf); (try simp (disch := omega) only [nI64, nU64, nU32, nU8, nSubL, nAddL, nAdd, nSub, nDiv, nMod, nZ, nLit, row_3, row_5, row_16, row_26, row_42, row_58, Ty.den, dflt_it, dflt_li, dflt_kv, Int.toNat_natCast, List.take_length, List.drop_zero]))
          have := hK ((i + j) / 2 + 1, j) ⟨by show (i + j) / 2 + 1 ≤ j; omega, k2, fun q hq => by
            rcases Nat.lt_or_ge q ((i + j) / 2) with h | h
            · exact order_lt_trans (Int.le_of_lt (o1 q _ h hh)) hc
            · have : q = (i + j) / 2 := by have : q < (i + j) / 2 + 1 := hq; omega
              rw [this]; exact hc, k4⟩ (by show j - ((i + j) / 2 + 1) < j - i; omega)
          exact this
        · have hh : (i + j) / 2 < l.length := by omega
          refine br_no (nnt_f (fun h => hc h.2.2)) ?_
          conv => lhs; whnf
          try simp (disch := omega) only [nI64, nU64, nU32, nU8, nSubL, nAddL, nAdd, nSub, nDiv, nMod, nZ, nLit, row_3, row_5, row_16, row_26, row_42, row_58, Ty.den, dflt_it, dflt_li, dflt_kv, Int.toNat_natCast, List.take_length, List.drop_zero]
          repeat (refine br_go ?_ ?_; (focus (((repeat' first | exact rfl | exact ordB_st rfl | exact ordB_of rfl | apply band | apply tst_t | apply nt_t)  <;> (try dsimp only [Ty.den, dflt_kv]) <;> (try simp only [List.length_append, List.length_cons, List.length_nil, List.length_take, List.length_drop, List.length_replicate]) <;> (first | trivial | assumption | omega | (change (_ : Int) ≤ _; omega) | (change (_ : Int) < _; omega) | (change (_ : Nat) * 1 ≤ _; omega) | (change (_ : Nat) * 48 ≤ _; omega) | (change (_ : Nat) * 24 ≤ _; omega) | (change (_ : Nat) * 8 ≤ _; omega) | (change (_ : Nat) * 64 ≤ _; omega) | decide)); done)); (conv => lhs; whnf); (try simp (disch := omega) only [nI64, nU64, nU32, nU8, nSubL, nAddL, nAdd, nSub, nDiv, nMod, nZ, nLit, row_3, row_5, row_16, row_26, row_42, row_58, Ty.den, dflt_it, dflt_li, dflt_kv, Int.toNat_natCast, List.take_length, List.drop_zero]))
          have := hK (i, (i + j) / 2) ⟨by show i ≤ (i + j) / 2; omega, by show (i + j) / 2 ≤ l.length; omega, k3, fun q hq hql => by
            have hq : (i + j) / 2 ≤ q := hq
            rcases Nat.lt_or_ge ((i + j) / 2) q with h | h
            · exact fun hx => hc (order_lt_trans (Int.le_of_lt (o1 _ q h hql)) hx)
            · have : q = (i + j) / 2 := by omega
              rw [this]; exact hc⟩ (by show (i + j) / 2 - i < j - i; omega)
          exact this
      · refine br_no (tst_f (by omega)) ?_
        conv => lhs; whnf
        try simp (disch := omega) only [nI64, nU64, nU32, nU8, nSubL, nAddL, nAdd, nSub, nDiv, nMod, nZ, nLit, row_3, row_5, row_16, row_26, row_42, row_58, Ty.den, dflt_it, dflt_li, dflt_kv, Int.toNat_natCast, List.take_length, List.drop_zero]
        obtain rfl : i = j := by omega
        have hs : seekI l k = i := seekI_eq k2 k3 (fun h => k4 i (Nat.le_refl _) h)
        have hs2 : seekL l k = if i = l.length then (kvd, false) else (l.getD i kvd, true) := by unfold seekL; rw [hs]
        rw [hs2]
        repeat (refine br_go ?_ ?_; (focus (((repeat' first | exact rfl | exact ordB_st rfl | exact ordB_of rfl | apply band | apply tst_t | apply nt_t)  <;> (try dsimp only [Ty.den, dflt_kv]) <;> (try simp only [List.length_append, List.length_cons, List.length_nil, List.length_take, List.length_drop, List.length_replicate]) <;> (first | trivial | assumption | omega | (change (_ : Int) ≤ _; omega) | (change (_ : Int) < _; omega) | (change (_ : Nat) * 1 ≤ _; omega) | (change (_ : Nat) * 48 ≤ _; omega) | (change (_ : Nat) * 24 ≤ _; omega) | (change (_ : Nat) * 8 ≤ _; omega) | (change (_ : Nat) * 64 ≤ _; omega) | decide)); done)); (conv => lhs; whnf); (try simp (disch := omega) only [nI64, nU64, nU32, nU8, nSubL, nAddL, nAdd, nSub, nDiv, nMod, nZ, nLit, row_3, row_5, row_16, row_26, row_42, row_58, Ty.den, dflt_it, dflt_li, dflt_kv, Int.toNat_natCast, List.take_length, List.drop_zero]))
        by_cases hil : i = l.length
        · rw [if_pos hil]
          refine br_go (tst_t (by omega)) ?_
          conv => lhs; whnf
          try simp (disch := omega) only [nI64, nU64, nU32, nU8, nSubL, nAddL, nAdd, nSub, nDiv, nMod, nZ, nLit, row_3, row_5, row_16, row_26, row_42, row_58, Ty.den, dflt_it, dflt_li, dflt_kv, Int.toNat_natCast, List.take_length, List.drop_zero]
          repeat (refine br_go ?_ ?_; (focus (((repeat' first | exact rfl | exact ordB_st rfl | exact ordB_of rfl | apply band | apply tst_t | apply nt_t)  <;> (try dsimp only [Ty.den, dflt_kv]) <;> (try simp only [List.length_append, List.length_cons, List.length_nil, List.length_take, List.length_drop, List.length_replicate]) <;> (first | trivial | assumption | omega | (change (_ : Int) ≤ _; omega) | (change (_ : Int) < _; omega) | (change (_ : Nat) * 1 ≤ _; omega) | (change (_ : Nat) * 48 ≤ _; omega) | (change (_ : Nat) * 24 ≤ _; omega) | (change (_ : Nat) * 8 ≤ _; omega) | (change (_ : Nat) * 64 ≤ _; omega) | decide)); done)); (conv => lhs; whnf); (try simp (disch := omega) only [nI64, nU64, nU32, nU8, nSubL, nAddL, nAdd, nSub, nDiv, nMod, nZ, nLit, row_3, row_5, row_16, row_26, row_42, row_58, Ty.den, dflt_it, dflt_li, dflt_kv, Int.toNat_natCast, List.take_length, List.drop_zero]))
          rfl
        · rw [if_neg hil]
          refine br_no (tst_f (by omega)) ?_
          conv => lhs; whnf
          try simp (disch := omega) only [nI64, nU64, nU32, nU8, nSubL, nAddL, nAdd, nSub, nDiv, nMod, nZ, nLit, row_3, row_5, row_16, row_26, row_42, row_58, Ty.den, dflt_it, dflt_li, dflt_kv, Int.toNat_natCast, List.take_length, List.drop_zero]
          repeat (refine br_go ?_ ?_; (focus (((repeat' first | exact rfl | exact ordB_st rfl | exact ordB_of rfl | apply band | apply tst_t | apply nt_t)  <;> (try dsimp only [Ty.den, dflt_kv]) <;> (try simp only [List.length_append, List.length_cons, List.length_nil, List.length_take, List.length_drop, List.length_replicate]) <;> (first | trivial | assumption | omega | (change (_ : Int) ≤ _; omega) | (change (_ : Int) < _; omega) | (change (_ : Nat) * 1 ≤ _; omega) | (change (_ : Nat) * 48 ≤ _; omega) | (change (_ : Nat) * 24 ≤ _; omega) | (change (_ : Nat) * 8 ≤ _; omega) | (change (_ : Nat) * 64 ≤ _; omega) | decide)); done)); (conv => lhs; whnf); (try simp (disch := omega) only [nI64, nU64, nU32, nU8, nSubL, nAddL, nAdd, nSub, nDiv, nMod, nZ, nLit, row_3, row_5, row_16, row_26, row_42, row_58, Ty.den, dflt_it, dflt_li, dflt_kv, Int.toNat_natCast, List.take_length, List.drop_zero]))
    · refine br_go (tst_t (by simpa using g2)) ?_
      conv => lhs; whnf
      try simp (disch := omega) only [nI64, nU64, nU32, nU8, nSubL, nAddL, nAdd, nSub, nDiv, nMod, nZ, nLit, row_3, row_5, row_16, row_26, row_42, row_58, Ty.den, dflt_it, dflt_li, dflt_kv, Int.toNat_natCast, List.take_length, List.drop_zero]
      rw [if_pos (by simpa using g2)]
      repeat (refine br_go ?_ ?_; (focus (((repeat' first | exact rfl | exact ordB_st rfl | exact ordB_of rfl | apply band | apply tst_t | apply nt_t)  <;> (try dsimp only [Ty.den, dflt_kv]) <;> (try simp only [List.length_append, List.length_cons, List.length_nil, List.length_take, List.length_drop, List.length_replicate]) <;> (first | trivial | assumption | omega | (change (_ : Int) ≤ _; omega) | (change (_ : Int) < _; omega) | (change (_ : Nat) * 1 ≤ _; omega) | (change (_ : Nat) * 48 ≤ _; omega) | (change (_ : Nat) * 24 ≤ _; omega) | (change (_ : Nat) * 8 ≤ _; omega) | (change (_ : Nat) * 64 ≤ _; omega) | decide)); done)); (conv => lhs; whnf); (try simp (disch := omega) only [nI64, nU64, nU32, nU8, nSubL, nAddL, nAdd, nSub, nDiv, nMod, nZ, nLit, row_3, row_5, row_16, row_26, row_42, row_58, Ty.den, dflt_it, dflt_li, dflt_kv, Int.toNat_natCast, List.take_length, List.drop_zero]))
      rw [(split_e k).resolve_left g2]
      rfl
  · refine br_go (tst_t (by simpa using g1)) ?_
    conv => lhs; whnf
    try simp (disch := omega) only [nI64, nU64, nU32, nU8, nSubL, nAddL, nAdd, nSub, nDiv, nMod, nZ, nLit, row_3, row_5, row_16, row_26, row_42, row_58, Ty.den, dflt_it, dflt_li, dflt_kv, Int.toNat_natCast, List.take_length, List.drop_zero]
    rw [if_pos g1]
    repeat (refine br_go ?_ ?_; (focus (((repeat' first | exact rfl | exact ordB_st rfl | exact ordB_of rfl | apply band | apply tst_t | apply nt_t)  <;> (try dsimp only [Ty.den, dflt_kv]) <;> (try simp only [List.length_append, List.length_cons, List.length_nil, List.length_take, List.length_drop, List.length_replicate]) <;> (first | trivial | assumption | omega | (change (_ : Int) ≤ _; omega) | (change (_ : Int) < _; omega) | (change (_ : Nat) * 1 ≤ _; omega) | (change (_ : Nat) * 48 ≤ _; omega) | (change (_ : Nat) * 24 ≤ _; omega) | (change (_ : Nat) * 8 ≤ _; omega) | (change (_ : Nat) * 64 ≤ _; omega) | decide)); done)); (conv => lhs; whnf); (try simp (disch := omega) only [nI64, nU64, nU32, nU8, nSubL, nAddL, nAdd, nSub, nDiv, nMod, nZ, nLit, row_3, row_5, row_16, row_26, row_42, row_58, Ty.den, dflt_it, dflt_li, dflt_kv, Int.toNat_natCast, List.take_length, List.drop_zero]))
    rfl
end Go.Proofs.Ytdhbelpejaobdaa.Ev
/- All contracts, in a table. -/
namespace Go.Proofs.Ytdhbelpejaobdaa.Ev
open Go Go.RowKit
set_option linter.unusedVariables false
set_option maxRecDepth 100000
set_option maxHeartbeats 8000000
noncomputable def T0 : Tab := tab0
theorem T0_far : TabFar Try.prog T0 := tab0_far
noncomputable def T1 : Tab := tabAdd T0 51 cloneSp.ts cloneSp.F
theorem T1_far : TabFar Try.prog T1 := add_far cloneSp T0_far at51 (by kernel_rfl) (by kernel_rfl) (fun x _ => clone_far x.1)
noncomputable def T2 : Tab := tabAdd T1 73 cmpBSp.ts cmpBSp.F
theorem T2_far : TabFar Try.prog T2 := add_ext cmpBSp T1_far (fun x _ => compare_ext x)
noncomputable def T3 : Tab := tabAdd T2 68 fixedSp.ts fixedSp.F
theorem T3_far : TabFar Try.prog T3 := add_ok fixedSp T2_far (rows_ok _) at68 (by kernel_rfl) (by kernel_rfl) (fixed_ok _)
noncomputable def T4 : Tab := tabAdd T3 53 fixed4Sp.ts fixed4Sp.F
theorem T4_far : TabFar Try.prog T4 := add_ok fixed4Sp T3_far (rows_ok _) at53 (by kernel_rfl) (by kernel_rfl) (fixed4_ok _ rfl)
noncomputable def T5 : Tab := tabAdd T4 52 fixed8Sp.ts fixed8Sp.F
theorem T5_far : TabFar Try.prog T5 := add_ok fixed8Sp T4_far (rows_ok _) at52 (by kernel_rfl) (by kernel_rfl) (fixed8_ok _ rfl)
noncomputable def T6 : Tab := tabAdd T5 55 putSp.ts putSp.F
theorem T6_far : TabFar Try.prog T6 := add_ok putSp T5_far (rows_ok _) at55 (by kernel_rfl) (by kernel_rfl) (put_ok _)
noncomputable def T7 : Tab := tabAdd T6 59 unfixedSp.ts unfixedSp.F
theorem T7_far : TabFar Try.prog T7 := add_ok unfixedSp T6_far (rows_ok _) at59 (by kernel_rfl) (by kernel_rfl) (unfixed_ok _)
noncomputable def T8 : Tab := tabAdd T7 35 unfixed4Sp.ts unfixed4Sp.F
theorem T8_far : TabFar Try.prog T8 := add_ok unfixed4Sp T7_far (rows_ok _) at35 (by kernel_rfl) (by kernel_rfl) (unfixed4_ok _ rfl)
noncomputable def T9 : Tab := tabAdd T8 63 unfixed8Sp.ts unfixed8Sp.F
theorem T9_far : TabFar Try.prog T9 := add_ok unfixed8Sp T8_far (rows_ok _) at63 (by kernel_rfl) (by kernel_rfl) (unfixed8_ok _ rfl)
noncomputable def T10 : Tab := tabAdd T9 50 rightSp.ts rightSp.F
theorem T10_far : TabFar Try.prog T10 := add_ok rightSp T9_far (rows_ok _) at50 (by kernel_rfl) (by kernel_rfl) (right_ok _)
noncomputable def T11 : Tab := tabAdd T10 40 splitSp.ts splitSp.F
theorem T11_far : TabFar Try.prog T11 := add_ok splitSp T10_far (rows_ok _) at40 (by kernel_rfl) (by kernel_rfl) (split_ok _ rfl rfl rfl)
noncomputable def T12 : Tab := tabAdd T11 74 nanUSp.ts nanUSp.F
theorem T12_far : TabFar Try.prog T12 := add_ok nanUSp T11_far (rows_ok _) at74 (by kernel_rfl) (by kernel_rfl) (nanU_ok _)
noncomputable def T13 : Tab := tabAdd T12 75 nanISp.ts nanISp.F
theorem T13_far : TabFar Try.prog T13 := add_ok nanISp T12_far (rows_ok _) at75 (by kernel_rfl) (by kernel_rfl) (nanI_ok _)
noncomputable def T14 : Tab := tabAdd T13 71 cmpUSp.ts cmpUSp.F
theorem T14_far : TabFar Try.prog T14 := add_ok cmpUSp T13_far (rows_ok _) at71 (by kernel_rfl) (by kernel_rfl) (cmpU_ok _ rfl)
noncomputable def T15 : Tab := tabAdd T14 72 cmpISp.ts cmpISp.F
theorem T15_far : TabFar Try.prog T15 := add_ok cmpISp T14_far (rows_ok _) at72 (by kernel_rfl) (by kernel_rfl) (cmpI_ok _ rfl)
noncomputable def T16 : Tab := tabAdd T15 70 cmpBSp.ts cmpBSp.F
theorem T16_far : TabFar Try.prog T16 := add_ok cmpBSp T15_far (rows_ok _) at70 (by kernel_rfl) (by kernel_rfl) (bcompare_ok _ rfl)
noncomputable def T17 : Tab := tabAdd T16 64 compareSp.ts compareSp.F
theorem T17_far : TabFar Try.prog T17 := add_ok compareSp T16_far (rows_ok _) at64 (by kernel_rfl) (by kernel_rfl) (compare_ok _ rfl rfl rfl rfl)
noncomputable def T18 : Tab := tabAdd T17 57 putSp.ts putSp.F
theorem T18_far : TabFar Try.prog T18 := add_ok putSp T17_far (rows_ok _) at57 (by kernel_rfl) (by kernel_rfl) (rput_ok _)
noncomputable def T19 : Tab := tabAdd T18 58 fixedSp.ts fixedSp.F
theorem T19_far : TabFar Try.prog T19 := add_ok fixedSp T18_far (rows_ok _) at58 (by kernel_rfl) (by kernel_rfl) (rfixed_ok _)
noncomputable def T20 : Tab := tabAdd T19 38 runfixedSp.ts runfixedSp.F
theorem T20_far : TabFar Try.prog T20 := add_ok runfixedSp T19_far (rows_ok _) at38 (by kernel_rfl) (by kernel_rfl) (runfixed_ok _)
noncomputable def T21 : Tab := tabAdd T20 44 rsplitSp.ts rsplitSp.F
theorem T21_far : TabFar Try.prog T21 := add_okW rsplitSp T20_far (rows_ok _) at44 (by kernel_rfl) (by kernel_rfl) (rsplit_ok _ rfl)
noncomputable def T22 : Tab := tabAdd T21 23 isSp.ts isSp.F
theorem T22_far : TabFar Try.prog T22 := add_ok isSp T21_far (rows_ok _) at23 (by kernel_rfl) (by kernel_rfl) (is_ok _ rfl)
noncomputable def T23 : Tab := tabAdd T22 45 cmpBSp.ts cmpBSp.F
theorem T23_far : TabFar Try.prog T23 := add_ok cmpBSp T22_far (rows_ok _) at45 (by kernel_rfl) (by kernel_rfl) (rbytes_ok _)
noncomputable def T24 : Tab := tabAdd T23 24 orderSp.ts orderSp.F
theorem T24_far : TabFar Try.prog T24 := add_ok orderSp T23_far (rows_ok _) at24 (by kernel_rfl) (by kernel_rfl) (order_ok _ rfl rfl)
noncomputable def T25 : Tab := tabAdd T24 33 risesSp.ts risesSp.F
theorem T25_far : TabFar Try.prog T25 := add_ok risesSp T24_far (rows_ok _) at33 (by kernel_rfl) (by kernel_rfl) (rises_ok _ rfl rfl)
noncomputable def T26 : Tab := tabAdd T25 16 hbytesSp.ts hbytesSp.F
theorem T26_far : TabFar Try.prog T26 := add_ok hbytesSp T25_far (rows_ok _) at16 (by kernel_rfl) (by kernel_rfl) (hbytes_ok _)
noncomputable def T27 : Tab := tabAdd T26 17 kvsSp.ts kvsSp.F
theorem T27_far : TabFar Try.prog T27 := add_ok kvsSp T26_far (rows_ok _) at17 (by kernel_rfl) (by kernel_rfl) (kvs_ok _)
noncomputable def T28 : Tab := tabAdd T27 13 copySp.ts copySp.F
theorem T28_far : TabFar Try.prog T28 := add_ok copySp T27_far (rows_ok _) at13 (by kernel_rfl) (by kernel_rfl) (copy_ok _)
noncomputable def T29 : Tab := tabAdd T28 43 behindSp.ts behindSp.F
theorem T29_far : TabFar Try.prog T29 := add_ok behindSp T28_far (rows_ok _) at43 (by kernel_rfl) (by kernel_rfl) (behind_ok _ rfl)
noncomputable def T30 : Tab := tabAdd T29 31 risesSp.ts risesSp.F
theorem T30_far : TabFar Try.prog T30 := add_ok risesSp T29_far (rows_ok _) at31 (by kernel_rfl) (by kernel_rfl) (bright_ok _ rfl rfl)
noncomputable def T31 : Tab := tabAdd T30 54 sharedSp.ts sharedSp.F
theorem T31_far : TabFar Try.prog T31 := add_ok sharedSp T30_far (rows_ok _) at54 (by kernel_rfl) (by kernel_rfl) (shared_ok _)
noncomputable def T32 : Tab := tabAdd T31 32 builtSp.ts builtSp.F
theorem T32_far : TabFar Try.prog T32 := add_ok builtSp T31_far (rows_ok _) at32 (by kernel_rfl) (by kernel_rfl) (built_ok _ rfl rfl rfl)
noncomputable def T33 : Tab := tabAdd T32 14 buildSp.ts buildSp.F
theorem T33_far : TabFar Try.prog T33 := add_ok buildSp T32_far (rows_ok _) at14 (by kernel_rfl) (by kernel_rfl) (bbuild_ok _ rfl rfl)
noncomputable def T34 : Tab := tabAdd T33 56 sharedSp.ts sharedSp.F
theorem T34_far : TabFar Try.prog T34 := add_ok sharedSp T33_far (rows_ok _) at56 (by kernel_rfl) (by kernel_rfl) (rshared_ok _)
noncomputable def T35 : Tab := tabAdd T34 34 builtSp.ts builtSp.F
theorem T35_far : TabFar Try.prog T35 := add_ok builtSp T34_far (rows_ok _) at34 (by kernel_rfl) (by kernel_rfl) (of_ok _ rfl rfl rfl)
noncomputable def T36 : Tab := tabAdd T35 15 buildSp.ts buildSp.F
theorem T36_far : TabFar Try.prog T36 := add_ok buildSp T35_far (rows_ok _) at15 (by kernel_rfl) (by kernel_rfl) (rbuild_ok _ rfl rfl)
noncomputable def T37 : Tab := tabAdd T36 12 fewSp.ts fewSp.F
theorem T37_far : TabFar Try.prog T37 := add_ok fewSp T36_far (rows_ok _) at12 (by kernel_rfl) (by kernel_rfl) (few_ok _)
noncomputable def T38 : Tab := tabAdd T37 11 knownSp.ts knownSp.F
theorem T38_far : TabFar Try.prog T38 := add_far knownSp T37_far at11 (by kernel_rfl) (by kernel_rfl) (fun x _ => known_far)
noncomputable def T39 : Tab := tabAdd T38 37 equalSp.ts equalSp.F
theorem T39_far : TabFar Try.prog T39 := add_ok equalSp T38_far (rows_ok _) at37 (by kernel_rfl) (by kernel_rfl) (bequal_ok _)
noncomputable def T40 : Tab := tabAdd T39 69 takeSp.ts takeSp.F
theorem T40_far : TabFar Try.prog T40 := add_ok takeSp T39_far (rows_ok _) at69 (by kernel_rfl) (by kernel_rfl) (take_ok _)
noncomputable def MB0 : MTab := M0
theorem MB0_ok : MTabOK Try.prog MB0 := m0_ok
noncomputable def MB1 : MTab := mAdd MB0 60 numSp
theorem MB1_ok : MTabOK Try.prog MB1 := madd_ok (N := M0) numSp MB0_ok T40_far (rows_ok _) at60 (by kernel_rfl) (by kernel_rfl) rfl (num_ok _ _ rfl)
noncomputable def MB2 : MTab := mAdd MB1 61 takeMSp
theorem MB2_ok : MTabOK Try.prog MB2 := madd_ok (N := M0) takeMSp MB1_ok T40_far (rows_ok _) at61 (by kernel_rfl) (by kernel_rfl) rfl (takeM_ok _ _)
noncomputable def MB3 : MTab := mAdd MB2 36 entMSp
theorem MB3_ok : MTabOK Try.prog MB3 := madd_ok (N := M0) entMSp MB2_ok T40_far (rows_ok _) at36 (by kernel_rfl) (by kernel_rfl) rfl (ent_ok _ _ rfl rfl rfl rfl rfl)
noncomputable def T41 : Tab := tabAdd T40 18 parseSp.ts parseSp.F
theorem T41_far : TabFar Try.prog T41 := add_okM parseSp MB3_ok T40_far (rows_ok _) at18 (by kernel_rfl) (by kernel_rfl) (parse_ok _ _ rfl rfl rfl rfl rfl)
noncomputable def T42 : Tab := tabAdd T41 20 seekSp.ts seekSp.F
theorem T42_far : TabFar Try.prog T42 := add_ok seekSp T41_far (rows_ok _) at20 (by kernel_rfl) (by kernel_rfl) (seek_ok _ rfl rfl rfl rfl rfl)
noncomputable def TB : Tab := T42
theorem TB_far : TabFar Try.prog TB := T42_far
end Go.Proofs.Ytdhbelpejaobdaa.Ev
/- What is built as a block is read as what it was built of. -/
namespace Go.Proofs.Ytdhbelpejaobdaa.Ev
open Go Go.RowKit
set_option linter.unusedVariables false
set_option linter.unusedSimpArgs false
set_option maxHeartbeats 4000000
theorem drop_pre {pre s : List Int} {a : Int} (h : a = (pre.length : Int)) : (pre ++ s).drop a.toNat = s := by
  subst h; rw [Int.toNat_natCast, List.drop_left]
/-- a number stands at a place -/
theorem num_read {d pre rest : List Int} {n : Nat} {a : Int} (hd : d = pre ++ (putS n ++ rest)) (ha : a = (pre.length : Int)) (hn : n ≤ d.length) (h64 : d.length ≤ 1099511627776) (bad : Bool) :
    numPost d a bad = (d, a + (putS n).length, bad, ()) ∧ numRes d a = n := by
  have ht : takeS (d.drop a.toNat) 0 0 = ((n : Int), ((putS n).length : Int), 0) := by
    rw [hd, drop_pre ha, takeS_putS n 0 0 rest (by omega) (by simp; omega) (.inl rfl)]
    simp
  have hb : numBad d a.toNat = false := by
    unfold numBad
    rw [ht]
    exact decide_eq_false (by simp; omega)
  refine ⟨?_, ?_⟩
  · unfold numPost; rw [ht, hb, Bool.or_false]
  · unfold numRes; rw [hb, if_neg Bool.false_ne_true, ht]
theorem take_read {d pre x rest : List Int} {a : Int} (hd : d = pre ++ (x ++ rest)) (ha : a = (pre.length : Int)) : takePost d a false x.length = (d, a + x.length, false, ()) ∧ takeRes d a false x.length = x := by
  have hl : (d.length : Int) = pre.length + (x.length + rest.length) := by rw [hd, List.length_append, List.length_append]; omega
  have hb : takeBad d a false x.length = false := by
    unfold takeBad
    rw [Bool.false_or]
    exact decide_eq_false (by omega)
  refine ⟨?_, ?_⟩
  · unfold takePost; rw [hb, if_neg Bool.false_ne_true]
  · unfold takeRes; rw [hb, if_neg Bool.false_ne_true, hd, drop_pre ha, Int.toNat_natCast, List.take_left]
theorem sharedL_take : ∀ (p k : List Int), p.take (sharedL p k) = k.take (sharedL p k)
  | [], k => by cases k <;> simp [sharedL]
  | a :: p, [] => by simp [sharedL]
  | a :: p, b :: k => by
    simp only [sharedL]
    split
    · rename_i h
      subst h
      rw [List.take_succ_cons, List.take_succ_cons, sharedL_take p k]
    · simp
/-- an entry is read as it was laid down -/
theorem ent_read {d pre rest : List Int} {p : List Int} {x : KV} {k : Nat} {a : Int} (hd : d = pre ++ (entB k x ++ rest)) (ha : a = (pre.length : Int)) (h64 : d.length ≤ 1099511627776)
    (hk : k ≤ x.1.length) (hkp : k ≤ p.length) (hkd : k ≤ d.length) (hsame : p.take k = x.1.take k) : entP d a false p = ((d, a + (entB k x).length, false, ()), x) := by
  obtain ⟨u, v, ⟨⟩⟩ := x
  simp only at hk hsame
  have hlen : d.length = pre.length + ((putS k).length + (putS (u.length - k)).length + (putS v.length).length + (u.length - k) + v.length + rest.length) := by
    rw [hd]; simp only [entB, List.length_append, List.length_drop]; try omega
  have e1 : d = pre ++ (putS k ++ (putS (u.length - k) ++ (putS v.length ++ (u.drop k ++ (v ++ rest))))) := by rw [hd]; simp only [entB, List.append_assoc]
  obtain ⟨n1, r1⟩ := num_read e1 ha hkd h64 false
  have e2 : d = (pre ++ putS k) ++ (putS (u.length - k) ++ (putS v.length ++ (u.drop k ++ (v ++ rest)))) := by rw [e1]; simp only [List.append_assoc]
  obtain ⟨n2, r2⟩ := num_read e2 (a := a + (putS k).length) (by rw [List.length_append]; omega) (by omega) h64 false
  have e3 : d = (pre ++ putS k ++ putS (u.length - k)) ++ (putS v.length ++ (u.drop k ++ (v ++ rest))) := by rw [e1]; simp only [List.append_assoc]
  obtain ⟨n3, r3⟩ := num_read e3 (a := a + (putS k).length + (putS (u.length - k)).length) (by simp only [List.length_append]; omega) (by omega) h64 false
  have e4 : d = (pre ++ putS k ++ putS (u.length - k) ++ putS v.length) ++ (u.drop k ++ (v ++ rest)) := by rw [e1]; simp only [List.append_assoc]
  obtain ⟨n4, r4⟩ := take_read e4 (a := a + (putS k).length + (putS (u.length - k)).length + (putS v.length).length) (by simp only [List.length_append]; omega)
  have hdl : (u.drop k).length = u.length - k := List.length_drop
  rw [hdl] at n4 r4
  have e5 : d = (pre ++ putS k ++ putS (u.length - k) ++ putS v.length ++ u.drop k) ++ (v ++ rest) := by rw [e1]; simp only [List.append_assoc]
  obtain ⟨n5, r5⟩ := take_read e5 (a := a + (putS k).length + (putS (u.length - k)).length + (putS v.length).length + (u.length - k : Nat)) (by simp only [List.length_append, hdl, Int.natCast_add]; try omega)
  have hno : ¬ numRes d a > p.length := by rw [r1]; omega
  rw [entP_no hno]
  simp only [n1, n2, n3, r1, r2, r3, n4, n5, r4, r5, if_neg Bool.false_ne_true, Int.toNat_natCast]
  have hsz : a + ((entB k (u, v, ())).length : Int) = a + (putS k).length + (putS (u.length - k)).length + (putS v.length).length + (u.length - k : Nat) + v.length := by
    simp only [entB, List.length_append, List.length_drop]; omega
  rw [hsz, hsame, List.take_append_drop]
/-- how much of a key is shared -/
def shK (r : Nat) (p : List Int) (i : Nat) (x : KV) : Nat := if i % r = 0 then 0 else sharedL p x.1
def entsB (r : Nat) : List Int → Nat → List KV → List Int
  | _, _, [] => []
  | p, i, x :: l => entB (shK r p i x) x ++ entsB r x.1 (i + 1) l
def places (r : Nat) : Nat → List Int → Nat → List KV → List Nat
  | _, _, _, [] => []
  | q, p, i, x :: l => if i % r = 0 then q :: places r (q + (entB (shK r p i x) x).length) x.1 (i + 1) l else places r (q + (entB (shK r p i x) x).length) x.1 (i + 1) l
def fix4s (l : List Nat) : List Int := l.flatMap fun (q : Nat) => fixedL (q : Int) 4
theorem builtGo_eq (r : Nat) : ∀ (l : List KV) (p : List Int) (i : Nat) (out tail : List Int) (n : Nat), builtGo r p i l out tail n = (out ++ entsB r p i l) ++ (tail ++ fix4s (places r out.length p i l)) ++ fixedL ((n + (places r out.length p i l).length : Nat) : Int) 4
  | [], p, i, out, tail, n => by simp [builtGo, entsB, places, fix4s]
  | x :: l, p, i, out, tail, n => by
    simp only [builtGo, entsB, places, shK]
    by_cases h : i % r = 0
    · simp only [if_pos h]
      rw [builtGo_eq r l]
      simp only [List.length_append, fix4s, List.flatMap_cons, List.length_cons, List.append_assoc]
      congr 4
      all_goals (first | rfl | skip)
      rw [show n + 1 + (places r (out.length + (entB 0 x).length) x.1 (i + 1) l).length = n + ((places r (out.length + (entB 0 x).length) x.1 (i + 1) l).length + 1) by omega]
    · simp only [if_neg h]
      rw [builtGo_eq r l]
      simp only [List.length_append, List.append_assoc]
theorem fix4s_length (l : List Nat) : (fix4s l).length = 4 * l.length := by
  unfold fix4s
  induction l with
  | nil => rfl
  | cons q l ih => rw [List.flatMap_cons, List.length_append, ih, fixedL_length, List.length_cons]; omega
/-- the restart that is seen on the way -/
def rsGo (r : Nat) (two : Prop) [Decidable two] (sec : Int) : Nat → Int → List Int → Nat → List KV → Int
  | _, rs, _, _, [] => rs
  | q, rs, p, i, x :: l => rsGo r two sec (q + (entB (shK r p i x) x).length) (if two ∧ (q : Int) = sec then (i : Int) else rs) x.1 (i + 1) l
theorem entB_min (k : Nat) (x : KV) : 3 ≤ (entB k x).length := by
  have h : ∀ n, 1 ≤ (putS n).length := by
    intro n; rw [putS]; split <;> simp
  have h1 := h k
  have h2 := h (x.1.length - k)
  have h3 := h x.2.1.length
  simp only [entB, List.length_append]; omega
theorem rsGo_past (r : Nat) {two : Prop} [Decidable two] {sec : Int} : ∀ (l : List KV) (q : Nat) (rs : Int) (p : List Int) (i : Nat), sec < q → rsGo r two sec q rs p i l = rs
  | [], _, _, _, _, _ => rfl
  | x :: l, q, rs, p, i, h => by
    rw [rsGo, rsGo_past r l _ _ _ _ (by omega), if_neg (fun h2 => by have := h2.2; omega)]
theorem rsGo_one (r : Nat) {two : Prop} [Decidable two] {sec : Int} (h : ¬ two) : ∀ (l : List KV) (q : Nat) (rs : Int) (p : List Int) (i : Nat), rsGo r two sec q rs p i l = rs
  | [], _, _, _, _ => rfl
  | x :: l, q, rs, p, i => by rw [rsGo, rsGo_one r h l, if_neg (fun h2 => h h2.1)]
theorem rsGo_at (r : Nat) {two : Prop} [Decidable two] (ht : two) : ∀ (l : List KV) (q : Nat) (rs : Int) (p : List Int) (i : Nat) (m : Nat), m < l.length → rsGo r two ((q + (entsB r p i (l.take m)).length : Nat) : Int) q rs p i l = ((i + m : Nat) : Int)
  | [], _, _, _, _, m, h => by simp at h
  | x :: l, q, rs, p, i, 0, h => by
    rw [rsGo, List.take_zero, rsGo_past]
    · rw [if_pos ⟨ht, by simp [entsB]⟩]; rfl
    · have := entB_min (shK r p i x) x
      simp [entsB]; omega
  | x :: l, q, rs, p, i, m + 1, h => by
    have h3 := entB_min (shK r p i x) x
    rw [rsGo, List.take_succ_cons]
    simp only [entsB, List.length_append]
    rw [if_neg (fun h2 => by have := h2.2; omega)]
    have := rsGo_at r ht l (q + (entB (shK r p i x) x).length) rs x.1 (i + 1) m (by simpa using h)
    rw [show i + (m + 1) = i + 1 + m by omega, ← this]
    congr 1
    omega
/-- the entries are read as they were laid down -/
theorem pGo_read (r : Nat) {d : List Int} (h64 : d.length ≤ 1099511627776) {two : Prop} [Decidable two] {sec : Int} : ∀ (l : List KV) (pre p : List Int) (i : Nat) (rs : Int) (acc : List KV), d = pre ++ entsB r p i l → p.length ≤ pre.length → acc.length = i →
    pGo d two sec pre.length rs acc p = some (rsGo r two sec pre.length rs p i l, acc ++ l)
  | [], pre, p, i, rs, acc, hd, hp, hi => by
    rw [pGo, dif_neg (by rw [hd]; simp [entsB])]
    simp [rsGo]
  | x :: l, pre, p, i, rs, acc, hd, hp, hi => by
    have h3 := entB_min (shK r p i x) x
    have hd' : d = pre ++ (entB (shK r p i x) x ++ entsB r x.1 (i + 1) l) := hd
    have hdl : d.length = pre.length + ((entB (shK r p i x) x).length + (entsB r x.1 (i + 1) l).length) := by rw [hd']; simp
    have hkx : shK r p i x ≤ x.1.length := by unfold shK; split; omega; exact sharedL_right _ _
    have hkp : shK r p i x ≤ p.length := by unfold shK; split; omega; exact sharedL_left _ _
    have hsame : p.take (shK r p i x) = x.1.take (shK r p i x) := by unfold shK; split; rfl; exact sharedL_take _ _
    have he := ent_read hd' (a := (pre.length : Int)) rfl h64 hkx hkp (by omega) hsame
    rw [pGo, dif_pos (by omega)]
    simp only [he, if_neg Bool.false_ne_true]
    rw [dif_pos (by omega)]
    have hx : x.1.length ≤ pre.length + (entB (shK r p i x) x).length := by
      simp only [entB, List.length_append, List.length_drop]; omega
    have := pGo_read r h64 (two := two) (sec := sec) l (pre ++ entB (shK r p i x) x) x.1 (i + 1) (if two ∧ (pre.length : Int) = sec then (acc.length : Int) else rs) (acc ++ [x]) (by rw [hd', List.append_assoc]) (by rw [List.length_append]; exact hx) (by rw [List.length_append, hi]; rfl)
    rw [List.length_append, Int.natCast_add] at this
    rw [this, rsGo, List.append_assoc, hi]
    rfl
theorem places_len (r : Nat) (hr : 1 ≤ r) : ∀ (l : List KV) (q : Nat) (p : List Int) (i : Nat), 0 < i → i ≤ r → (places r q p i l).head? = if r < i + l.length then some (q + (entsB r p i (l.take (r - i))).length) else none
  | [], q, p, i, h0, hi => by simp [places]; omega
  | x :: l, q, p, i, h0, hi => by
    rw [places]
    by_cases hir : i = r
    · subst hir
      rw [if_pos (Nat.mod_self i), if_pos (by rw [List.length_cons]; omega)]
      simp [entsB]
    · have : i % r ≠ 0 := by rw [Nat.mod_eq_of_lt (by omega)]; omega
      rw [if_neg this, places_len r hr l _ _ _ (by omega) (by omega), List.length_cons]
      have e : r - i = (r - (i + 1)) + 1 := by omega
      rw [e, List.take_succ_cons]
      simp only [entsB, List.length_append]
      by_cases h : r < i + 1 + l.length
      · rw [if_pos h, if_pos (by omega)]; congr 1; omega
      · rw [if_neg h, if_neg (by omega)]
theorem places_le (r : Nat) : ∀ (l : List KV) (q : Nat) (p : List Int) (i : Nat), (places r q p i l).length ≤ l.length
  | [], _, _, _ => by simp [places]
  | x :: l, q, p, i => by
    rw [places]
    have := places_le r l (q + (entB (shK r p i x) x).length) x.1 (i + 1)
    split <;> simp only [List.length_cons] <;> omega
theorem entsB_same {r s : Nat} : ∀ (l : List KV) (p : List Int) (i : Nat), (∀ j, i ≤ j → j < i + l.length → (j % r = 0 ↔ j % s = 0)) → entsB r p i l = entsB s p i l ∧ ∀ q, places r q p i l = places s q p i l
  | [], _, _, _ => ⟨rfl, fun _ => rfl⟩
  | x :: l, p, i, h => by
    have h0 := h i (Nat.le_refl _) (by rw [List.length_cons]; omega)
    have hk : shK r p i x = shK s p i x := by
      unfold shK
      by_cases hi : i % r = 0
      · rw [if_pos hi, if_pos (h0.1 hi)]
      · rw [if_neg hi, if_neg (fun k => hi (h0.2 k))]
    obtain ⟨k1, k2⟩ := entsB_same l x.1 (i + 1) (fun j h1 h2 => h j (by omega) (by rw [List.length_cons]; omega))
    refine ⟨by rw [entsB, entsB, hk, k1], fun q => ?_⟩
    rw [places, places, hk, k2]
    by_cases hi : i % r = 0
    · rw [if_pos hi, if_pos (h0.1 hi)]
    · rw [if_neg hi, if_neg (fun k => hi (h0.2 k))]
theorem built_eq (l : List KV) (r : Nat) : built l r = entsB r [] 0 l ++ fix4s (places r 0 [] 0 l) ++ fixedL ((places r 0 [] 0 l).length : Int) 4 := by
  unfold built
  rw [builtGo_eq]
  simp
theorem leVal_fix {n : Nat} (h : n < 4294967296) (rest : List Int) : (unfixedS (fixedL (n : Int) 4 ++ rest) 4).1 = n := by
  have hl := fixedL_length (n : Int) 4
  unfold unfixedS
  rw [if_neg (by rw [List.length_append, hl]; omega)]
  show leVal ((fixedL (n : Int) 4 ++ rest).take 4) = n
  have := List.take_left' (l₁ := fixedL (n : Int) 4) (l₂ := rest) hl
  rw [this, leVal_fixedL (by omega)]
  have : ((256 ^ 4 : Nat) : Int) = 4294967296 := by decide
  rw [this]; omega
theorem parse_built {l : List KV} {r : Nat} (h1 : 1 ≤ r) (h2 : r ≤ 64) (hr : Rises l) (hb : (built l r).length ≤ 20000) : parseS (built l r) = (l, 0) := by
  have hbl := hb
  obtain ⟨b, hbd⟩ : ∃ b, b = built l r := ⟨_, rfl⟩
  obtain ⟨e, he⟩ : ∃ e, e = entsB r [] 0 l := ⟨_, rfl⟩
  obtain ⟨ps, hps⟩ : ∃ ps, ps = places r 0 [] 0 l := ⟨_, rfl⟩
  have hB : b = e ++ fix4s ps ++ fixedL (ps.length : Int) 4 := by rw [hbd, built_eq, ← he, ← hps]
  rw [← hbd] at hbl ⊢
  have hfl := fix4s_length ps
  have h4 := fixedL_length (ps.length : Int) 4
  have hlen : b.length = e.length + 4 * ps.length + 4 := by rw [hB, List.length_append, List.length_append, hfl, h4]
  have hn : (unfixedS (b.drop (b.length - 4)) 4).1 = ps.length := by
    have : b.drop (b.length - 4) = fixedL (ps.length : Int) 4 := by
      rw [hB, List.drop_left' (by rw [List.length_append, hfl]; rw [← hB]; omega)]
    rw [this]
    have := leVal_fix (n := ps.length) (by omega) []
    rwa [List.append_nil] at this
  have hd : b.take (b.length - 4 - 4 * ps.length) = e := by
    rw [hB, List.append_assoc, List.take_left' (by rw [← List.append_assoc, ← hB]; omega)]
  unfold parseS
  rw [if_neg (by omega), hn, if_neg (by omega), Int.toNat_natCast, hd]
  generalize hsec : (if (ps.length : Int) > 1 then (unfixedS (b.drop (b.length - 4 * ps.length)) 4).1 else 0) = sec
  have hg := pGo_read r (d := e) (by omega) (two := (ps.length : Int) > 1) (sec := sec) l [] [] 0 0 [] (by rw [List.nil_append, he]) (Nat.le_refl _) rfl
  rw [List.length_nil, List.nil_append] at hg
  have hg : pGo e ((ps.length : Int) > 1) sec 0 0 [] [] = some (rsGo r ((ps.length : Int) > 1) sec 0 0 [] 0 l, l) := hg
  -- the restarts
  have key : ∃ s : Nat, (if (ps.length : Int) ≤ 1 then max (l.length : Int) 1 else rsGo r ((ps.length : Int) > 1) sec 0 0 [] 0 l) = s ∧ 1 ≤ s ∧ s ≤ 64 ∧ built l s = b := by
    cases l with
    | nil =>
      have : ps = [] := by rw [hps]; rfl
      subst this
      refine ⟨1, by rw [if_pos (by simp)]; rfl, by omega, by omega, ?_⟩
      rw [hbd, built_eq, built_eq]
      simp [entsB, places]
    | cons x l =>
      have hps2 : ps = 0 :: places r (0 + (entB (shK r [] 0 x) x).length) x.1 1 l := by
        rw [hps, places, if_pos (Nat.zero_mod r)]
      have hh := places_len r h1 l (0 + (entB (shK r [] 0 x) x).length) x.1 1 (by omega) h1
      by_cases hmore : r < 1 + l.length
      · rw [if_pos hmore] at hh
        obtain ⟨q, hq⟩ : ∃ q, q = 0 + (entB (shK r [] 0 x) x).length + (entsB r x.1 1 (l.take (r - 1))).length := ⟨_, rfl⟩
        rw [← hq] at hh
        obtain ⟨t, ht⟩ : ∃ t, places r (0 + (entB (shK r [] 0 x) x).length) x.1 1 l = q :: t := by
          cases hp : places r (0 + (entB (shK r [] 0 x) x).length) x.1 1 l with
          | nil => rw [hp] at hh; simp at hh
          | cons q' t => rw [hp] at hh; simp only [List.head?_cons, Option.some.injEq] at hh; subst hh; exact ⟨t, rfl⟩
        rw [ht] at hps2
        have htwo : (ps.length : Int) > 1 := by rw [hps2]; simp; omega
        have hqe : q ≤ e.length := by
          rw [he, entsB, hq, List.length_append, Nat.zero_add]
          have hsub : ∀ (m : Nat) (l : List KV) (p : List Int) (i : Nat), (entsB r p i (l.take m)).length ≤ (entsB r p i l).length := by
            intro m
            induction m with
            | zero => intro l p i; simp [entsB]
            | succ m ih =>
              intro l p i
              cases l with
              | nil => simp [entsB]
              | cons y l => rw [List.take_succ_cons, entsB, entsB, List.length_append, List.length_append]; have := ih l y.1 (i + 1); omega
          have := hsub (r - 1) l x.1 1
          exact Nat.add_le_add_left this _
        have hs2 : sec = q := by
          rw [← hsec, if_pos htwo]
          have : b.drop (b.length - 4 * ps.length) = fixedL (q : Int) 4 ++ (fix4s t ++ fixedL (ps.length : Int) 4) := by
            have e1 : b = (e ++ fixedL ((0 : Nat) : Int) 4) ++ (fixedL (q : Int) 4 ++ (fix4s t ++ fixedL (ps.length : Int) 4)) := by
              rw [hB, hps2]; simp only [fix4s, List.flatMap_cons, List.append_assoc]
            have e2 : (e ++ fixedL ((0 : Nat) : Int) 4).length = b.length - 4 * ps.length := by rw [List.length_append, fixedL_length]; omega
            rw [← e2]
            conv => lhs; rw [e1]
            rw [List.drop_left]
          rw [this, leVal_fix (by omega)]
        refine ⟨r, ?_, h1, h2, hbd.symm⟩
        rw [if_neg (by omega), hs2]
        have := rsGo_at r htwo (x :: l) 0 0 [] 0 r (by rw [List.length_cons]; omega)
        rw [Nat.zero_add, Nat.zero_add] at this
        rw [← this]
        congr 1
        have e3 : (x :: l).take r = x :: l.take (r - 1) := by
          cases r with
          | zero => omega
          | succ r => rfl
        rw [e3, entsB, List.length_append, hq, Nat.zero_add]
      · rw [if_neg hmore] at hh
        have hnil : places r (0 + (entB (shK r [] 0 x) x).length) x.1 1 l = [] := by
          cases hp : places r (0 + (entB (shK r [] 0 x) x).length) x.1 1 l with
          | nil => rfl
          | cons q' t => rw [hp] at hh; simp at hh
        rw [hnil] at hps2
        refine ⟨(x :: l).length, ?_, by simp, by rw [List.length_cons]; omega, ?_⟩
        · rw [if_pos (by rw [hps2]; simp), List.length_cons]; omega
        · have := entsB_same (r := (x :: l).length) (s := r) (x :: l) [] 0 (fun j h5 h6 => by
            have h7 : j < (x :: l).length := by omega
            have h8 : j < r := by rw [List.length_cons] at h7; omega
            rw [Nat.mod_eq_of_lt h7, Nat.mod_eq_of_lt h8])
          rw [hbd, built_eq, built_eq, this.1, this.2]
  obtain ⟨s, k1, k2, k3, k4⟩ := key
  unfold parseF
  rw [hg]
  simp only
  rw [k1]
  have hbs : buildS l (s : Int) 71 70 = (b, 0) := by
    unfold buildS
    rw [if_neg (by omega), if_pos hr, Int.toNat_natCast, k4]
  rw [hbs, if_pos ⟨rfl, rfl⟩]
end Go.Proofs.Ytdhbelpejaobdaa.Ev
