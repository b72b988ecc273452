/- BlockOnce: the Go law of that name returns true for every input and leaves its arguments as they were. Conditions: none but the statement's own. Its function was walked with a walker over plain data that is proved to tell what the machine does. -/
import Derived.Test.YtdhbelpejaobdaaM4
import Derived.Test.YtdhbelpejaobdaaRows
/- The law of what is read as a block: true of all data. -/
namespace Go.Proofs.Ytdhbelpejaobdaa.Ev
open Go Go.RowKit
set_option linter.unusedVariables false
set_option linter.unusedSimpArgs false
set_option maxRecDepth 100000
set_option maxHeartbeats 8000000
abbrev onceC : Ctx := ⟨rows, (fun | 0 => ([0, 3, 5], []) | 1 => ([], [0, 3, 5]) | _ => ([], []))⟩
def onceSp : Sp := ⟨[byl], fun _ => true, fun _ => .d .bo true⟩
theorem once_ok (T : Tab) (h1 : T 11 = knownSp.ent) (h2 : T 18 = parseSp.ent) (h4 : T 14 = buildSp.ent) (h6 : T 16 = hbytesSp.ent) : onceSp.Ok T onceC F4 := by
  rw [on_top h1, on_top h2, on_top h4, on_top h6]
  rintro ⟨(b : List Int), _⟩ hf _
  obtain ⟨F, hF⟩ : ∃ F : Nat, F = 70 := ⟨_, rfl⟩
  refine ⟨F, 0, ?_⟩
  show evFn _ _ _ _ _ [vB b] [] _ = some (.d .bo true : V)
  conv => lhs; whnf
  try simp (disch := omega) only [nI64, nU64, nU32, nU8, nSubL, nAddL, nAdd, nSub, nDiv, nMod, nZ, nLit, row_3, row_5, row_16, row_26, row_42, row_58, Ty.den, dflt_it, dflt_li, dflt_kv, Int.toNat_natCast, List.take_length, List.drop_zero]
  by_cases hl : b.length > 3000
  · refine br_go (tst_t (by omega)) ?_
    conv => lhs; whnf
    try simp (disch := omega) only [nI64, nU64, nU32, nU8, nSubL, nAddL, nAdd, nSub, nDiv, nMod, nZ, nLit, row_3, row_5, row_16, row_26, row_42, row_58, Ty.den, dflt_it, dflt_li, dflt_kv, Int.toNat_natCast, List.take_length, List.drop_zero]
    repeat (refine br_go ?_ ?_; (focus (((repeat' first | exact rfl | exact ordB_st rfl | exact ordB_of rfl | apply band | apply tst_t | apply nt_t)  <;> (try dsimp only [Ty.den, dflt_kv]) <;> (try simp only [List.length_append, List.length_cons, List.length_nil, List.length_take, List.length_drop, List.length_replicate]) <;> (first | trivial | assumption | omega | (change (_ : Int) ≤ _; omega) | (change (_ : Int) < _; omega) | (change (_ : Nat) * 1 ≤ _; omega) | (change (_ : Nat) * 48 ≤ _; omega) | (change (_ : Nat) * 24 ≤ _; omega) | (change (_ : Nat) * 8 ≤ _; omega) | (change (_ : Nat) * 64 ≤ _; omega) | decide)); done)); (conv => lhs; whnf); (try simp (disch := omega) only [nI64, nU64, nU32, nU8, nSubL, nAddL, nAdd, nSub, nDiv, nMod, nZ, nLit, row_3, row_5, row_16, row_26, row_42, row_58, Ty.den, dflt_it, dflt_li, dflt_kv, Int.toNat_natCast, List.take_length, List.drop_zero]))
  · refine br_no (tst_f (by omega)) ?_
    conv => lhs; whnf
    try simp (disch := omega) only [nI64, nU64, nU32, nU8, nSubL, nAddL, nAdd, nSub, nDiv, nMod, nZ, nLit, row_3, row_5, row_16, row_26, row_42, row_58, Ty.den, dflt_it, dflt_li, dflt_kv, Int.toNat_natCast, List.take_length, List.drop_zero]
    repeat (refine br_go ?_ ?_; (focus (((repeat' first | exact rfl | exact ordB_st rfl | exact ordB_of rfl | apply band | apply tst_t | apply nt_t)  <;> (try dsimp only [Ty.den, dflt_kv]) <;> (try simp only [List.length_append, List.length_cons, List.length_nil, List.length_take, List.length_drop, List.length_replicate]) <;> (first | trivial | assumption | omega | (change (_ : Int) ≤ _; omega) | (change (_ : Int) < _; omega) | (change (_ : Nat) * 1 ≤ _; omega) | (change (_ : Nat) * 48 ≤ _; omega) | (change (_ : Nat) * 24 ≤ _; omega) | (change (_ : Nat) * 8 ≤ _; omega) | (change (_ : Nat) * 64 ≤ _; omega) | decide)); done)); (conv => lhs; whnf); (try simp (disch := omega) only [nI64, nU64, nU32, nU8, nSubL, nAddL, nAdd, nSub, nDiv, nMod, nZ, nLit, row_3, row_5, row_16, row_26, row_42, row_58, Ty.den, dflt_it, dflt_li, dflt_kv, Int.toNat_natCast, List.take_length, List.drop_zero]))
    by_cases g1 : (parseS b).2 = 0
    · refine br_no (tst_f (by simpa using g1)) ?_
      conv => lhs; whnf
      try simp (disch := omega) only [nI64, nU64, nU32, nU8, nSubL, nAddL, nAdd, nSub, nDiv, nMod, nZ, nLit, row_3, row_5, row_16, row_26, row_42, row_58, Ty.den, dflt_it, dflt_li, dflt_kv, Int.toNat_natCast, List.take_length, List.drop_zero]
      repeat (refine br_go ?_ ?_; (focus (((repeat' first | exact rfl | exact ordB_st rfl | exact ordB_of rfl | apply band | apply tst_t | apply nt_t)  <;> (try dsimp only [Ty.den, dflt_kv]) <;> (try simp only [List.length_append, List.length_cons, List.length_nil, List.length_take, List.length_drop, List.length_replicate]) <;> (first | trivial | assumption | omega | (change (_ : Int) ≤ _; omega) | (change (_ : Int) < _; omega) | (change (_ : Nat) * 1 ≤ _; omega) | (change (_ : Nat) * 48 ≤ _; omega) | (change (_ : Nat) * 24 ≤ _; omega) | (change (_ : Nat) * 8 ≤ _; omega) | (change (_ : Nat) * 64 ≤ _; omega) | decide)); done)); (conv => lhs; whnf); (try simp (disch := omega) only [nI64, nU64, nU32, nU8, nSubL, nAddL, nAdd, nSub, nDiv, nMod, nZ, nLit, row_3, row_5, row_16, row_26, row_42, row_58, Ty.den, dflt_it, dflt_li, dflt_kv, Int.toNat_natCast, List.take_length, List.drop_zero]))
      obtain ⟨hr, r, r1, r2, r3⟩ := parse_good g1
      obtain ⟨m, rfl⟩ : ∃ m : Nat, r = m := ⟨r.toNat, by omega⟩
      rw [Int.toNat_natCast] at r3
      have hfa := parse_fair (bytes_of hf.1) (show b.length ≤ 20000 by omega)
      generalize (parseS b).1 = l at *
      refine loop_rule (α := Nat) (fun a => 1 ≤ a ∧ a ≤ m) (fun a => m - a)
        (fun a => (vB b :: V.bad :: V.bad :: V.own 2 kv l :: V.bad :: vI a :: V.bad :: V.bad :: V.bad :: V.bad :: V.bad :: V.bad :: V.bad :: V.bad :: V.bad :: V.bad :: V.bad :: V.bad :: V.bad :: V.bad :: V.bad :: V.bad :: V.bad :: V.bad :: V.bad :: V.bad :: V.bad :: V.bad :: V.bad :: V.bad :: V.bad :: V.bad :: V.bad :: V.bad :: V.bad :: V.bad :: V.bad :: V.bad :: []))
        (fun a => [.gone, .gone, .fam l.length, .gone])
        (fun a => some (V.d .bo true)) ?_ F 1 ⟨by omega, by omega⟩ (by show m - 1 < F; omega)
      rintro a K ⟨k1, k2⟩ hK
      have e1 : buildS l a 71 70 = (built l a, 0) := by
        unfold buildS
        rw [if_neg (by omega), if_pos hr]; rfl
      conv => lhs; whnf
      try simp (disch := omega) only [nI64, nU64, nU32, nU8, nSubL, nAddL, nAdd, nSub, nDiv, nMod, nZ, nLit, row_3, row_5, row_16, row_26, row_42, row_58, Ty.den, dflt_it, dflt_li, dflt_kv, Int.toNat_natCast, List.take_length, List.drop_zero]
      refine br_go (tst_t (by omega)) ?_
      conv => lhs; whnf
      try simp (disch := omega) only [nI64, nU64, nU32, nU8, nSubL, nAddL, nAdd, nSub, nDiv, nMod, nZ, nLit, row_3, row_5, row_16, row_26, row_42, row_58, Ty.den, dflt_it, dflt_li, dflt_kv, Int.toNat_natCast, List.take_length, List.drop_zero]
      repeat (refine br_go ?_ ?_; (focus (((repeat' first | exact rfl | exact ordB_st rfl | exact ordB_of rfl | apply band | apply tst_t | apply nt_t)  <;> (try dsimp only [Ty.den, dflt_kv]) <;> (try simp only [List.length_append, List.length_cons, List.length_nil, List.length_take, List.length_drop, List.length_replicate]) <;> (first | trivial | assumption | omega | (change (_ : Int) ≤ _; omega) | (change (_ : Int) < _; omega) | (change (_ : Nat) * 1 ≤ _; omega) | (change (_ : Nat) * 48 ≤ _; omega) | (change (_ : Nat) * 24 ≤ _; omega) | (change (_ : Nat) * 8 ≤ _; omega) | (change (_ : Nat) * 64 ≤ _; omega) | decide)); done)); (conv => lhs; whnf); (try simp (disch := omega) only [nI64, nU64, nU32, nU8, nSubL, nAddL, nAdd, nSub, nDiv, nMod, nZ, nLit, row_3, row_5, row_16, row_26, row_42, row_58, Ty.den, dflt_it, dflt_li, dflt_kv, Int.toNat_natCast, List.take_length, List.drop_zero]))
      try simp (disch := omega) only [nI64, nU64, nU32, nU8, nSubL, nAddL, nAdd, nSub, nDiv, nMod, nZ, nLit, row_3, row_5, row_16, row_26, row_42, row_58, Ty.den, dflt_it, dflt_li, dflt_kv, Int.toNat_natCast, List.take_length, List.drop_zero, e1]
      refine br_no (tst_f (by omega)) ?_
      conv => lhs; whnf
      try simp (disch := omega) only [nI64, nU64, nU32, nU8, nSubL, nAddL, nAdd, nSub, nDiv, nMod, nZ, nLit, row_3, row_5, row_16, row_26, row_42, row_58, Ty.den, dflt_it, dflt_li, dflt_kv, Int.toNat_natCast, List.take_length, List.drop_zero]
      repeat (refine br_go ?_ ?_; (focus (((repeat' first | exact rfl | exact ordB_st rfl | exact ordB_of rfl | apply band | apply tst_t | apply nt_t)  <;> (try dsimp only [Ty.den, dflt_kv]) <;> (try simp only [List.length_append, List.length_cons, List.length_nil, List.length_take, List.length_drop, List.length_replicate]) <;> (first | trivial | assumption | omega | (change (_ : Int) ≤ _; omega) | (change (_ : Int) < _; omega) | (change (_ : Nat) * 1 ≤ _; omega) | (change (_ : Nat) * 48 ≤ _; omega) | (change (_ : Nat) * 24 ≤ _; omega) | (change (_ : Nat) * 8 ≤ _; omega) | (change (_ : Nat) * 64 ≤ _; omega) | decide)); done)); (conv => lhs; whnf); (try simp (disch := omega) only [nI64, nU64, nU32, nU8, nSubL, nAddL, nAdd, nSub, nDiv, nMod, nZ, nLit, row_3, row_5, row_16, row_26, row_42, row_58, Ty.den, dflt_it, dflt_li, dflt_kv, Int.toNat_natCast, List.take_length, List.drop_zero]))
      by_cases hq : b = built l a
      · refine br_go (tst_t (hq)) ?_
        conv => lhs; whnf
        try simp (disch := omega) only [nI64, nU64, nU32, nU8, nSubL, nAddL, nAdd, nSub, nDiv, nMod, nZ, nLit, row_3, row_5, row_16, row_26, row_42, row_58, Ty.den, dflt_it, dflt_li, dflt_kv, Int.toNat_natCast, List.take_length, List.drop_zero]
        repeat (refine br_go ?_ ?_; (focus (((repeat' first | exact rfl | exact ordB_st rfl | exact ordB_of rfl | apply band | apply tst_t | apply nt_t)  <;> (try dsimp only [Ty.den, dflt_kv]) <;> (try simp only [List.length_append, List.length_cons, List.length_nil, List.length_take, List.length_drop, List.length_replicate]) <;> (first | trivial | assumption | omega | (change (_ : Int) ≤ _; omega) | (change (_ : Int) < _; omega) | (change (_ : Nat) * 1 ≤ _; omega) | (change (_ : Nat) * 48 ≤ _; omega) | (change (_ : Nat) * 24 ≤ _; omega) | (change (_ : Nat) * 8 ≤ _; omega) | (change (_ : Nat) * 64 ≤ _; omega) | decide)); done)); (conv => lhs; whnf); (try simp (disch := omega) only [nI64, nU64, nU32, nU8, nSubL, nAddL, nAdd, nSub, nDiv, nMod, nZ, nLit, row_3, row_5, row_16, row_26, row_42, row_58, Ty.den, dflt_it, dflt_li, dflt_kv, Int.toNat_natCast, List.take_length, List.drop_zero]))
      · refine br_no (tst_f (hq)) ?_
        conv => lhs; whnf
        try simp (disch := omega) only [nI64, nU64, nU32, nU8, nSubL, nAddL, nAdd, nSub, nDiv, nMod, nZ, nLit, row_3, row_5, row_16, row_26, row_42, row_58, Ty.den, dflt_it, dflt_li, dflt_kv, Int.toNat_natCast, List.take_length, List.drop_zero]
        repeat (refine br_go ?_ ?_; (focus (((repeat' first | exact rfl | exact ordB_st rfl | exact ordB_of rfl | apply band | apply tst_t | apply nt_t)  <;> (try dsimp only [Ty.den, dflt_kv]) <;> (try simp only [List.length_append, List.length_cons, List.length_nil, List.length_take, List.length_drop, List.length_replicate]) <;> (first | trivial | assumption | omega | (change (_ : Int) ≤ _; omega) | (change (_ : Int) < _; omega) | (change (_ : Nat) * 1 ≤ _; omega) | (change (_ : Nat) * 48 ≤ _; omega) | (change (_ : Nat) * 24 ≤ _; omega) | (change (_ : Nat) * 8 ≤ _; omega) | (change (_ : Nat) * 64 ≤ _; omega) | decide)); done)); (conv => lhs; whnf); (try simp (disch := omega) only [nI64, nU64, nU32, nU8, nSubL, nAddL, nAdd, nSub, nDiv, nMod, nZ, nLit, row_3, row_5, row_16, row_26, row_42, row_58, Ty.den, dflt_it, dflt_li, dflt_kv, Int.toNat_natCast, List.take_length, List.drop_zero]))
        have : a ≠ m := by rintro rfl; exact hq r3.symm
        exact hK (a + 1) ⟨by omega, by omega⟩ (by show m - (a + 1) < m - a; omega)
    · refine br_go (tst_t (by simpa using g1)) ?_
      conv => lhs; whnf
      try simp (disch := omega) only [nI64, nU64, nU32, nU8, nSubL, nAddL, nAdd, nSub, nDiv, nMod, nZ, nLit, row_3, row_5, row_16, row_26, row_42, row_58, Ty.den, dflt_it, dflt_li, dflt_kv, Int.toNat_natCast, List.take_length, List.drop_zero]
      have := (parse_bad g1).1
      repeat (refine br_go ?_ ?_; (focus (((repeat' first | exact rfl | exact ordB_st rfl | exact ordB_of rfl | apply band | apply tst_t | apply nt_t)  <;> (try dsimp only [Ty.den, dflt_kv]) <;> (try simp only [List.length_append, List.length_cons, List.length_nil, List.length_take, List.length_drop, List.length_replicate]) <;> (first | trivial | assumption | omega | (change (_ : Int) ≤ _; omega) | (change (_ : Int) < _; omega) | (change (_ : Nat) * 1 ≤ _; omega) | (change (_ : Nat) * 48 ≤ _; omega) | (change (_ : Nat) * 24 ≤ _; omega) | (change (_ : Nat) * 8 ≤ _; omega) | (change (_ : Nat) * 64 ≤ _; omega) | decide)); done)); (conv => lhs; whnf); (try simp (disch := omega) only [nI64, nU64, nU32, nU8, nSubL, nAddL, nAdd, nSub, nDiv, nMod, nZ, nLit, row_3, row_5, row_16, row_26, row_42, row_58, Ty.den, dflt_it, dflt_li, dflt_kv, Int.toNat_natCast, List.take_length, List.drop_zero]))
      rw [this]
      exact bo_eq (tst_t rfl)
end Go.Proofs.Ytdhbelpejaobdaa.Ev
namespace Go.Proofs.Ytdhbelpejaobdaa.blockOnce
open Go.RowKit Go.ChangeShapes Go.ChangeAt Go.Proofs.Ytdhbelpejaobdaa.Ev
set_option linter.unusedVariables false
set_option maxRecDepth 100000 in
theorem lifted (os : Os) (started : os.Started) (H : Type) (enc : TypeId × Value → H) :
    ReturnsInHanded {} Try.checked os 4 .any (Rows.blockOnceSpec.pre6 enc Try.prog Try.f4 Rows.blockOnceRow.domain false) (Rows.blockOnceSpec.post enc Try.prog Try.f4 false true false false) := by
  refine law_lifted (K := Try.checked) (C := ⟨rows, fun _ => ([], [])⟩) (rows_ok _) 8 own started (by kernel_rfl) Try.func4 laidOut
    (ChangeSpec.witness6 (enc := enc) (C := Try.checked) false ⟨#[], #[.slice none 0 0], []⟩ 8 (by kernel_rfl) (by kernel_rfl) (by kernel_rfl) (by kernel_rfl)) rfl (tb := 4) rfl rfl (by kernel_rfl) (by
      intro ds hd
      have hd : ds.length = 1 := hd
      match ds, hd with
      | [_], _ => rfl) (by kernel_rfl) (by kernel_rfl) ?_
  intro xs h
  have hp : Try.f4.params.toList = [26] := by kernel_rfl
  rw [hp] at h
  obtain _ | ⟨_, _, x0, _, q0, h0⟩ := h
  cases h0
  exact far_of_ok onceSp TB_far (rows_ok _) at4 (once_ok _ rfl rfl rfl rfl) (x0, ()) (fun _ => rfl)
theorem over : Rows.blockOnceRow.holds Try.pinned (OpenSpec.ofChange Rows.blockOnceSpec) :=
  OpenClaim.holds_of_wide 4 Try.f4 rfl rfl rfl rfl rfl rfl rfl ⟨rfl, rfl, rfl, rfl, rfl⟩ rfl rfl rfl rfl rfl (by kernel_rfl) Try.func4 (by kernel_rfl)
    (of_decide_eq_true (by kernel_rfl)) (by unfold Func.isWrapper; first | (rw [if_pos (by decide +kernel)]; kernel_rfl) | (rw [if_neg (by decide +kernel)]; exact ⟨rfl, rfl⟩))
    (fun os started H enc _ => lifted os started H enc)
theorem proved : Rows.BlockOnceSaid := over
#print axioms proved
end Go.Proofs.Ytdhbelpejaobdaa.blockOnce
