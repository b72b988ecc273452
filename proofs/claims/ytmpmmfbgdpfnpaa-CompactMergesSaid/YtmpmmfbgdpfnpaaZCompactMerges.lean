/- CompactMerges: the Go law of that name returns true for every input and leaves its arguments as they were. Conditions: none but the statement's own. Its function was walked with a walker over plain data that is proved to tell what the machine does. -/
import Derived.Test.YtmpmmfbgdpfnpaaM6
import Derived.Test.YtmpmmfbgdpfnpaaRows
set_option linter.unusedVariables false
set_option linter.unusedSimpArgs false
set_option linter.unusedSectionVars false
/- The law of lists that are merged: true of all data. -/
namespace Go.Proofs.Ytmpmmfbgdpfnpaa.Ev
open Go Go.RowKit
set_option linter.unusedVariables false
set_option linter.unusedSimpArgs false
set_option maxRecDepth 100000
set_option maxHeartbeats 8000000
abbrev kmergesC : Ctx := ⟨rows, (fun  | _ => ([], []))⟩
def kmergesSp : Sp := ⟨[kvll, u64, kvl], fun _ => true, fun _ => .d .bo true⟩
theorem kmerges_ok (T : Tab) (h1 : T 9 = knownSp.ent) (h2 : T 10 = few10Sp.ent) (h3 : T 11 = mgSp.ent) (h4 : T 12 = mgSp.ent) (h5 : T 13 = kvsSp.ent) : kmergesSp.Ok T kmergesC F3 := by
  rw [on_top h1, on_top h2, on_top h3, on_top h4, on_top h5]
  rintro ⟨(l : List (List KV)), (old : Int), (dp : List KV), _⟩ hf _
  obtain ⟨F, hF⟩ : ∃ F : Nat, F = 1 := ⟨_, rfl⟩
  refine ⟨F, 0, ?_⟩
  show evFn _ _ _ _ _ [.d kvll l, vU old, vK dp] [] _ = some (.d .bo true : V)
  conv => lhs; whnf
  try simp (maxSteps := 2000000) (disch := omega) only [NN, Ty.den, dflt_kv]
  by_cases hw : fewL l
  · refine br_no (nt_f hw) ?_
    conv => lhs; whnf
    try simp (maxSteps := 2000000) (disch := omega) only [NN, Ty.den, dflt_kv]
    repeat (refine br_go ?_ ?_; (focus (((repeat' first | exact rfl | exact ordB_st rfl | exact ordB_of rfl | apply band | apply tst_t | apply nt_t)  <;> (try dsimp only [Ty.den, dflt_kv]) <;> (try simp only [LL]) <;> (first | trivial | assumption | omega | (change (_ : Int) ≤ _; omega) | (change (_ : Int) < _; omega) | (change (_ : Nat) * 1 ≤ _; omega) | (change (_ : Nat) * 48 ≤ _; omega) | (change (_ : Nat) * 24 ≤ _; omega) | (change (_ : Nat) * 8 ≤ _; omega) | (change (_ : Nat) * 64 ≤ _; omega) | decide)); done)); (conv => lhs; whnf); (try simp (maxSteps := 2000000) (disch := omega) only [NN, Ty.den, dflt_kv]))
    by_cases hd : dp.length > 20
    · refine br_go (tst_t (by omega)) ?_
      conv => lhs; whnf
      try simp (maxSteps := 2000000) (disch := omega) only [NN, Ty.den, dflt_kv]
      repeat (refine br_go ?_ ?_; (focus (((repeat' first | exact rfl | exact ordB_st rfl | exact ordB_of rfl | apply band | apply tst_t | apply nt_t)  <;> (try dsimp only [Ty.den, dflt_kv]) <;> (try simp only [LL]) <;> (first | trivial | assumption | omega | (change (_ : Int) ≤ _; omega) | (change (_ : Int) < _; omega) | (change (_ : Nat) * 1 ≤ _; omega) | (change (_ : Nat) * 48 ≤ _; omega) | (change (_ : Nat) * 24 ≤ _; omega) | (change (_ : Nat) * 8 ≤ _; omega) | (change (_ : Nat) * 64 ≤ _; omega) | decide)); done)); (conv => lhs; whnf); (try simp (maxSteps := 2000000) (disch := omega) only [NN, Ty.den, dflt_kv]))
    · refine br_no (tst_f (by omega)) ?_
      conv => lhs; whnf
      try simp (maxSteps := 2000000) (disch := omega) only [NN, Ty.den, dflt_kv]
      repeat (refine br_go ?_ ?_; (focus (((repeat' first | exact rfl | exact ordB_st rfl | exact ordB_of rfl | apply band | apply tst_t | apply nt_t)  <;> (try dsimp only [Ty.den, dflt_kv]) <;> (try simp only [LL]) <;> (first | trivial | assumption | omega | (change (_ : Int) ≤ _; omega) | (change (_ : Int) < _; omega) | (change (_ : Nat) * 1 ≤ _; omega) | (change (_ : Nat) * 48 ≤ _; omega) | (change (_ : Nat) * 24 ≤ _; omega) | (change (_ : Nat) * 8 ≤ _; omega) | (change (_ : Nat) * 64 ≤ _; omega) | decide)); done)); (conv => lhs; whnf); (try simp (maxSteps := 2000000) (disch := omega) only [NN, Ty.den, dflt_kv]))
      exact bo_eq (tst_t trivial)
  · refine br_go (nt_t hw) ?_
    conv => lhs; whnf
    try simp (maxSteps := 2000000) (disch := omega) only [NN, Ty.den, dflt_kv]
    repeat (refine br_go ?_ ?_; (focus (((repeat' first | exact rfl | exact ordB_st rfl | exact ordB_of rfl | apply band | apply tst_t | apply nt_t)  <;> (try dsimp only [Ty.den, dflt_kv]) <;> (try simp only [LL]) <;> (first | trivial | assumption | omega | (change (_ : Int) ≤ _; omega) | (change (_ : Int) < _; omega) | (change (_ : Nat) * 1 ≤ _; omega) | (change (_ : Nat) * 48 ≤ _; omega) | (change (_ : Nat) * 24 ≤ _; omega) | (change (_ : Nat) * 8 ≤ _; omega) | (change (_ : Nat) * 64 ≤ _; omega) | decide)); done)); (conv => lhs; whnf); (try simp (maxSteps := 2000000) (disch := omega) only [NN, Ty.den, dflt_kv]))
end Go.Proofs.Ytmpmmfbgdpfnpaa.Ev
namespace Go.Proofs.Ytmpmmfbgdpfnpaa.compactMerges
open Go.RowKit Go.ChangeShapes Go.ChangeAt Go.Proofs.Ytmpmmfbgdpfnpaa.Ev
set_option linter.unusedVariables false
set_option maxRecDepth 100000 in
theorem lifted (os : Os) (started : os.Started) (H : Type) (enc : TypeId × Value → H) :
    ReturnsInHanded {} Try.checked os 3 .any (Rows.compactMergesSpec.pre6 enc Try.prog Try.f3 Rows.compactMergesRow.domain false) (Rows.compactMergesSpec.post enc Try.prog Try.f3 false true false false) := by
  refine law_lifted (K := Try.checked) (C := ⟨rows, fun _ => ([], [])⟩) (rows_ok _) 8 own started (by kernel_rfl) Try.func3 laidOut
    (ChangeSpec.witness6 (enc := enc) (C := Try.checked) false ⟨#[], #[.slice none 0 0, .int .u64 0, .slice none 0 0], []⟩ 8 (by kernel_rfl) (by kernel_rfl) (by kernel_rfl) (by kernel_rfl)) rfl (tb := 4) rfl rfl (by kernel_rfl) (by
      intro ds hd
      have hd : ds.length = 3 := hd
      match ds, hd with
      | [_, _, _], _ => rfl) (by kernel_rfl) (by kernel_rfl) ?_
  intro xs h
  have hp : Try.f3.params.toList = [22, 23, 24] := by kernel_rfl
  rw [hp] at h
  obtain _ | ⟨_, _, x0, _, q0, h0⟩ := h
  obtain _ | ⟨_, _, x1, _, q1, h1⟩ := h0
  obtain _ | ⟨_, _, x2, _, q2, h2⟩ := h1
  cases h2
  exact far_of_ok kmergesSp TB_far (rows_ok _) at3 (kmerges_ok _ rfl rfl rfl rfl rfl) (x0, (x1, (x2, ()))) (fun _ => rfl)
theorem over : Rows.compactMergesRow.holds Try.pinned (OpenSpec.ofChange Rows.compactMergesSpec) :=
  OpenClaim.holds_of_wide 3 Try.f3 rfl rfl rfl rfl rfl rfl rfl ⟨rfl, rfl, rfl, rfl, rfl⟩ rfl rfl rfl rfl rfl (by kernel_rfl) Try.func3 (by kernel_rfl)
    (of_decide_eq_true (by kernel_rfl)) (by unfold Func.isWrapper; first | (rw [if_pos (by decide +kernel)]; kernel_rfl) | (rw [if_neg (by decide +kernel)]; exact ⟨rfl, rfl⟩))
    (fun os started H enc _ => lifted os started H enc)
theorem proved : Rows.CompactMergesSaid := over
#print axioms proved
end Go.Proofs.Ytmpmmfbgdpfnpaa.compactMerges
