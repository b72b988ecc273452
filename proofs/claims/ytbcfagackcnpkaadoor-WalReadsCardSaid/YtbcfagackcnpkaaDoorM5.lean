/- Parts of the proof, joined by a program of this session: WTabA, LawRow, LaidW. -/
import Derived.Test.YtbcfagackcnpkaaDoorM3
import Derived.Test.YtbcfagackcnpkaaDoorM4
import Derived.Test.YtbcfagackcnpkaaDoorM2
import Derived.Test.YtbcfagackcnpkaaDoorCards
import Derived.Test.YtbcfagackcnpkaaDoorTie
import Derived.Deep.DeepHandedRow
set_option linter.unusedVariables false
set_option linter.unusedSimpArgs false
set_option linter.unusedSectionVars false
/- The contracts that the laws of logs need, in a table. -/
namespace Go.Proofs.YtbcfagackcnpkaaDoor.Ev
open Go Go.RowKit
set_option linter.unusedVariables false
set_option maxRecDepth 100000
set_option maxHeartbeats 8000000
noncomputable def T0 : Tab := tab0
theorem T0_far : TabFar Tryd.prog T0 := tab0_far
noncomputable def T1 : Tab := tabAdd T0 35 sumSp.ts sumSp.F
theorem T1_far : TabFar Tryd.prog T1 := add_ok sumSp T0_far (rows_ok _) at35 (by kernel_rfl) (by kernel_rfl) (sum_ok _)
noncomputable def T2 : Tab := tabAdd T1 39 fixedSp.ts fixedSp.F
theorem T2_far : TabFar Tryd.prog T2 := add_ok fixedSp T1_far (rows_ok _) at39 (by kernel_rfl) (by kernel_rfl) (fixed_ok _)
noncomputable def T3 : Tab := tabAdd T2 34 fixed4Sp.ts fixed4Sp.F
theorem T3_far : TabFar Tryd.prog T3 := add_ok fixed4Sp T2_far (rows_ok _) at34 (by kernel_rfl) (by kernel_rfl) (fixed4_ok _ rfl)
noncomputable def T4 : Tab := tabAdd T3 48 unfixedSp.ts unfixedSp.F
theorem T4_far : TabFar Tryd.prog T4 := add_ok unfixedSp T3_far (rows_ok _) at48 (by kernel_rfl) (by kernel_rfl) (unfixed_ok _)
noncomputable def T5 : Tab := tabAdd T4 38 unfixed4Sp.ts unfixed4Sp.F
theorem T5_far : TabFar Tryd.prog T5 := add_ok unfixed4Sp T4_far (rows_ok _) at38 (by kernel_rfl) (by kernel_rfl) (unfixed4_ok _ rfl)
noncomputable def T6 : Tab := tabAdd T5 26 roomSp.ts roomSp.F
theorem T6_far : TabFar Tryd.prog T6 := add_ok roomSp T5_far (rows_ok _) at26 (by kernel_rfl) (by kernel_rfl) (room_ok _)
noncomputable def T7 : Tab := tabAdd T6 13 listsSp.ts listsSp.F
theorem T7_far : TabFar Tryd.prog T7 := add_ok listsSp T6_far (rows_ok _) at13 (by kernel_rfl) (by kernel_rfl) (lists_ok _)
noncomputable def T8 : Tab := tabAdd T7 33 sumSp.ts sumSp.F
theorem T8_far : TabFar Tryd.prog T8 := add_ok sumSp T7_far (rows_ok _) at33 (by kernel_rfl) (by kernel_rfl) (rsum_ok _)
noncomputable def T9 : Tab := tabAdd T8 32 runfixedSp.ts runfixedSp.F
theorem T9_far : TabFar Tryd.prog T9 := add_ok runfixedSp T8_far (rows_ok _) at32 (by kernel_rfl) (by kernel_rfl) (runfixed_ok _)
noncomputable def T10 : Tab := tabAdd T9 25 oneSp.ts oneSp.F
theorem T10_far : TabFar Tryd.prog T10 := add_okW oneSp T9_far (rows_ok _) at25 (by kernel_rfl) (by kernel_rfl) (rone_ok _ rfl rfl)
noncomputable def T11 : Tab := tabAdd T10 12 readSp.ts readSp.F
theorem T11_far : TabFar Tryd.prog T11 := add_ok readSp T10_far (rows_ok _) at12 (by kernel_rfl) (by kernel_rfl) (rread_ok _ rfl)
noncomputable def T12 : Tab := tabAdd T11 14 hbytesSp.ts hbytesSp.F
theorem T12_far : TabFar Tryd.prog T12 := add_ok hbytesSp T11_far (rows_ok _) at14 (by kernel_rfl) (by kernel_rfl) (hbytes_ok _)
noncomputable def T13 : Tab := tabAdd T12 10 knownSp.ts knownSp.F
theorem T13_far : TabFar Tryd.prog T13 := add_far knownSp T12_far at10 (by kernel_rfl) (by kernel_rfl) (fun x _ => known_far)
noncomputable def TB : Tab := T13
theorem TB_far : TabFar Tryd.prog TB := T13_far
def aNo (A : ATab) (g : FuncId) : ATab := fun i => match Nat.beq i g with | true => none | false => A i
noncomputable def A1 : ATab := aAdd A0 24 recA
theorem A1_ok : ATabOK Tryd.prog A1 := aadd_okW recA a0_ok TB_far (rows_ok _) at24 (by kernel_rfl) (by kernel_rfl) (recA_ok _ rfl rfl rfl rfl rfl rfl rfl rfl)
noncomputable def AB : ATab := aAdd A1 11 readA
theorem AB_ok : ATabOK Tryd.prog AB := aadd_ok readA A1_ok TB_far (rows_ok _) at11 (by kernel_rfl) (by kernel_rfl) (readA_ok _ _ rfl rfl)
end Go.Proofs.YtbcfagackcnpkaaDoor.Ev
/- From a walk to the law's statement, where the row lists package variables. -/
namespace Go.Proofs.YtbcfagackcnpkaaDoor.Ev
open Go Go.RowKit Go.ChangeShapes Go.ChangeAt Go.WideShapes
set_option linter.unusedVariables false
theorem law_row [tI : Tst] {K : Checked} {C : Ctx} {os : Os} {H : Type} {enc : TypeId × Value → H} {f : FuncId} {fn : Func} {s : ChangeSpec} {conds : List PathCond} {laid : List (String × DataW Unit)} {F : Stop.Interp} (hC : RowsOK K.prog C) (n : Nat)
    (own : ownKnob K.prog.godebug = none) (started : os.Started) (noInit : K.prog.inits.idxOf? f = none) (hfn : K.prog.funcs[f]? = some fn) (hlaid : laidOutB K.prog = true)
    (witness : ∃ (w : World) (tape : Tape) (i : Input), w.os = os ∧ (w.forCall tape i).Shaped K.prog ∧ i.vars = [] ∧ Input.okWide K.prog (w.forCall tape i) .any w.heap.size f i ∧
      (OpenSpec.ofChange s).preRow enc K.prog fn conds false laid (w.forCall tape i).memory i.args ∧ Assume.holds {} K.prog (lone (Frame.enter K.prog f i.args .normal) [] (w.forCall tape i)))
    (hvars : s.vars = []) {tb : TypeId} (hres : fn.resultTypes.toList = [tb]) (hrs : fn.resultTypes.size = 1) (htb : K.prog.underlying tb = some .bool) (hspec : ∀ ds : List (DataW H), ds.length = fn.params.toList.length → s.fn H ds = { results := [.lit (.bool true)], args := ds })
    (hopen : fn.params.toList.all (openB C n) = true) (hread : fn.params.toList.all (fun t => K.prog.readableRec t && decide (t < K.prog.types.size)) = true)
    (hlaw : ∀ xs, Typed C fn.params.toList xs → FarRes K.prog f xs (.d .bo true)) :
    ReturnsInHanded {} K os f .any ((OpenSpec.ofChange s).preRow enc K.prog fn conds false laid) (((OpenSpec.ofChange s).at F).post enc K.prog fn false true false false) := by
  refine returnsInHanded_of_row own started noInit hfn witness ?_
  intro W base args ds gs before hval hW _ _ hsz _ _ _
  have hW : DataW.Whole enc K.prog fn.params.toList s.vars false W args.toList ds gs before := hW
  have hsz : (DataW.weightsEach K.prog (fn.params.toList ++ s.plain.varTypes K.prog) (ds ++ gs)).all (· ≤ reachBytes) = true := hsz
  show Calls K.prog f args W fun e W' => ∃ v, e = .returned v ∧ s.post enc K.prog fn false true false false W args v W'
  have hW' := hW
  obtain ⟨p, q, hA, hV, rfl, hfz, hnd⟩ := hW
  rw [hvars] at hV
  obtain ⟨rfl, rfl⟩ := trodVars_none hV
  obtain ⟨l1, l2⟩ := trodAll_len hA
  have hvt : s.plain.varTypes K.prog = [] := by simp [DataSpec.varTypes, ChangeSpec.plain, hvars]
  rw [hvt, List.append_nil, List.append_nil] at hsz
  obtain ⟨xs, ht, hr⟩ := args_open hC (n := n) hA (fun j t v h1 h2 => hval j t v (by simpa using h1) (by simpa using h2)) hopen (fun j t d h1 h2 k hk => by
    have := List.all_eq_true.1 hsz _ (DataW.weights_mem_each h1 h2 k hk)
    simpa using this)
  have := hlaw xs ht (memOf W) W args.toList (fun e W' => e = .returned (.bool true) ∧ Below W.heap.size W W') (memOf_lies W) hr (by
    intro E' S' v' u w' k1 k2 k3 k4
    refine ⟨?_, by have := k2.below; rw [k1.lent] at this; exact this.to⟩
    rcases exportV_exp k4 with ⟨vs, vs', _, h, _⟩ | h
    · simp at h
    · generalize hz : V.d .bo true = z at h
      cases h with
      | d t x =>
        rw [← hz] at k3
        rw [rep_bool_iff.1 k3]
      | nils => simp at hz
      | un => simp at hz
      | own => simp at hz)
  rw [Array.toArray_toList] at this
  refine this.mono ?_
  rintro e W' ⟨rfl, bel⟩
  have hds : s.fn H (ds ++ []) = { results := [.lit (.bool true)], args := ds } := by rw [List.append_nil]; exact hspec ds l2
  refine ⟨_, rfl, ds, [], _, [], p, [], hW', ?_, ?_, ?_, bel.frame _, fun h => by cases h⟩
  · rw [hds, hres, hrs]
    exact trodAll_mk1 (shut_bool htb _)
  · rw [hds]
    exact args_stay hlaid bel hA hread
  · rw [hds, hvars]
    rfl
end Go.Proofs.YtbcfagackcnpkaaDoor.Ev
/- A world for the witness, where the listed variables hold what the row lists. -/
namespace Go.Proofs.YtbcfagackcnpkaaDoor.Ev
open Go Go.RowKit Go.ChangeShapes Go.ChangeAt Go.WideShapes
set_option linter.unusedVariables false
mutual
def flatD : DataW Unit → List Value
  | .lit l => [l.value]
  | .agg ps => flatDs ps
  | _ => []
def flatDs : List (DataW Unit) → List Value
  | [] => []
  | d :: ds => flatD d ++ flatDs ds
end
def putCells (vs : List Value) : Obj → Obj
  | .cells _ t frozen => .cells vs.toArray t frozen
  | o => o
/-- the settled world, globals 0 and 1 holding what the rows list -/
noncomputable def laidWorld (os : Os) : World :=
  { World.holding Tryd.prog os ⟨#[], #[], []⟩ with heap := ((World.holding Tryd.prog os ⟨#[], #[], []⟩).heap.modify 0 (putCells (flatD Rows.laid_unicode_utf8_first))).modify 1 (putCells (flatD Rows.laid_unicode_utf8_acceptRanges)) }
end Go.Proofs.YtbcfagackcnpkaaDoor.Ev
