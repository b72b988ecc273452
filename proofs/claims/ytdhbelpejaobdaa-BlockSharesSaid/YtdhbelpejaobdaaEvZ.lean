/- A law whose function tells 'true' of all data: its row. -/
import Derived.Test.YtdhbelpejaobdaaEvY
import Derived.WalkKit
import Derived.ProofKit
import Derived.OpenShut
import Derived.ShutString
import Derived.ChangeOld
import Derived.SizedLaws
namespace Go.Proofs.Ytdhbelpejaobdaa.Ev
open Go Go.RowKit Go.Deep Go.ChangeShapes Go.WideShapes Go.ChangeAt
set_option linter.unusedVariables false
set_option linter.unusedSimpArgs false

inductive Typed (C : Ctx) : List TypeId → List V → Prop
  | nil : Typed C [] []
  | cons (t : TypeId) (ts : List TypeId) (x : (C.row t).ty.den) (xs : List V) (h : Small (C.row t).ty x) (hs : Typed C ts xs) : Typed C (t :: ts) (.d (C.row t).ty x :: xs)

section
variable {P : Program} {C : Ctx}
theorem form_rep [tI : Tst] (hC : RowsOK P C) {n : Nat} {t : TypeId} (h : openB C n t = true) {W : World} {base : Nat} {v : Value} (hv : Value.okWide P W .any base t v) {m : Mem} {x : (C.row t).ty.den} (hr : RepL m (C.row t).ty x v.cells.toList) : RepD m (C.row t).ty x v := by
  cases n with
  | zero => simp [openB] at h
  | succ n =>
    have hg := openB_good h
    have hag := (hC.row hg).agg
    have one : (C.row t).isAgg = false → v.cells = #[v] → RepD m (C.row t).ty x v := by
      intro h1 h2
      rw [h2] at hr
      exact ⟨[v], by simpa using hr, by rw [hag, h1]; rfl⟩
    have many : (C.row t).isAgg = true → (∃ cs, v = .agg cs) → RepD m (C.row t).ty x v := by
      rintro h1 ⟨cs, rfl⟩
      simp only [Value.cells] at hr
      exact ⟨cs.toList, hr, by rw [hag, h1]; simp [toV]⟩
    rw [openB] at h
    split at h
    · rename_i k htd
      obtain ⟨n, rfl⟩ := okWide_int (hC.int htd).1 hv
      exact one (by simp [TRow.isAgg, htd]) rfl
    · rename_i htd
      obtain ⟨n, rfl⟩ := okWide_bool (hC.bool htd) hv
      exact one (by simp [TRow.isAgg, htd]) rfl
    · rename_i htd
      obtain ⟨n, rfl⟩ := okWide_string (hC.str htd) hv
      exact one (by simp [TRow.isAgg, htd]) rfl
    · rename_i e htd
      obtain ⟨a, l, c, rfl⟩ := okWide_slice (hC.slice htd).1 hv
      exact one (by simp [TRow.isAgg, htd]) rfl
    · rename_i k e htd
      refine many (by simp [TRow.isAgg, htd]) ?_
      simp only [Value.okWide, (hC.arr htd).1] at hv
      obtain ⟨cs, h1, _⟩ := hv
      exact ⟨cs, h1⟩
    · rename_i fs htd
      obtain ⟨gs, hu, _⟩ := hC.struct htd
      refine many (by simp [TRow.isAgg, htd]) ?_
      obtain ⟨cs, h1, _⟩ := okWide_struct hu hv
      exact ⟨cs, h1⟩
    · simp at h

theorem args_open [tI : Tst] (hC : RowsOK P C) {n : Nat} {H : Type} {enc : TypeId × Value → H} {W : World} {base : Nat} : ∀ {ts : List TypeId} {vs : List Value} {ds : List (DataW H)} {ps : List MemPlace}, DataW.TrodAll enc P W 0 (fun _ => true) true ts vs ds ps →
    (∀ (j : Nat) t v, ts[j]? = some t → vs[j]? = some v → Value.okWide P W .any base t v) → ts.all (openB C n) = true → (∀ (j : Nat) t d, ts[j]? = some t → ds[j]? = some d → ∀ k ∈ d.weights P t, k ≤ reachBytes) →
    ∃ xs, Typed C ts xs ∧ RepVs (Env.of (memOf W)) xs vs
  | [], _, _, _, h, _, _, _ => by
    obtain ⟨rfl, rfl, rfl⟩ := trodAll_nil h
    exact ⟨[], .nil, by simp [RepVs]⟩
  | t :: ts, _, _, _, h, hok, ho, hw => by
    obtain ⟨v, vs, d, ds, p, q, rfl, rfl, rfl, h1, h2⟩ := trodAll_cons h
    simp only [List.all_cons, Bool.and_eq_true] at ho
    obtain ⟨fuel, hf⟩ := h1
    obtain ⟨x, hx, hs⟩ := (opens_at hC n t ho.1).get hf (hw 0 t d rfl rfl)
    obtain ⟨xs, hx2, hr⟩ := args_open hC (n := n) h2 (fun j t v h1 h2 => hok (j + 1) t v (by simpa using h1) (by simpa using h2)) ho.2 (fun j t d h1 h2 => hw (j + 1) t d (by simpa using h1) (by simpa using h2))
    refine ⟨_, .cons t ts x xs hs hx2, ?_⟩
    simp only [RepVs]
    refine ⟨?_, hr⟩
    simp only [RepV]
    exact form_rep hC ho.1 (hok 0 t v rfl rfl) hx

theorem args_stay (hl : laidOutB P = true) {H : Type} {enc : TypeId × Value → H} {W W' : World} (hb : Below W.heap.size W W') : ∀ {ts : List TypeId} {vs : List Value} {ds : List (DataW H)} {ps : List MemPlace}, DataW.TrodAll enc P W 0 (fun _ => true) true ts vs ds ps →
    ts.all (fun t => P.readableRec t && decide (t < P.types.size)) = true → DataW.TrodAll enc P W' 0 (fun b => decide (b < W.heap.size)) true ts vs ds ps
  | [], _, _, _, h, _ => by
    obtain ⟨rfl, rfl, rfl⟩ := trodAll_nil h
    rfl
  | t :: ts, _, _, _, h, ho => by
    obtain ⟨v, vs, d, ds, p, q, rfl, rfl, rfl, h1, h2⟩ := trodAll_cons h
    simp only [List.all_cons, Bool.and_eq_true, decide_eq_true_eq] at ho
    have hlt : ∀ x ∈ p, x.block < W.heap.size := by obtain ⟨m, hm⟩ := h1; exact DataW.trod_lt m _ _ _ hm
    exact trodAll_cons_mk (Below.trod hl ho.1.1 ho.1.2 h1 hb hlt) (args_stay hl hb h2 ho.2)

theorem trodAll_len {H : Type} {enc : TypeId × Value → H} {w : World} {base : Nat} {spare : Nat → Bool} {held : Bool} : ∀ {ts : List TypeId} {vs : List Value} {ds : List (DataW H)} {ps : List MemPlace}, DataW.TrodAll enc P w base spare held ts vs ds ps → vs.length = ts.length ∧ ds.length = ts.length
  | [], _, _, _, h => by
    obtain ⟨rfl, rfl, _⟩ := trodAll_nil h
    exact ⟨rfl, rfl⟩
  | _ :: _, _, _, _, h => by
    obtain ⟨v, vs1, d, ds1, a, b, rfl, rfl, rfl, _, h2⟩ := trodAll_cons h
    have := trodAll_len h2
    simp [this.1, this.2]
theorem law_lifted [tI : Tst] {K : Checked} {C : Ctx} {os : Os} {H : Type} {enc : TypeId × Value → H} {f : FuncId} {fn : Func} {s : ChangeSpec} {conds : List PathCond} (hC : RowsOK K.prog C) (n : Nat)
    (own : ownKnob K.prog.godebug = none) (started : os.Started) (noInit : K.prog.inits.idxOf? f = none) (hfn : K.prog.funcs[f]? = some fn) (laid : laidOutB K.prog = true)
    (witness : ∃ (w : World) (tape : Tape) (i : Input), w.os = os ∧ (w.forCall tape i).Shaped K.prog ∧ i.vars = [] ∧ Input.okWide K.prog (w.forCall tape i) .any w.heap.size f i ∧
      s.pre6 enc K.prog fn conds false (w.forCall tape i).memory i.args ∧ Assume.holds {} K.prog (lone (Frame.enter K.prog f i.args .normal) [] (w.forCall tape i)))
    (hvars : s.vars = []) {tb : TypeId} (hres : fn.resultTypes.toList = [tb]) (hrs : fn.resultTypes.size = 1) (htb : K.prog.underlying tb = some .bool) (hspec : ∀ ds : List (DataW H), ds.length = fn.params.toList.length → s.fn H ds = { results := [.lit (.bool true)], args := ds })
    (hopen : fn.params.toList.all (openB C n) = true) (hread : fn.params.toList.all (fun t => K.prog.readableRec t && decide (t < K.prog.types.size)) = true)
    (hlaw : ∀ xs, Typed C fn.params.toList xs → FarRes K.prog f xs (.d .bo true)) :
    ReturnsInHanded {} K os f .any (s.pre6 enc K.prog fn conds false) (s.post enc K.prog fn false true false false) := by
  refine returnsInHanded_of_change_sized own started noInit hfn witness ?_
  intro W base args ds gs before hval hW _ hsz _
  have hW' := hW
  obtain ⟨p, q, hA, hV, rfl, hfz, hnd⟩ := hW
  rw [hvars] at hV
  obtain ⟨rfl, rfl⟩ := trodVars_none hV
  obtain ⟨l1, l2⟩ := trodAll_len hA
  have hvt : s.plain.varTypes K.prog = [] := by simp [DataSpec.varTypes, ChangeSpec.plain, hvars]
  rw [hvt, List.append_nil, List.append_nil] at hsz
  obtain ⟨xs, ht, hr⟩ := args_open hC (n := n) hA (fun j t v h1 h2 => hval j t v (by simpa using h1) (by simpa using h2)) hopen (fun j t d h1 h2 k hk => by
    have := List.all_eq_true.1 hsz _ (DataW.weights_mem_each h1 h2 k hk)
    simpa using this)
  have := hlaw xs ht (memOf W) W args.toList (fun e W' => e = .returned (.bool true) ∧ Below W.heap.size W W') (memOf_lies W) hr (by
    intro E' S' v' u w' k1 k2 k3 k4
    refine ⟨?_, k2.below⟩
    rcases exportV_exp k4 with ⟨vs, vs', _, h, _⟩ | h
    · simp at h
    · generalize hz : V.d .bo true = z at h
      cases h with
      | d t x =>
        rw [← hz] at k3
        rw [rep_bool_iff.1 k3]
      | nils => simp at hz
      | un => simp at hz
      | own => simp at hz)
  rw [Array.toArray_toList] at this
  refine this.mono ?_
  rintro e W' ⟨rfl, bel⟩
  have hds : s.fn H (ds ++ []) = { results := [.lit (.bool true)], args := ds } := by rw [List.append_nil]; exact hspec ds l2
  refine ⟨_, rfl, ds, [], _, [], p, [], hW', ?_, ?_, ?_, bel.frame _, fun h => by cases h⟩
  · rw [hds, hres, hrs]
    exact trodAll_mk1 (shut_bool htb _)
  · rw [hds]
    exact args_stay laid bel hA hread
  · rw [hds, hvars]
    rfl
end
end Go.Proofs.Ytdhbelpejaobdaa.Ev
