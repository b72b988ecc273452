/- Items as arguments of a law, opened: what is laid at their type reads as a tree. -/
import Derived.Test.YtbobnopnfjcajaaOpens
import Derived.Deep.Strs
namespace Go.Proofs.Ytbobnopnfjcajaa.Base
set_option linter.unusedVariables false
set_option linter.unusedSimpArgs false
open Go Go.RowKit Go.Deep Go.Proofs.YtbobnopnfjcajaaW.PrintWords Go.Proofs.YtbobnopnfjcajaaW.PrintLast Go.Proofs.YtbobnopnfjcajaaW.PrintMore Go.Proofs.Ytbobnopnfjcajaa.P

/-- a slice opened, where its elements' data, being lesser, are -/
theorem slice_get {P : Program} {t e : TypeId} {α : Type} {d : Kd α} {ok : α → Prop} {B : Nat} (ht : P.underlying t = some (.slice e)) (hB : P.bytesOf e = B) (hs : P.cellsOf e = d.sz)
    {H : Type} {enc : TypeId × Value → H} {w : World} {base : Nat} {held : Bool} {fuel : Nat} {cs : List Value} {x : DataW H × List MemPlace} (h : DataW.trod enc P w base (fun _ => true) held fuel t cs = some x) (hw : ∀ n ∈ x.1.weights P t, n ≤ reachBytes)
    (he : ∀ (y : DataW H × List MemPlace) (fuel' : Nat) (cs' : List Value), SizeOf.sizeOf y.1 < SizeOf.sizeOf x.1 → DataW.trod enc P w base (fun _ => true) held fuel' e cs' = some y → (∀ n ∈ y.1.weights P e, n ≤ reachBytes) → ∃ v, d.K w v cs' ∧ ok v) :
    ∃ v, (Kd.slice e d).K w v cs ∧ v.length * B ≤ 140737488351232 ∧ ∀ x ∈ v, ok x := by
  rcases open_slice ht h with ⟨rfl, _⟩ | ⟨a, len, cap, m, n, D, Pl, rfl, hb, hl, hm, hmm, rfl, hx⟩
  · refine ⟨[], ⟨none, 0, rfl, Nat.le_refl _, rfl, Nat.zero_le _, fun h => absurd h (Nat.lt_irrefl 0)⟩, by simp, fun x hx => by cases hx⟩
  · simp only [if_true] at hmm
    subst hmm
    have hww : ∀ k, k ∈ (DataW.slice ((List.range len).map D) ((List.range (m - len)).map fun j => D (len + j))).weights P t → k ≤ reachBytes := hw
    simp only [DataW.weights, ht, List.mem_cons, List.mem_append] at hww
    have hlen : len * B ≤ 140737488351232 := by
      have := hww _ (.inl rfl)
      simp only [List.length_map, List.length_range, hB] at this
      have h2 : len * B ≤ (len + (m - len)) * B := Nat.mul_le_mul_right _ (by omega)
      exact Nat.le_trans h2 this
    have each : ∀ i, i < len → ∃ v : α, ∃ c, c.length = d.sz ∧ d.K w v c ∧ ok v ∧ ∀ j u, c[j]? = some u → w.cell? (a.add (i * d.sz + j)) = some u := by
      intro i hi
      obtain ⟨cs', h1, h2⟩ := hx i (by omega)
      obtain ⟨_, h3, h4⟩ := World.cells?_some h1
      have hmem : D i ∈ (List.range len).map D := List.mem_map.mpr ⟨i, List.mem_range.mpr hi, rfl⟩
      have hlt : SizeOf.sizeOf (D i) < SizeOf.sizeOf (DataW.slice ((List.range len).map D) ((List.range (m - len)).map fun j => D (len + j))) := by
        have := List.sizeOf_lt_of_mem hmem
        simp only [DataW.slice.sizeOf_spec]
        omega
      obtain ⟨v, hv, hok⟩ := he (D i, Pl i) n cs' hlt h2 (fun k hk => hww k (.inr (.inl (mem_weightsAll (l := (List.range len).map D) (d := D i) hmem hk))))
      refine ⟨v, cs', by rw [h3, hs], hv, hok, fun j u hu => ?_⟩
      have hj : j < P.cellsOf e := by
        rw [← h3]
        exact (List.getElem?_eq_some_iff.1 hu).1
      have := h4 j hj
      rw [hu, hs] at this
      rw [← this, Addr.add_add]
    have pick : ∃ f : Fin len → α, ∀ i : Fin len, ∃ c, c.length = d.sz ∧ d.K w (f i) c ∧ ok (f i) ∧ ∀ j u, c[j]? = some u → w.cell? (a.add (i.val * d.sz + j)) = some u := by
      refine ⟨fun i => Classical.choose (each i.val i.isLt), fun i => Classical.choose_spec (each i.val i.isLt)⟩
    obtain ⟨f, hf⟩ := pick
    refine ⟨List.ofFn f, ⟨some a, m, by rw [List.length_ofFn], by rw [List.length_ofFn]; exact hl, ?_⟩, by rw [List.length_ofFn]; exact hlen, fun x hx => ?_⟩
    · rw [List.length_ofFn]
      refine ⟨List.length_ofFn, ?_, fun _ => ⟨a, rfl, fun j p hp => ?_⟩⟩
      · have : maxLen = 9223372036854775807 := by decide
        omega
      · have hj : j < len := by
          have := (List.getElem?_eq_some_iff.1 hp).1
          simpa using this
        rw [List.getElem?_ofFn, dif_pos hj] at hp
        obtain ⟨c, c1, c2, _, c4⟩ := hf ⟨j, hj⟩
        simp only [Option.some.injEq] at hp
        subst hp
        exact ⟨c, c1, c2, c4⟩
    · obtain ⟨i, rfl⟩ := List.mem_ofFn.mp hx
      obtain ⟨c, _, _, h3, _⟩ := hf i
      exact h3
mutual
/-- an item's lengths, and its bytes -/
def ok25 : S25 → Prop
  | ⟨_, s, l⟩ => s.length * 1 ≤ 140737488351232 ∧ (∀ x ∈ s, (Lit.int .u8 x).wf = true) ∧ l.length * 56 ≤ 140737488351232 ∧ okL l
def okL : List S25 → Prop
  | [] => True
  | x :: l => ok25 x ∧ okL l
end
theorem okL_of {l : List S25} (h : ∀ x ∈ l, ok25 x) : okL l := by
  induction l with
  | nil => trivial
  | cons x l ih => exact ⟨h x List.mem_cons_self, ih fun y hy => h y (List.mem_cons_of_mem _ hy)⟩
theorem okL_mem {l : List S25} (h : okL l) : ∀ x ∈ l, ok25 x := by
  induction l with
  | nil => intro x hx; cases hx
  | cons y l ih =>
    intro x hx
    rcases List.mem_cons.mp hx with e | e
    · rw [e]; exact h.1
    · exact ih h.2 x e
theorem tree_get {H : Type} {enc : TypeId × Value → H} {w : World} {base : Nat} {held : Bool} (m : Nat) : ∀ (x : DataW H × List MemPlace) (fuel : Nat) (cs : List Value), SizeOf.sizeOf x.1 < m →
    DataW.trod enc Try.prog w base (fun _ => true) held fuel 25 cs = some x → (∀ n ∈ x.1.weights Try.prog 25, n ≤ reachBytes) → ∃ v : S25, k25.K w v cs ∧ ok25 v := by
  induction m with
  | zero => intro x fuel cs h; omega
  | succ m ih =>
    intro x fuel cs hm h hw
    obtain ⟨y0, y1, y2, n, rfl, hl, h0, h1, h2⟩ := trod_struct3 Try.underlying25 h
    have hc25 : Try.prog.cellsOf 25 = 3 := by kernel_rfl
    rw [hc25] at hl
    obtain ⟨c0, c1, c2, rfl⟩ : ∃ c0 c1 c2, cs = [c0, c1, c2] := by
      match cs, hl with
      | [c0, c1, c2], _ => exact ⟨c0, c1, c2, rfl⟩
    have e4 : Try.prog.cellsOf 4 = 1 := by kernel_rfl
    have e22 : Try.prog.cellsOf 22 = 1 := by kernel_rfl
    have e23 : Try.prog.cellsOf 23 = 1 := by kernel_rfl
    simp only [e4, e22, e23, List.drop_zero, List.drop_succ_cons, List.take_succ_cons, List.take_zero] at h0 h1 h2
    have hww : ∀ k, k ∈ (DataW.agg [y0.1, y1.1, y2.1]).weights Try.prog 25 → k ≤ reachBytes := hw
    simp only [DataW.weights, Try.underlying25, DataW.weightsEach, List.map_cons, List.map_nil, List.mem_append] at hww
    obtain ⟨b, hb, _⟩ := DataW.trod_bool Try.underlying4 h0
    have hs1 : SizeOf.sizeOf y1.1 < SizeOf.sizeOf (DataW.agg [y0.1, y1.1, y2.1]) := by simp only [DataW.agg.sizeOf_spec, List.cons.sizeOf_spec]; omega
    have hs2 : SizeOf.sizeOf y2.1 < SizeOf.sizeOf (DataW.agg [y0.1, y1.1, y2.1]) := by simp only [DataW.agg.sizeOf_spec, List.cons.sizeOf_spec]; omega
    obtain ⟨s, ⟨A1, p1, q1, r1, t1⟩, u1, z1⟩ := (opens_slice (B := 1) Try.underlying22 (by kernel_rfl) (by kernel_rfl) (opens_int Try.underlying5 (by kernel_rfl))).get h1 (fun k hk => hww k (.inr (.inl hk)))
    obtain ⟨l, ⟨A2, p2, q2, r2, t2⟩, u2, z2⟩ := slice_get (B := 56) (d := k25) (ok := ok25) Try.underlying23 (by kernel_rfl) (by kernel_rfl) h2 (fun k hk => hww k (.inr (.inr (.inl hk))))
      (fun y fuel' cs' hlt hy hwy => ih y fuel' cs' (by have hm' : SizeOf.sizeOf (DataW.agg [y0.1, y1.1, y2.1]) < m + 1 := hm
                                                        omega) hy hwy)
    injection hb with hb
    injection q1 with q1
    injection q2 with q2
    subst hb q1 q2
    exact ⟨⟨b, s, l⟩, k25_mk w ⟨b, s, l⟩ r1 t1 r2 t2, u1, z1, u2, okL_of z2⟩
theorem opens25 : Opens Try.prog 25 k25 ok25 := ⟨by kernel_rfl, fun h hw => tree_get _ _ _ _ (Nat.lt_succ_self _) h hw⟩
end Go.Proofs.Ytbobnopnfjcajaa.Base
