/- Arguments of a law opened: what is laid at a type reads as a plain value, kind by kind. -/
import Derived.Test.YtbobnopnfjcajaaBase
import Derived.Deep.Slices
import Derived.ChangeArms
import Derived.SizedLaws
namespace Go.Proofs.Ytbobnopnfjcajaa.Base
set_option linter.unusedVariables false
set_option linter.unusedSimpArgs false
open Go Go.RowKit Go.Deep Go.Proofs.YtbobnopnfjcajaaW.PrintWords Go.Proofs.YtbobnopnfjcajaaW.PrintLast Go.Proofs.YtbobnopnfjcajaaW.PrintMore

/-- what is laid at this type reads as a value of this kind, of which 'ok' holds -/
structure Opens (P : Program) (t : TypeId) {α : Type} (d : Kd α) (ok : α → Prop) : Prop where
  size : P.cellsOf t = d.sz
  get : ∀ {H : Type} {enc : TypeId × Value → H} {w : World} {base : Nat} {held : Bool} {fuel : Nat} {cs : List Value} {x : DataW H × List MemPlace},
    DataW.trod enc P w base (fun _ => true) held fuel t cs = some x → (∀ n ∈ x.1.weights P t, n ≤ reachBytes) → ∃ v, d.K w v cs ∧ ok v

theorem opens_int {P : Program} {t : TypeId} {k : IntKind} (ht : P.underlying t = some (.int k)) (hc : P.cellsOf t = 1) : Opens P t (Kd.int k) (fun x => (Lit.int k x).wf = true) :=
  ⟨hc, fun h _ => by
    obtain ⟨n, rfl, _, hw⟩ := DataW.trod_int ht h
    exact ⟨n, rfl, hw⟩⟩
theorem opens_bool {P : Program} {t : TypeId} (ht : P.underlying t = some .bool) (hc : P.cellsOf t = 1) : Opens P t Kd.bool (fun _ => True) :=
  ⟨hc, fun h _ => by
    obtain ⟨n, rfl, _⟩ := DataW.trod_bool ht h
    exact ⟨n, rfl, trivial⟩⟩
theorem opens_string {P : Program} {t : TypeId} (ht : P.underlying t = some .string) (hc : P.cellsOf t = 1) : Opens P t Kd.string (fun s => s.size ≤ 140737488351232) :=
  ⟨hc, fun h hw => by
    obtain ⟨s, rfl, hx, _⟩ := DataW.trod_string ht h
    refine ⟨s, rfl, ?_⟩
    have := hw s.data.toList.length (by rw [hx]; simp [DataW.weights])
    have e : s.size = s.data.toList.length := rfl
    rw [e]
    exact this⟩
theorem mem_weightsAll {H : Type} {P : Program} {e : TypeId} {d : DataW H} {n : Nat} : ∀ {l : List (DataW H)}, d ∈ l → n ∈ d.weights P e → n ∈ DataW.weightsAll P e l
  | [], h, _ => by cases h
  | x :: l, h, hn => by
    simp only [DataW.weightsAll, List.mem_append]
    rcases List.mem_cons.mp h with h | h
    · subst h; exact .inl hn
    · exact .inr (mem_weightsAll h hn)
theorem opens_slice {P : Program} {t e : TypeId} {α : Type} {d : Kd α} {ok : α → Prop} {B : Nat} (ht : P.underlying t = some (.slice e)) (hc : P.cellsOf t = 1) (hB : P.bytesOf e = B) (he : Opens P e d ok) :
    Opens P t (Kd.slice e d) (fun l => l.length * B ≤ 140737488351232 ∧ ∀ x ∈ l, ok x) :=
  ⟨hc, fun {H enc w base held fuel cs x} h hw => by
    rcases open_slice ht h with ⟨rfl, _⟩ | ⟨a, len, cap, m, n, D, Pl, rfl, hb, hl, hm, hmm, rfl, hx⟩
    · refine ⟨[], ⟨none, 0, rfl, Nat.le_refl _, rfl, Nat.zero_le _, fun h => absurd h (Nat.lt_irrefl 0)⟩, by simp, fun x hx => by cases hx⟩
    · simp only [if_true] at hmm
      subst hmm
      have hww : ∀ k, k ∈ (DataW.slice ((List.range len).map D) ((List.range (m - len)).map fun j => D (len + j))).weights P t → k ≤ reachBytes := hw
      simp only [DataW.weights, ht, List.mem_cons, List.mem_append] at hww
      have hlen : len * B ≤ 140737488351232 := by
        have := hww _ (.inl rfl)
        simp only [List.length_map, List.length_range, hB] at this
        have h2 : len * B ≤ (len + (m - len)) * B := Nat.mul_le_mul_right _ (by omega)
        exact Nat.le_trans h2 this
      have each : ∀ i, i < len → ∃ v : α, ∃ c, c.length = d.sz ∧ d.K w v c ∧ ok v ∧ ∀ j u, c[j]? = some u → w.cell? (a.add (i * d.sz + j)) = some u := by
        intro i hi
        obtain ⟨cs', h1, h2⟩ := hx i (by omega)
        obtain ⟨_, h3, h4⟩ := World.cells?_some h1
        obtain ⟨v, hv, hok⟩ := he.get h2 (fun k hk => hww k (.inr (.inl (mem_weightsAll (l := (List.range len).map D) (d := D i) (List.mem_map.mpr ⟨i, List.mem_range.mpr hi, rfl⟩) hk))))
        refine ⟨v, cs', by rw [h3, he.size], hv, hok, fun j u hu => ?_⟩
        have hj : j < P.cellsOf e := by
          rw [← h3]
          exact (List.getElem?_eq_some_iff.1 hu).1
        have := h4 j hj
        rw [hu, he.size] at this
        rw [← this, Addr.add_add]
      have pick : ∃ f : Fin len → α, ∀ i : Fin len, ∃ c, c.length = d.sz ∧ d.K w (f i) c ∧ ok (f i) ∧ ∀ j u, c[j]? = some u → w.cell? (a.add (i.val * d.sz + j)) = some u := by
        refine ⟨fun i => Classical.choose (each i.val i.isLt), fun i => Classical.choose_spec (each i.val i.isLt)⟩
      obtain ⟨f, hf⟩ := pick
      refine ⟨List.ofFn f, ⟨some a, m, by rw [List.length_ofFn], by rw [List.length_ofFn]; exact hl, ?_⟩, by rw [List.length_ofFn]; exact hlen, fun x hx => ?_⟩
      · rw [List.length_ofFn]
        refine ⟨List.length_ofFn, ?_, fun _ => ⟨a, rfl, fun j p hp => ?_⟩⟩
        · have : maxLen = 9223372036854775807 := by decide
          omega
        · have hj : j < len := by
            have := (List.getElem?_eq_some_iff.1 hp).1
            simpa using this
          rw [List.getElem?_ofFn, dif_pos hj] at hp
          obtain ⟨c, c1, c2, _, c4⟩ := hf ⟨j, hj⟩
          simp only [Option.some.injEq] at hp
          subst hp
          exact ⟨c, c1, c2, c4⟩
      · obtain ⟨i, rfl⟩ := List.mem_ofFn.mp hx
        obtain ⟨c, _, _, h3, _⟩ := hf i
        exact h3⟩
/-- a value of one cell, as an argument -/
theorem Opens.arg {P : Program} {t : TypeId} {α : Type} {d : Kd α} {ok : α → Prop} (h : Opens P t d ok) {H : Type} {enc : TypeId × Value → H} {W : World} {base : Nat} {held : Bool} {v : Value} {dd : DataW H} {ps : List MemPlace} {ts : List TypeId} {ds : List (DataW H)} {j : Nat}
    (ho : DataW.Trod enc P W base (fun _ => true) held t v dd ps) (hsz : (DataW.weightsEach P ts ds).all (· ≤ reachBytes) = true) (ht : ts[j]? = some t) (hd : ds[j]? = some dd) : ∃ x, d.K W x v.cells.toList ∧ ok x := by
  obtain ⟨fuel, hf⟩ := ho
  refine h.get hf fun n hn => ?_
  have := List.all_eq_true.1 hsz _ (DataW.weights_mem_each ht hd n hn)
  simpa using this
end Go.Proofs.Ytbobnopnfjcajaa.Base
