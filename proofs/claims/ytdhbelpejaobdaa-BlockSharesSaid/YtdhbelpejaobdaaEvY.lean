/- Arguments of a law opened: what lies at a type of the table reads as data of its kind. -/
import Derived.Test.YtdhbelpejaobdaaEvX
import Derived.Deep.Slices
import Derived.ChangeArms
import Derived.OpenShut
import Derived.SizedLaws
import Derived.DataReads
namespace Go.Proofs.Ytdhbelpejaobdaa.Ev
open Go Go.RowKit Go.Deep
set_option linter.unusedVariables false
set_option linter.unusedSimpArgs false

/-- bytes that it takes, at least -/
def Ty.bytes : Ty → Nat
  | .bo => 1 | .it k => k.bits / 8 | .st => 16 | .ni => 8 | .li _ => 24 | .ue => 0 | .co t r => t.bytes + r.bytes | .ar n t => n * t.bytes
def fieldsO (C : Ctx) (f : TypeId → Bool) : List (Nat × TypeId) → Ty → Nat → Bool
  | [], .ue, _ => true
  | (o, e) :: fs, .co a r, off => o == off && decide ((C.row e).ty = a) && f e && fieldsO C f fs r (off + a.size)
  | _, _, _ => false
def openB (C : Ctx) : Nat → TypeId → Bool
  | 0, _ => false
  | n + 1, t => match (C.row t).td with
    | .int _ | .bool | .str => true
    | .slice e => openB C n e && decide ((C.row e).ty.bytes ≤ (C.row e).bytes)
    | .arr _ e => openB C n e
    | .struct fs => fieldsO C (fun e => openB C n e) fs (C.row t).ty 0
    | _ => false

/-- no larger than any argument is -/
def Small : (t : Ty) → t.den → Prop
  | .it k, n => k.min ≤ n ∧ n ≤ k.max
  | .st, l => List.length l ≤ 140737488351232
  | .li t, xs => List.length xs * t.bytes ≤ 140737488351232 ∧ ∀ x ∈ (xs : List t.den), Small t x
  | .co t r, x => Small t x.1 ∧ Small r x.2
  | .ar n t, xs => List.length xs = n ∧ ∀ x ∈ (xs : List t.den), Small t x
  | _, _ => True

def memOf (w : World) : Mem := fun b j => w.cell? ⟨b, j, none⟩
theorem add_block (a : Addr) (n : Nat) : (a.add n).block = a.block := by unfold Addr.add; split <;> rfl
theorem add_off (a : Addr) (n : Nat) : (a.add n).off = a.off + n := by unfold Addr.add; split <;> simp_all
theorem memOf_lies (w : World) : (memOf w).lies w := fun _ _ _ h => h

section
variable {P : Program} {C : Ctx}
theorem cells_row [tI : Tst] (hC : RowsOK P C) {t : TypeId} (hg : (C.row t).td.good = true) : P.cellsOf t = (C.row t).size ∧ P.bytesOf t = (C.row t).bytes := by
  obtain ⟨i, z, h1, h2, h3, _⟩ := (hC.row hg).info
  simp [Program.cellsOf, Program.bytesOf, h1, h2, h3]
theorem openB_good {n : Nat} {t : TypeId} (h : openB C n t = true) : (C.row t).td.good = true := by
  cases n with
  | zero => simp [openB] at h
  | succ n =>
    rw [openB] at h
    split at h <;> first | (rename_i h'; rw [h']; rfl) | (rename_i h' _; rw [h']; rfl) | (simp at h; done) | skip
theorem mem_weightsAll {H : Type} {P : Program} {e : TypeId} {d : DataW H} {n : Nat} : ∀ {l : List (DataW H)}, d ∈ l → n ∈ d.weights P e → n ∈ DataW.weightsAll P e l
  | [], h, _ => by cases h
  | x :: l, h, hn => by
    simp only [DataW.weightsAll, List.mem_append]
    rcases List.mem_cons.mp h with h | h
    · subst h; exact .inl hn
    · exact .inr (mem_weightsAll h hn)

/-- what lies here reads as data of this kind -/
structure OpensAt (P : Program) (t : TypeId) (y : Ty) : Prop where
  get : ∀ {H : Type} {enc : TypeId × Value → H} {w : World} {base : Nat} {held : Bool} {fuel : Nat} {cs : List Value} {x : DataW H × List MemPlace},
    DataW.trod enc P w base (fun _ => true) held fuel t cs = some x → (∀ n ∈ x.1.weights P t, n ≤ reachBytes) → ∃ v : y.den, RepL (memOf w) y v cs ∧ Small y v

theorem opens_slice' [tI : Tst] (hC : RowsOK P C) {t e : TypeId} (ht : (C.row t).td = .slice e) (hb : (C.row e).ty.bytes ≤ (C.row e).bytes) (he : OpensAt P e (C.row e).ty) : OpensAt P t (.li (C.row e).ty) := by
  obtain ⟨hu, -, -, hge, hpos⟩ := hC.slice ht
  obtain ⟨hce, hbe⟩ := cells_row hC hge
  have hsz := (hC.row hge).size
  refine ⟨fun {H enc w base held fuel cs x} h hw => ?_⟩
  rcases open_slice hu h with ⟨rfl, _⟩ | ⟨a, len, cap, m, n, D, Pl, rfl, hbb, hl, hm, hmm, rfl, hx⟩
  · exact ⟨([] : List (C.row e).ty.den), ⟨none, 0, rfl, Nat.le_refl _, Nat.zero_le _, Nat.zero_le _, rfl, rfl⟩, by simp [Small]⟩
  · simp only [if_true] at hmm
    subst hmm
    have hww : ∀ k, k ∈ (DataW.slice ((List.range len).map D) ((List.range (m - len)).map fun j => D (len + j))).weights P t → k ≤ reachBytes := hw
    simp only [DataW.weights, hu, List.mem_cons, List.mem_append] at hww
    have hlen : len * (C.row e).ty.bytes ≤ 140737488351232 := by
      have := hww _ (.inl rfl)
      simp only [List.length_map, List.length_range, hbe] at this
      have h2 : len * (C.row e).ty.bytes ≤ (len + (m - len)) * (C.row e).bytes := Nat.mul_le_mul (by omega) hb
      exact Nat.le_trans h2 this
    have hmem : ∀ ad : Addr, ∀ v, w.cell? ad = some v → ad.spot = none ∧ memOf w ad.block ad.off = some v := by
      intro ad v hv
      obtain ⟨b, o, s⟩ := ad
      have hs : s = none := by
        unfold World.cell? at hv
        split at hv
        · cases s with
          | none => rfl
          | some s => simp at hv
        · simp at hv
      subst hs
      exact ⟨rfl, hv⟩
    have each : ∀ i, i < len → ∃ v : (C.row e).ty.den, ∃ c, Lies (memOf w) a.block (a.off + i * (C.row e).ty.size) c ∧ RepL (memOf w) (C.row e).ty v c ∧ Small (C.row e).ty v := by
      intro i hi
      obtain ⟨cs', h1, h2⟩ := hx i (by omega)
      obtain ⟨_, h3, h4⟩ := World.cells?_some h1
      obtain ⟨v, hv, hok⟩ := he.get h2 (fun k hk => hww k (.inr (.inl (mem_weightsAll (l := (List.range len).map D) (d := D i) (List.mem_map.mpr ⟨i, List.mem_range.mpr hi, rfl⟩) hk))))
      refine ⟨v, cs', fun j u hu => ?_, hv, hok⟩
      have hj : j < P.cellsOf e := by
        rw [← h3]
        exact (List.getElem?_eq_some_iff.1 hu).1
      have := h4 j hj
      rw [hu, hce, ← hsz] at this
      have := (hmem _ _ this).2
      simpa only [add_block, add_off] using this
    have pick : ∃ f : Fin len → (C.row e).ty.den, ∀ i : Fin len, ∃ c, Lies (memOf w) a.block (a.off + i.val * (C.row e).ty.size) c ∧ RepL (memOf w) (C.row e).ty (f i) c ∧ Small (C.row e).ty (f i) :=
      ⟨fun i => Classical.choose (each i.val i.isLt), fun i => Classical.choose_spec (each i.val i.isLt)⟩
    obtain ⟨f, hf⟩ := pick
    have hspot : 0 < m → a.spot = none := by
      intro hm0
      obtain ⟨cs', h1, -⟩ := hx 0 hm0
      obtain ⟨_, h3, h4⟩ := World.cells?_some h1
      have h0 : 0 < P.cellsOf e := by rw [hce]; exact hpos
      have := h4 0 h0
      rw [List.getElem?_eq_getElem (by omega)] at this
      have := (hmem _ _ this).1
      simpa [Addr.add] using this
    have hb1 : 0 < (C.row e).ty.bytes ∨ len ≤ 140737488355328 := by
      right
      have := hww _ (.inl rfl)
      simp only [List.length_map, List.length_range, hbe, reachBytes] at this
      have hbp := (hC.row hge).byte
      have : len * 1 ≤ (len + (m - len)) * (C.row e).bytes := Nat.mul_le_mul (by omega) (by omega)
      omega
    refine ⟨(List.ofFn f : List (C.row e).ty.den), ⟨some a, m, by rw [List.length_ofFn], by rw [List.length_ofFn]; exact hl, ?_, hm, hspot, fun i hi => ?_⟩, ?_, ?_⟩
    · rw [List.length_ofFn]
      have := hww _ (.inl rfl)
      simp only [List.length_map, List.length_range, hbe, reachBytes] at this
      have hbp := (hC.row hge).byte
      have : len * 1 ≤ (len + (m - len)) * (C.row e).bytes := Nat.mul_le_mul (by omega) (by omega)
      simp only [maxL]
      omega
    · rw [List.length_ofFn] at hi
      obtain ⟨c, c1, c2, _⟩ := hf ⟨i, hi⟩
      exact ⟨c, c1, by rw [List.getElem_ofFn]; exact c2⟩
    · rw [List.length_ofFn]; exact hlen
    · intro x hx
      obtain ⟨i, rfl⟩ := List.mem_ofFn.mp hx
      obtain ⟨c, _, _, h3⟩ := hf i
      exact h3

theorem opens_fields [tI : Tst] (hC : RowsOK P C) {n : Nat} (ih : ∀ e, openB C n e = true → OpensAt P e (C.row e).ty) {H : Type} {enc : TypeId × Value → H} {w : World} {base : Nat} {held : Bool} {fuel : Nat} {cs : List Value} :
    ∀ (fs : List (Nat × TypeId)) (y : Ty) (off : Nat) (gs : List Field) (Y : Ty) (k : Nat) (xs : List (DataW H × List MemPlace)), fieldsO C (fun e => openB C n e) fs y off = true → fieldsB C Y k fs gs = true → cs.length = off + y.size →
      (∀ (i : Nat) (f : Field), gs[i]? = some f → ∃ x, xs[i]? = some x ∧ DataW.trod enc P w base (fun _ => true) held fuel f.type ((cs.drop f.offset).take (P.cellsOf f.type)) = some x ∧ ∀ n ∈ x.1.weights P f.type, n ≤ reachBytes) →
      ∃ v : y.den, RepL (memOf w) y v (cs.drop off) ∧ Small y v
  | [], .ue, off, gs, Y, k, xs, _, _, hl, _ => ⟨(), by simp only [Ty.size] at hl; simp only [RepL]; exact List.drop_eq_nil_of_le (by omega), trivial⟩
  | (o, e) :: fs, .co a r, off, g :: gs, Y, k, xs, ho, hf, hl, hx => by
    simp only [fieldsO, Bool.and_eq_true, beq_iff_eq, decide_eq_true_eq] at ho
    obtain ⟨⟨⟨rfl, rfl⟩, ho2⟩, ho3⟩ := ho
    simp only [fieldsB, Bool.and_eq_true, beq_iff_eq, decide_eq_true_eq] at hf
    obtain ⟨⟨⟨⟨⟨hf1, hf2⟩, hf3⟩, hf4⟩, hf5⟩, hf6⟩ := hf
    simp only [Ty.size] at hl
    obtain ⟨x, hx1, hx2, hx3⟩ := hx 0 g rfl
    rw [hf2, (cells_row hC hf3).1, hf1, ← (hC.row hf3).size] at hx2
    rw [hf2] at hx3
    obtain ⟨v, hv, hs⟩ := (ih e ho2).get hx2 hx3
    obtain ⟨v2, hv2, hs2⟩ := opens_fields hC ih (enc := enc) (w := w) (base := base) (held := held) (fuel := fuel) (cs := cs) fs r (o + (C.row e).ty.size) gs Y (k + 1) (xs.drop 1) ho3 hf6 (by omega) (by
      intro i f hi
      obtain ⟨x, h1, h2⟩ := hx (i + 1) f (by simpa using hi)
      exact ⟨x, by rw [List.getElem?_drop, Nat.add_comm]; exact h1, h2⟩)
    exact ⟨(v, v2), ⟨_, _, by rw [← List.drop_drop, List.take_append_drop], hv, hv2⟩, hs, hs2⟩
  | _ :: _, .co _ _, _, [], _, _, _, _, hf, _, _ => by simp [fieldsB] at hf
  | [], .co _ _, _, _, _, _, _, h, _, _, _ => by simp [fieldsO] at h
  | [], .bo, _, _, _, _, _, h, _, _, _ => by simp [fieldsO] at h
  | [], .it _, _, _, _, _, _, h, _, _, _ => by simp [fieldsO] at h
  | [], .st, _, _, _, _, _, h, _, _, _ => by simp [fieldsO] at h
  | [], .ni, _, _, _, _, _, h, _, _, _ => by simp [fieldsO] at h
  | [], .li _, _, _, _, _, _, h, _, _, _ => by simp [fieldsO] at h
  | [], .ar _ _, _, _, _, _, _, h, _, _, _ => by simp [fieldsO] at h
  | _ :: _, .bo, _, _, _, _, _, h, _, _, _ => by simp [fieldsO] at h
  | _ :: _, .it _, _, _, _, _, _, h, _, _, _ => by simp [fieldsO] at h
  | _ :: _, .st, _, _, _, _, _, h, _, _, _ => by simp [fieldsO] at h
  | _ :: _, .ni, _, _, _, _, _, h, _, _, _ => by simp [fieldsO] at h
  | _ :: _, .li _, _, _, _, _, _, h, _, _, _ => by simp [fieldsO] at h
  | _ :: _, .ar _ _, _, _, _, _, _, h, _, _, _ => by simp [fieldsO] at h
  | _ :: _, .ue, _, _, _, _, _, h, _, _, _ => by simp [fieldsO] at h

theorem opens_at [tI : Tst] (hC : RowsOK P C) : ∀ (n : Nat) (t : TypeId), openB C n t = true → OpensAt P t (C.row t).ty
  | 0, t, h => by simp [openB] at h
  | n + 1, t, h => by
    have hg := openB_good h
    rw [openB] at h
    split at h
    · rename_i k htd
      obtain ⟨hu, hty⟩ := hC.int htd
      rw [hty]
      refine ⟨fun {H enc w base held fuel cs x} hx _ => ?_⟩
      obtain ⟨m, rfl, _, hw⟩ := DataW.trod_int hu hx
      have hr : k.min ≤ m ∧ m ≤ k.max := by simpa [Lit.wf] using hw
      exact ⟨m, ⟨rfl, hr⟩, hr⟩
    · rename_i htd
      have hu := hC.bool htd
      have hty : (C.row t).ty = .bo := by
        obtain ⟨d, hd, hb⟩ := (hC.row hg).desc
        simp only [descB, htd] at hb
        split at hb <;> simp_all
      rw [hty]
      refine ⟨fun {H enc w base held fuel cs x} hx _ => ?_⟩
      obtain ⟨b, rfl, _⟩ := DataW.trod_bool hu hx
      exact ⟨b, rfl, trivial⟩
    · rename_i htd
      have hu := hC.str htd
      have hty : (C.row t).ty = .st := by
        obtain ⟨d, hd, hb⟩ := (hC.row hg).desc
        simp only [descB, htd] at hb
        split at hb <;> simp_all
      rw [hty]
      refine ⟨fun {H enc w base held fuel cs x} hx hw => ?_⟩
      obtain ⟨s, rfl, hx', _⟩ := DataW.trod_string hu hx
      have := hw s.data.toList.length (by rw [hx']; simp [DataW.weights])
      have e : s.size = s.data.toList.length := rfl
      simp only [reachBytes] at this
      refine ⟨strInts s, ⟨s, rfl, rfl, by simp only [maxL]; omega⟩, ?_⟩
      simp only [Small, strInts, List.length_map]
      omega
    · rename_i e htd
      simp only [Bool.and_eq_true, decide_eq_true_eq] at h
      rw [(hC.slice htd).2.1]
      exact opens_slice' hC htd h.2 (opens_at hC n e h.1)
    · rename_i k e htd
      obtain ⟨hu, hty, hsz, hge, hpos⟩ := hC.arr htd
      have hse := (hC.row hge).size
      have ihe := opens_at hC n e h
      rw [hty]
      refine ⟨fun {H enc w base held fuel cs x} hx hw => ?_⟩
      obtain ⟨xs, m, rfl, rfl, hcl, hxl, hxe⟩ := DataW.trod_array hu hx
      rw [(cells_row hC hg).1, hsz] at hcl
      rw [(cells_row hC hge).1] at hxe
      have hww : ∀ j, j ∈ (DataW.agg (xs.map (·.1)) : DataW H).weights P t → j ≤ reachBytes := hw
      simp only [DataW.weights, hu] at hww
      have each : ∀ i, i < k → ∃ v : (C.row e).ty.den, RepL (memOf w) (C.row e).ty v ((cs.drop (i * (C.row e).size)).take (C.row e).size) ∧ Small (C.row e).ty v := by
        intro i hi
        have h1 := hxe i hi
        rw [List.getElem?_eq_getElem (by omega)] at h1
        exact ihe.get h1 (fun j hj => hww j (mem_weightsAll (d := xs[i].1) (List.mem_map.mpr ⟨xs[i], List.getElem_mem _, rfl⟩) hj))
      have pick : ∃ f : Fin k → (C.row e).ty.den, ∀ i : Fin k, RepL (memOf w) (C.row e).ty (f i) ((cs.drop (i.val * (C.row e).size)).take (C.row e).size) ∧ Small (C.row e).ty (f i) :=
        ⟨fun i => Classical.choose (each i.val i.isLt), fun i => Classical.choose_spec (each i.val i.isLt)⟩
      obtain ⟨f, hf⟩ := pick
      refine ⟨(List.ofFn f : List (C.row e).ty.den), ⟨List.length_ofFn, by rw [hcl, hse], fun i hi => ?_⟩, List.length_ofFn, fun y hy => ?_⟩
      · rw [List.length_ofFn] at hi
        rw [List.getElem_ofFn, hse]
        exact (hf ⟨i, hi⟩).1
      · obtain ⟨i, rfl⟩ := List.mem_ofFn.mp hy
        exact (hf i).2
    · rename_i fs htd
      obtain ⟨gs, hu, hfb⟩ := hC.struct htd
      have ih := opens_at hC n
      refine ⟨fun {H enc w base held fuel cs x} hx hw => ?_⟩
      obtain ⟨xs, m, rfl, rfl, hcl, hxl, hxe⟩ := DataW.trod_struct hu hx
      have hww : ∀ j, j ∈ (DataW.agg (xs.map (·.1)) : DataW H).weights P t → j ≤ reachBytes := hw
      simp only [DataW.weights, hu] at hww
      have := opens_fields hC ih (enc := enc) (w := w) (base := base) (held := held) (fuel := m) (cs := cs) fs (C.row t).ty 0 gs.toList (C.row t).ty 0 xs h hfb (by rw [hcl, (cells_row hC hg).1, (hC.row hg).size]; omega) (by
        intro i f hi
        have hi' : gs[i]? = some f := by simpa using hi
        have h1 := hxe i f hi'
        have hil : i < xs.length := by rw [hxl]; exact (Array.getElem?_eq_some_iff.1 hi').1
        rw [List.getElem?_eq_getElem hil] at h1
        refine ⟨xs[i], by rw [List.getElem?_eq_getElem hil], h1, fun j hj => hww j ?_⟩
        exact DataW.weights_mem_each (j := i) (by simp [hi']) (by rw [List.getElem?_map, List.getElem?_eq_getElem hil]; rfl) j hj)
      simpa using this
    · simp at h

/-- an argument, as data -/
theorem opens_arg [tI : Tst] (hC : RowsOK P C) {n : Nat} {t : TypeId} (h : openB C n t = true) {H : Type} {enc : TypeId × Value → H} {W : World} {base : Nat} {held : Bool} {v : Value} {dd : DataW H} {ps : List MemPlace} {ts : List TypeId} {ds : List (DataW H)} {j : Nat}
    (ho : DataW.Trod enc P W base (fun _ => true) held t v dd ps) (hsz : (DataW.weightsEach P ts ds).all (· ≤ reachBytes) = true) (ht : ts[j]? = some t) (hd : ds[j]? = some dd) (hform : v.cells = #[v] ∨ ∃ us : Array Value, v = .agg us) (hag : (C.row t).ty.agg = false → v.cells = #[v]) :
    ∃ x : (C.row t).ty.den, RepL (memOf W) (C.row t).ty x v.cells.toList ∧ Small (C.row t).ty x := by
  obtain ⟨fuel, hf⟩ := ho
  refine (opens_at hC n t h).get hf fun n hn => ?_
  have := List.all_eq_true.1 hsz _ (DataW.weights_mem_each ht hd n hn)
  simpa using this
end
end Go.Proofs.Ytdhbelpejaobdaa.Ev
