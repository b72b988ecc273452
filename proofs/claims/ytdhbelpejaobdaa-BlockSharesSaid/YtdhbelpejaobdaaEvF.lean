/- One operation after the other, continued: conversions, lengths, fields, elements. -/
import Derived.Test.YtdhbelpejaobdaaEvE
import Derived.Laws.BytesString
namespace Go.Proofs.Ytdhbelpejaobdaa.Ev
open Go Go.RowKit
set_option linter.unusedVariables false
set_option linter.unusedSimpArgs false

section
variable {P : Program} {C : Ctx} {E : Env} {w : World}

/-- the cells of a slice's elements, one behind the other -/
theorem lies_cell {m : Mem} (hm : m.lies w) {b off : Nat} {us : List Value} (h : Lies m b off us) : ∀ j u, us[j]? = some u → w.cell? ((⟨b, off, none⟩ : Addr).add j) = some u := by
  intro j u hu
  rw [Addr.add_lit]
  exact hm _ _ _ (h j u hu)
theorem lies_cell' [tI : Tst] {m : Mem} (hm : m.lies w) {ad : Addr} {us : List Value} (hs : 0 < us.length → ad.spot = none) (h : Lies m ad.block ad.off us) : ∀ j u, us[j]? = some u → w.cell? (ad.add j) = some u := by
  intro j u hu
  have hj := (List.getElem?_eq_some_iff.1 hu).1
  obtain ⟨b, o, s⟩ := ad
  have hs := hs (by omega)
  simp only at hs
  subst hs
  exact lies_cell hm h j u hu
theorem elem_cells [tI : Tst] {m : Mem} {t : Ty} {xs : List t.den} {ad : Addr} (h : ∀ i (h : i < List.length xs), ∃ vs, Lies m ad.block (ad.off + i * t.size) vs ∧ RepL m t xs[i] vs) :
    ∀ n, n ≤ List.length xs → ∃ us : List Value, us.length = n * t.size ∧ Lies m ad.block ad.off us ∧ (∀ u ∈ us, u.oneCell' = true) ∧ ∀ i (hi : i < n) (hx : i < List.length xs), RepL m t xs[i] ((us.drop (i * t.size)).take t.size) := by
  intro n
  induction n with
  | zero => intro _; exact ⟨[], by simp, by intro i u hu; simp at hu, by simp, by intro i hi; omega⟩
  | succ n ih =>
    intro hn
    obtain ⟨us, h1, h2, h3, h4⟩ := ih (by omega)
    obtain ⟨vs, h5, h6⟩ := h n (by omega)
    have hl := RepL.len _ _ _ h6
    refine ⟨us ++ vs, by rw [List.length_append, h1, hl, Nat.add_mul, Nat.one_mul], ?_, ?_, ?_⟩
    · intro i u hu
      rw [List.getElem?_append] at hu
      split at hu
      · exact h2 i u hu
      · rename_i hi
        have := h5 _ u hu
        rw [show ad.off + n * t.size + (i - us.length) = ad.off + i from by omega] at this
        exact this
    · intro u hu
      rcases List.mem_append.1 hu with hu | hu
      · exact h3 u hu
      · exact RepL.one _ _ _ h6 u hu
    · intro i hi hx
      by_cases e : i = n
      · subst e
        rw [← h1, List.drop_left, List.take_of_length_le (by omega)]
        exact h6
      · have : i * t.size + t.size ≤ us.length := by rw [h1, ← Nat.succ_mul]; exact Nat.mul_le_mul_right _ (by omega)
        rw [List.drop_append_of_le_length (by omega), List.take_append_of_le_length (by rw [List.length_drop]; omega)]
        exact h4 i (by omega) hx

theorem strInts_push (l : List Int) (hl : ∀ x ∈ l, 0 ≤ x ∧ x ≤ 255) : ∀ s : ByteArray, strInts (l.foldl (fun r n => r.push (UInt8.ofNat n.toNat)) s) = strInts s ++ l ∧ (l.foldl (fun r n => r.push (UInt8.ofNat n.toNat)) s).size = s.size + l.length := by
  induction l with
  | nil => intro s; simp
  | cons x l ih =>
    intro s
    obtain ⟨h1, h2⟩ := ih (fun y hy => hl y (List.mem_cons_of_mem _ hy)) (s.push (UInt8.ofNat x.toNat))
    have hx := hl x (List.mem_cons_self ..)
    rw [List.foldl_cons, h1, h2]
    refine ⟨?_, by simp [ByteArray.size_push]; omega⟩
    have : strInts (s.push (UInt8.ofNat x.toNat)) = strInts s ++ [x] := by
      simp only [strInts, ByteArray.data_push, Array.toList_push, List.map_append, List.map_cons, List.map_nil]
      congr 2
      rw [UInt8.toNat_ofNat']
      omega
    rw [this, List.append_assoc]; rfl

theorem rep_bytes_cells [tI : Tst] {m : Mem} (hm : m.lies w) {l : List Int} {u : Value} (h : RepL m .by l [u]) :
    (∃ a c, u = .slice a l.length c ∧ (a = none → l = []) ∧ ∀ ad, a = some ad → (loadCells ad l.length).run P w = .ok (l.map (Value.int .u8)).toArray w) ∧ (∀ x ∈ l, 0 ≤ x ∧ x ≤ 255) ∧ l.length ≤ maxL := by
  obtain ⟨a, c, hu, h1, h2, h3, h4⟩ := h
  simp only [List.cons.injEq, and_true] at hu
  subst hu
  cases a with
  | none =>
    have hl : l = [] := List.eq_nil_of_length_eq_zero h4.1
    subst hl
    exact ⟨⟨none, c, rfl, fun _ => rfl, fun ad h => by simp at h⟩, by simp, h2⟩
  | some ad =>
    obtain ⟨h5, h6⟩ := h4
    have key : ∀ i (hi : i < l.length), m ad.block (ad.off + i) = some (.int .u8 l[i]) ∧ 0 ≤ l[i] ∧ l[i] ≤ 255 := by
      intro i hi
      obtain ⟨vs, h7, h8, h9⟩ := h6 i hi
      subst h8
      have := h7 0 _ rfl
      simp only [Ty.size, Nat.mul_one, Nat.add_zero] at this
      exact ⟨this, by simpa [IntKind.min, IntKind.max, IntKind.bits, IntKind.signed] using h9⟩
    refine ⟨⟨some ad, c, rfl, by simp, fun ad' e => ?_⟩, ?_, h2⟩
    · simp only [Option.some.injEq] at e
      subst e
      have := run_loadCells_list (P := P) w ad (l.map (Value.int .u8)) (lies_cell' hm (fun hl => h5 (by simp at hl; omega)) (by
        intro j v hv
        simp only [List.getElem?_map, Option.map_eq_some_iff] at hv
        obtain ⟨x, hx, rfl⟩ := hv
        obtain ⟨hj, rfl⟩ := List.getElem?_eq_some_iff.1 hx
        exact (key j hj).1))
      simpa using this
    · intro x hx
      obtain ⟨i, hi, rfl⟩ := List.getElem_of_mem hx
      exact (key i hi).2

theorem listRep [tI : Tst] {x : V} {u : Value} {t : Ty} {xs : List t.den} (h : listV x = some ⟨t, xs⟩) (r : RepV E x u) : RepL E.m (.li t) xs [u] := by
  cases x with
  | d s y =>
    cases s <;> simp [listV] at h
    obtain ⟨rfl, h⟩ := h
    simp only [heq_eq_eq] at h
    subst h
    exact rep_li_iff.1 r
  | own o s y =>
    simp [listV] at h
    obtain ⟨rfl, h⟩ := h
    simp only [heq_eq_eq] at h
    subst h
    simp only [RepV] at r
    exact repl_sub.2 r.1
  | _ => simp [listV] at h

theorem bytes_str [tI : Tst] (hC : RowsOK P C) (hm : E.m.lies w) {src dst e : TypeId} (hs : (C.row src).td = .slice e) (he : (C.row e).td = .int .u8) (hd : (C.row dst).td = .str) {l : List Int} {u : Value}
    (r : RepL E.m .by l [u]) : ∃ v, (convert src dst u).run P w = .ok v w ∧ RepV E (.d .st l) v := by
  obtain ⟨⟨a, c, rfl, h1, h2⟩, h3, h4⟩ := rep_bytes_cells (P := P) hm r
  rw [run_convert_bytes_string w src dst e a _ c (hC.slice hs).1 (hC.int he).1 (hC.str hd)]
  cases a with
  | none =>
    obtain rfl := h1 rfl
    exact ⟨.string .empty, by simp [Conv.bytesToString], rep_str_iff.2 ⟨_, rfl, rfl, by simp [maxL]⟩⟩
  | some ad =>
    refine ⟨_, run_bytesToString w ad _ c l (h2 ad rfl), rep_str_iff.2 ⟨_, rfl, ?_, ?_⟩⟩
    · rw [(strInts_push l h3 _).1]; rfl
    · rw [(strInts_push l h3 _).2]; simpa using h4

/-- a conversion that makes nothing -/
theorem conv_ok [tI : Tst] (hC : RowsOK P C) (hm : E.m.lies w) {src dst : TypeId} {x v : V} {u : Value} (h : convV C src dst x = some v) (hx : RepV E x u) (hno : ∀ e, (C.row dst).td ≠ .slice e) :
    ∃ z, (convert src dst u).run P w = .ok z w ∧ RepV E v z := by
  unfold convV at h
  split at h
  · rename_i k' k hs hd
    split at h
    · obtain ⟨rfl, hr⟩ := rep_int_iff.1 hx
      simp only [Option.some.injEq] at h; subst h
      exact ⟨_, by simp [convert, run_underlying (hC.int hs).1, run_underlying (hC.int hd).1, Conv.intToInt], rep_int (wrap_range _ _)⟩
    · simp at h
  · rename_i hs hd
    split at h
    · simp only [Option.some.injEq] at h; subst h
      obtain ⟨s, rfl, h2⟩ := rep_str_iff.1 hx
      exact ⟨_, by simp [convert, run_underlying (hC.str hs), run_underlying (hC.str hd)], hx⟩
    · simp at h
  · rename_i e hs hd
    split at h
    · rename_i he
      split at h
      · simp only [Option.some.injEq] at h; subst h
        simp only [RepV] at hx; subst hx
        exact bytes_str hC hm hs he hd ⟨none, 0, rfl, Nat.le_refl _, Nat.zero_le _, Nat.zero_le _, rfl, rfl⟩
      · simp only [Option.some.injEq] at h; subst h
        exact bytes_str hC hm hs he hd (rep_li_iff.1 hx)
      · simp only [Option.some.injEq] at h; subst h
        simp only [RepV] at hx
        exact bytes_str hC hm hs he hd (repl_sub.2 hx.1)
      · simp at h
    · simp at h
  · rename_i e hs hd
    exact absurd hd (hno e)
  · simp at h

theorem len_ok [tI : Tst] (hC : RowsOK P C) {t ty : TypeId} {x : V} {u : Value} {n : Int} (h : lenV (C.row t).td x = some n) (hx : RepV E x u) :
    ∃ z, (Builtin.len_ #[t] ty #[u]).run P w = .ok z w ∧ RepV E (.d (.it .i64) n) z := by
  have small : ∀ k : Nat, k ≤ maxL → RepV E (.d (.it .i64) (k : Int)) (goInt k) := by
    intro k hk
    refine rep_int ?_
    simp only [IntKind.min, IntKind.max, IntKind.bits, IntKind.signed, maxL] at hk ⊢
    simp
    omega
  unfold lenV at h
  split at h
  · rename_i ht
    split at h
    · simp only [Option.some.injEq] at h; subst h
      obtain ⟨s, rfl, rfl, h3⟩ := rep_str_iff.1 hx
      refine ⟨goInt s.size, by simp [Builtin.len_, run_underlying (hC.str ht)], ?_⟩
      have : (strInts s).length = s.size := by simp [strInts]
      rw [this]
      exact small _ h3
    · simp at h
  · rename_i e ht
    have hs := run_underlying (P := P) (hC.slice ht).1
    split at h
    · simp only [Option.some.injEq] at h; subst h
      obtain ⟨a, c, hu, h1, h2, _⟩ := rep_li_iff.1 hx
      simp only [List.cons.injEq, and_true] at hu; subst hu
      exact ⟨_, by simp [Builtin.len_, hs], small _ h2⟩
    · simp only [Option.some.injEq] at h; subst h
      simp only [RepV] at hx
      obtain ⟨a, c, hu, h1, h2, _⟩ := repl_sub.2 hx.1
      simp only [List.cons.injEq, and_true] at hu; subst hu
      exact ⟨_, by simp [Builtin.len_, hs], small _ h2⟩
    · simp only [Option.some.injEq] at h; subst h
      simp only [RepV] at hx; subst hx
      exact ⟨goInt 0, by simp [Builtin.len_, hs], small 0 (Nat.zero_le _)⟩
    · simp only [Option.some.injEq] at h; subst h
      simp only [RepV] at hx
      obtain ⟨_, _, ⟨_, rfl, _⟩, _, h4⟩ := hx
      exact ⟨_, by simp [Builtin.len_, hs], small _ h4⟩
    · simp at h
  · rename_i m e ht
    split at h
    · rename_i hm
      simp only [Option.some.injEq] at h; subst h
      exact ⟨goInt m, by simp [Builtin.len_, run_underlying (hC.arr ht).1], small m (by simp only [maxL]; omega)⟩
    · simp at h
  · simp at h
end
end Go.Proofs.Ytdhbelpejaobdaa.Ev
