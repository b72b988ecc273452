/- One operation after the other, continued: fields and elements, by address and by value. -/
import Derived.Test.YtdhbelpejaobdaaEvF
namespace Go.Proofs.Ytdhbelpejaobdaa.Ev
open Go Go.RowKit
set_option linter.unusedVariables false
set_option linter.unusedSimpArgs false

section
variable {P : Program} {C : Ctx} {E : Env} {w : World}

theorem fieldT_lies [tI : Tst] {m : Mem} : ∀ (f : Nat) (t : Ty) (x : t.den) (off a : Nat) (r : Ty) (y : r.den) (us : List Value), fieldT f t x off = some (a, ⟨r, y⟩) → RepL m t x us →
    off ≤ a ∧ a - off + r.size ≤ us.length ∧ RepL m r y ((us.drop (a - off)).take r.size) := by
  intro f
  induction f with
  | zero =>
    intro t x off a r y us h hr
    cases t <;> simp [fieldT] at h
    rename_i t s
    obtain ⟨rfl, rfl, h⟩ := h
    simp only [heq_eq_eq] at h
    subst h
    obtain ⟨u1, u2, rfl, h2, h3⟩ := hr
    have := RepL.len _ _ _ h2
    refine ⟨Nat.le_refl _, by rw [List.length_append]; omega, ?_⟩
    rw [Nat.sub_self, List.drop_zero, ← this, List.take_left]
    exact h2
  | succ f ih =>
    intro t x off a r y us h hr
    cases t <;> simp [fieldT] at h
    rename_i t s
    obtain ⟨u1, u2, rfl, h2, h3⟩ := hr
    have hl := RepL.len _ _ _ h2
    obtain ⟨h4, h5, h6⟩ := ih s x.2 (off + t.size) a r y u2 h h3
    refine ⟨by omega, by rw [List.length_append]; omega, ?_⟩
    rw [show a - off = u1.length + (a - (off + t.size)) from by omega, ← List.drop_drop, List.drop_left]
    exact h6
theorem lies_sub {m : Mem} {b off a n : Nat} {us : List Value} (h : Lies m b off us) : Lies m b (off + a) ((us.drop a).take n) := by
  intro i u hu
  rw [List.getElem?_take] at hu
  split at hu
  · rw [List.getElem?_drop] at hu
    have := h _ u hu
    rwa [← Nat.add_assoc] at this
  · simp at hu

theorem size_pos_info [tI : Tst] (hC : RowsOK P C) {e : TypeId} (hg : (C.row e).td.good = true) : (sizeOf e).run P w = .ok (C.row e).size w := by
  obtain ⟨i, z, h1, h2, _⟩ := (hC.row hg).info
  simp [sizeOf, typeInfo, h1, h2]

theorem fieldAddr_ok [tI : Tst] (hC : RowsOK P C) {t : TypeId} {x v : V} {u : Value} {f : Nat} {us : List (Nat × Ent)} {g : Bool} (h : fieldAddrV C t x f = some (g, v, us)) (hx : RepV E x u) :
    us = [] ∧ ∃ z, (Instr.fieldAt t u f).run P w = .ok z w ∧ RepV E v z := by
  unfold fieldAddrV at h
  split at h
  case h_2 => simp at h
  rename_i fs ht
  obtain ⟨gs, hu, hb⟩ := hC.struct ht
  split at h
  case h_2 => simp at h
  rename_i off e hf
  obtain ⟨fl, h1, h2, h3, h4, h5, h6⟩ := fieldsB_get hb hf
  have hgs : gs[f]? = some fl := by simpa using h1
  have hsz : (sizeOf fl.type).run P w = .ok (C.row e).size w := by rw [h3]; exact size_pos_info hC h4
  have run : ∀ b o, (Instr.fieldAt t (.pointer (some ⟨b, o, none⟩)) f).run P w = .ok (.pointer (some ⟨b, o + off, none⟩)) w := by
    intro b o
    simp [Instr.fieldAt, run_underlying hu, hgs, Instr.sureAddr, fieldPlace, hsz, show (C.row e).size ≠ 0 from by omega, h2, Addr.add_lit]
  split at h
  · simp only [val, Option.some.injEq, Prod.mk.injEq] at h
    obtain ⟨-, rfl, rfl⟩ := h
    simp only [RepV] at hx
    obtain ⟨hx, rfl⟩ := hx
    exact ⟨rfl, _, run _ _, by simp only [RepV]; exact ⟨hx, trivial⟩⟩
  · split at h
    · split at h
      · simp only [val, Option.some.injEq, Prod.mk.injEq] at h
        obtain ⟨-, rfl, rfl⟩ := h
        simp only [RepV] at hx
        obtain ⟨b, o, us, rfl, hr, hl⟩ := hx
        rename_i s x a r y hft ha
        subst ha
        obtain ⟨k1, k2, k3⟩ := fieldT_lies _ _ _ _ _ _ _ _ hft hr
        refine ⟨rfl, _, run _ _, ?_⟩
        simp only [RepV]
        exact ⟨b, o + a, _, rfl, k3, lies_sub hl⟩
      · simp at h
    · simp at h
  · simp at h

theorem toNat_lt {n : Int} {m : Nat} (h0 : 0 ≤ n) (h1 : n < (m : Int)) : n.toNat < m := by omega
theorem list_elem {m : Mem} {s : Ty} {xs : List s.den} {u : Value} (h : RepL m (.li s) xs [u]) {n : Int} (h0 : 0 ≤ n) (h1 : n < (List.length xs : Int)) :
    ∃ ad c vs, u = .slice (some ad) (List.length xs) c ∧ ad.spot = none ∧ RepL m s (List.getD xs n.toNat s.dflt) vs ∧ Lies m ad.block (ad.off + n.toNat * s.size) vs := by
  obtain ⟨a, c, hu, k1, k2, k3, k4⟩ := h
  simp only [List.cons.injEq, and_true] at hu
  subst hu
  have hn : n.toNat < List.length xs := by omega
  cases a with
  | none => omega
  | some ad =>
    obtain ⟨vs, h2, h3⟩ := k4.2 n.toNat hn
    refine ⟨ad, c, vs, rfl, k4.1 (by omega), ?_, h2⟩
    rw [List.getD_eq_getElem?_getD, List.getElem?_eq_getElem hn]
    exact h3
theorem indexAddr_ok [tI : Tst] (hC : RowsOK P C) {t : TypeId} {x i v : V} {u j : Value} {us : List (Nat × Ent)} {g : Bool} (h : indexAddrV C t x i = some (g, v, us)) (hg : g = true) (hx : RepV E x u) (hi : RepV E i j) :
    us = [] ∧ ∃ z, (Instr.indexAt t u j).run P w = .ok z w ∧ RepV E v z := by
  unfold indexAddrV at h
  split at h
  case h_2 => simp at h
  rename_i k n
  obtain ⟨rfl, hk⟩ := rep_int_iff.1 hi
  split at h
  · rename_i e ht
    obtain ⟨hu, -, -, he, hpos⟩ := hC.slice ht
    have hsz := size_pos_info (w := w) hC he
    have run : ∀ (ad : Addr) (l c : Nat), ad.spot = none → 0 ≤ n → n < (l : Int) → (Instr.indexAt t (.slice (some ad) l c) (.int k n)).run P w = .ok (.pointer (some ⟨ad.block, ad.off + n.toNat * (C.row e).size, none⟩)) w := by
      intro ad l c hs h0 h1
      obtain ⟨b, o, s⟩ := ad
      simp only at hs; subst hs
      simp [Instr.indexAt, asIntOf, run_underlying hu, h0, h1, hsz, Addr.add_lit]
    have list : ∀ (s : Ty) (xs : List s.den), RepL E.m (.li s) xs [u] → (C.row e).size = s.size → (tst (0 ≤ n) && tst (n < (List.length xs : Int))) = true →
        ∃ z, (Instr.indexAt t u (.int k n)).run P w = .ok z w ∧ RepV E (.ro s (List.getD xs n.toNat s.dflt)) z := by
      intro s xs hr hs hb
      simp only [Bool.and_eq_true, tst_iff] at hb
      obtain ⟨ad, c, vs, rfl, h2, h3, h4⟩ := list_elem hr hb.1 hb.2
      refine ⟨_, run ad _ c h2 hb.1 hb.2, ?_⟩
      simp only [RepV]
      exact ⟨_, _, vs, rfl, h3, by rw [hs]; exact h4⟩
    split at h
    · split at h
      · rename_i hs
        simp only [Option.some.injEq, Prod.mk.injEq] at h
        obtain ⟨rfl, rfl, rfl⟩ := h
        exact ⟨rfl, list _ _ (rep_li_iff.1 hx) hs hg⟩
      · simp at h
    · split at h
      · rename_i hs
        simp only [Option.some.injEq, Prod.mk.injEq] at h
        obtain ⟨rfl, rfl, rfl⟩ := h
        simp only [RepV] at hx
        exact ⟨rfl, list _ _ (repl_sub.2 hx.1) hs hg⟩
      · simp at h
    · split at h
      · rename_i hs
        simp only [Option.some.injEq, Prod.mk.injEq] at h
        obtain ⟨rfl, rfl, rfl⟩ := h
        simp only [RepV] at hx
        obtain ⟨h1, h2, ⟨ad, rfl, h4⟩, h3⟩ := hx
        simp only [Bool.and_eq_true, tst_iff] at hg
        have hlt := toNat_lt hg.1 hg.2
        obtain rfl := h4 (by omega)
        refine ⟨rfl, _, run _ _ _ rfl hg.1 hg.2, ?_⟩
        simp only [RepV]
        exact ⟨h1, h2, by rw [hs, ← Nat.add_mul]⟩
      · simp at h
    · simp at h
  · rename_i m e ht
    obtain ⟨hu, -, -, he, hpos⟩ := hC.arr ht
    have hsz := size_pos_info (w := w) hC he
    have run : ∀ (b o : Nat), 0 ≤ n → n < (m : Int) → (Instr.indexAt t (.pointer (some ⟨b, o, none⟩)) (.int k n)).run P w = .ok (.pointer (some ⟨b, o + n.toNat * (C.row e).size, none⟩)) w := by
      intro b o h0 h1
      simp [Instr.indexAt, asIntOf, run_underlying hu, Instr.sureAddr, h0, h1, hsz, Addr.add_lit]
    split at h
    · simp only [Option.some.injEq, Prod.mk.injEq] at h
      obtain ⟨rfl, rfl, rfl⟩ := h
      simp only [RepV] at hx
      obtain ⟨h1, rfl⟩ := hx
      simp only [Bool.and_eq_true, tst_iff] at hg
      refine ⟨rfl, _, run _ _ hg.1 hg.2, ?_⟩
      simp only [RepV]
      exact ⟨h1, trivial⟩
    · rename_i kk s xs
      split at h
      · rename_i hs
        obtain ⟨rfl, hs⟩ := hs
        simp only [Option.some.injEq, Prod.mk.injEq] at h
        obtain ⟨rfl, rfl, rfl⟩ := h
        simp only [RepV] at hx
        obtain ⟨b, o, vs, rfl, hr, hl⟩ := hx
        simp only [Bool.and_eq_true, tst_iff] at hg
        obtain ⟨hr1, hr2, hr3⟩ := hr
        refine ⟨rfl, _, run _ _ hg.1 hg.2, ?_⟩
        simp only [RepV]
        have hn : Int.toNat n < List.length xs := by rw [hr1]; exact toNat_lt hg.1 hg.2
        refine ⟨b, _, (vs.drop (Int.toNat n * s.size)).take s.size, rfl, ?_, by rw [hs]; exact lies_sub hl⟩
        rw [List.getD_eq_getElem?_getD, List.getElem?_eq_getElem hn]
        exact hr3 _ hn
      · simp at h
    · simp at h
  · simp at h

theorem isAgg_run [tI : Tst] (hC : RowsOK P C) {e : TypeId} (hg : (C.row e).td.good = true) : (isAgg e).run P w = .ok (C.row e).isAgg w := by
  obtain ⟨d, hd, hb⟩ := (hC.row hg).desc
  unfold descB at hb
  unfold isAgg TRow.isAgg
  split at hb <;> simp_all [run_underlying]
theorem part_agg [tI : Tst] (hC : RowsOK P C) {e : TypeId} (hg : (C.row e).td.good = true) (ha : (C.row e).isAgg = true) (cs : List Value) (off : Nat) :
    (part e cs.toArray off).run P w = .ok (.agg ((cs.drop off).take (C.row e).size).toArray) w := by
  simp [part, isAgg_run hC hg, ha, size_pos_info hC hg, List.extract_toArray, List.extract_eq_take_drop]
theorem part_one [tI : Tst] (hC : RowsOK P C) {e : TypeId} (hg : (C.row e).td.good = true) (ha : (C.row e).isAgg = false) {cs : List Value} {off : Nat} {u : Value} (h : cs[off]? = some u) :
    (part e cs.toArray off).run P w = .ok u w := by
  simp [part, isAgg_run hC hg, ha, h]
/-- a part of data -/
theorem part_data [tI : Tst] (hC : RowsOK P C) {e : TypeId} (hg : (C.row e).td.good = true) {r : Ty} {y : r.den} (ha : r.agg = (C.row e).isAgg) (hs : r.size = (C.row e).size) {cs : List Value} {off : Nat}
    (h : RepL E.m r y ((cs.drop off).take r.size)) (hl : off + r.size ≤ cs.length) : ∃ z, (part e cs.toArray off).run P w = .ok z w ∧ RepV E (.d r y) z := by
  cases hr : r.agg with
  | true =>
    refine ⟨_, part_agg hC hg (by rw [← ha, hr]) cs off, ?_⟩
    simp only [RepV]
    exact ⟨_, h, by rw [hr, ← hs]; rfl⟩
  | false =>
    have h1 := size_one hr
    rw [h1] at h hl
    have hlt : off < cs.length := by omega
    have he : (cs.drop off).take 1 = [cs[off]] := by rw [List.drop_eq_getElem_cons hlt, List.take_succ_cons, List.take_zero]
    refine ⟨_, part_one hC hg (by rw [← ha, hr]) (List.getElem?_eq_getElem hlt), ?_⟩
    simp only [RepV]
    exact ⟨_, h, by rw [hr, he]; rfl⟩
/-- a part of cells -/
theorem part_cells [tI : Tst] (hC : RowsOK P C) {e : TypeId} (hg : (C.row e).td.good = true) {vs : List V} {cs : List Value} {off : Nat} (h : RepVs E vs cs) (h1 : ∀ u ∈ cs, u.oneCell' = true) (hpos : 0 < (C.row e).size) (hl : off + (C.row e).size ≤ vs.length) :
    ∃ z, (part e cs.toArray off).run P w = .ok z w ∧ RepV E (if (C.row e).isAgg then .agg ((vs.drop off).take (C.row e).size) else look vs off) z := by
  have hlen := h.length
  cases ha : (C.row e).isAgg with
  | true =>
    refine ⟨_, part_agg hC hg ha cs off, ?_⟩
    simp only [if_true, RepV]
    exact ⟨_, rfl, RepVs.take _ (RepVs.drop _ h), fun u hu => h1 u (List.mem_of_mem_drop (List.mem_of_mem_take hu))⟩
  | false =>
    have hlt : off < cs.length := by omega
    exact ⟨_, part_one hC hg ha (List.getElem?_eq_getElem hlt), RepVs.get off h (List.getElem?_eq_getElem hlt)⟩

theorem field_ok [tI : Tst] (hC : RowsOK P C) {t : TypeId} {x v : V} {u : Value} {f : Nat} {us : List (Nat × Ent)} {g : Bool} (h : fieldV C t x f = some (g, v, us)) (hx : RepV E x u) :
    us = [] ∧ ∃ z, (Instr.field t u f).run P w = .ok z w ∧ RepV E v z := by
  unfold fieldV at h
  split at h
  case h_2 => simp at h
  rename_i fs ht
  obtain ⟨gs, hu, hb⟩ := hC.struct ht
  split at h
  case h_2 => simp at h
  rename_i off e hf
  obtain ⟨fl, h1, h2, h3, h4, h5, h6⟩ := fieldsB_get hb hf
  have hgs : gs[f]? = some fl := by simpa using h1
  have run : ∀ cs : List Value, ∀ z, (part e cs.toArray off).run P w = .ok z w → (Instr.field t (.agg cs.toArray) f).run P w = .ok z w := by
    intro cs z hz
    simp [Instr.field, run_underlying hu, hgs, asAgg, h2, h3, hz]
  split at h
  · split at h
    · rename_i hl
      simp only [RepV] at hx
      obtain ⟨cs, rfl, hr, h1⟩ := hx
      obtain ⟨z, hz, hv⟩ := part_cells (w := w) hC h4 hr h1 h5 hl
      split at h
      · rename_i ha
        simp only [val, Option.some.injEq, Prod.mk.injEq] at h
        obtain ⟨-, rfl, rfl⟩ := h
        rw [if_pos ha] at hv
        exact ⟨rfl, z, run _ _ hz, hv⟩
      · rename_i ha
        simp only [val, Option.some.injEq, Prod.mk.injEq] at h
        obtain ⟨-, rfl, rfl⟩ := h
        rw [if_neg ha] at hv
        exact ⟨rfl, z, run _ _ hz, hv⟩
    · simp at h
  · rename_i s x
    split at h
    · rename_i a r y hft
      split at h
      · rename_i hc
        obtain ⟨rfl, hc1, hc2⟩ := hc
        simp only [val, Option.some.injEq, Prod.mk.injEq] at h
        obtain ⟨-, rfl, rfl⟩ := h
        simp only [RepV] at hx
        obtain ⟨cs, hr, rfl⟩ := hx
        obtain ⟨k1, k2, k3⟩ := fieldT_lies _ _ _ _ _ _ _ _ hft hr
        have hs : s.agg = true := by cases f <;> cases s <;> simp [fieldT] at hft <;> rfl
        obtain ⟨z, hz, hv⟩ := part_data (E := E) (w := w) hC h4 hc1 hc2 (cs := cs) (off := a) (by simpa using k3) (by simpa using k2)
        exact ⟨rfl, z, by rw [hs]; exact run _ _ hz, hv⟩
      · simp at h
    · simp at h
  · simp at h
theorem index_ok [tI : Tst] (hC : RowsOK P C) {t : TypeId} {x i v : V} {u j : Value} {us : List (Nat × Ent)} {g : Bool} (h : indexV C t x i = some (g, v, us)) (hg : g = true) (hx : RepV E x u) (hi : RepV E i j) :
    us = [] ∧ ∃ z, (Instr.index t u j).run P w = .ok z w ∧ RepV E v z := by
  unfold indexV at h
  split at h
  case h_2 => simp at h
  rename_i k n
  obtain ⟨rfl, hk⟩ := rep_int_iff.1 hi
  split at h
  · rename_i ht
    split at h
    · simp only [Option.some.injEq, Prod.mk.injEq] at h
      obtain ⟨rfl, rfl, rfl⟩ := h
      simp only [Bool.and_eq_true, tst_iff] at hg
      obtain ⟨s, rfl, rfl, hs⟩ := rep_str_iff.1 hx
      have hlen : (strInts s).length = s.size := by simp [strInts]
      have hn : Int.toNat n < s.size := by rw [← hlen]; exact toNat_lt hg.1 hg.2
      have hget : (strInts s).getD n.toNat 0 = (s[n.toNat].toNat : Int) := by
        rw [List.getD_eq_getElem?_getD, List.getElem?_eq_getElem (by omega)]
        simp only [strInts, List.getElem_map, Option.getD_some]
        rfl
      refine ⟨rfl, .int .u8 (s[n.toNat].toNat : Int), ?_, ?_⟩
      · have : s[n.toNat]? = some s[n.toNat] := by simp [hn]
        simp [Instr.index, asIntOf, run_underlying (hC.str ht), hg.1, this]
      · rw [hget]
        refine rep_int ?_
        have := s[n.toNat].toNat_lt
        simp [IntKind.min, IntKind.max, IntKind.bits, IntKind.signed]
        omega
    · simp at h
  · rename_i m e ht
    obtain ⟨hu, -, hsz, he, hpos⟩ := hC.arr ht
    have hes := size_pos_info (w := w) hC he
    have run : ∀ cs : List Value, ∀ z, 0 ≤ n → n < (m : Int) → (part e cs.toArray (n.toNat * (C.row e).size)).run P w = .ok z w → (Instr.index t (.agg cs.toArray) (.int k n)).run P w = .ok z w := by
      intro cs z h0 h1 hz
      simp [Instr.index, asIntOf, run_underlying hu, h0, h1, hes, hz]
    split at h
    · rename_i kk s xs
      split at h
      · rename_i hc
        obtain ⟨rfl, hc1, hc2⟩ := hc
        simp only [Option.some.injEq, Prod.mk.injEq] at h
        obtain ⟨rfl, rfl, rfl⟩ := h
        simp only [Bool.and_eq_true, tst_iff] at hg
        simp only [RepV] at hx
        obtain ⟨cs, ⟨hr1, hr2, hr3⟩, rfl⟩ := hx
        have hn : Int.toNat n < List.length xs := by rw [hr1]; exact toNat_lt hg.1 hg.2
        have hle : n.toNat * s.size + s.size ≤ cs.length := by
          rw [hr2, ← Nat.succ_mul]; exact Nat.mul_le_mul_right _ (toNat_lt hg.1 hg.2)
        obtain ⟨z, hz, hv⟩ := part_data (E := E) (w := w) hC he hc2.symm hc1.symm (cs := cs) (off := n.toNat * s.size) (hr3 _ hn) hle
        refine ⟨rfl, z, run _ _ hg.1 hg.2 (by rw [hc1]; exact hz), ?_⟩
        rw [List.getD_eq_getElem?_getD, List.getElem?_eq_getElem hn]
        exact hv
      · simp at h
    · split at h
      · rename_i hl
        simp only [RepV] at hx
        obtain ⟨cs, rfl, hr, h1⟩ := hx
        split at h
        · rename_i ha
          simp only [Option.some.injEq, Prod.mk.injEq] at h
          obtain ⟨rfl, rfl, rfl⟩ := h
          simp only [Bool.and_eq_true, tst_iff] at hg
          have hle : n.toNat * (C.row e).size + (C.row e).size ≤ m * (C.row e).size := by rw [← Nat.succ_mul]; exact Nat.mul_le_mul_right _ (toNat_lt hg.1 hg.2)
          obtain ⟨z, hz, hv⟩ := part_cells (w := w) hC he hr h1 hpos (off := n.toNat * (C.row e).size) (by rw [hl]; exact hle)
          rw [if_pos ha] at hv
          exact ⟨rfl, z, run _ _ hg.1 hg.2 hz, hv⟩
        · rename_i ha
          simp only [Option.some.injEq, Prod.mk.injEq] at h
          obtain ⟨rfl, rfl, rfl⟩ := h
          simp only [Bool.and_eq_true, tst_iff] at hg
          have hle : n.toNat * (C.row e).size + (C.row e).size ≤ m * (C.row e).size := by rw [← Nat.succ_mul]; exact Nat.mul_le_mul_right _ (toNat_lt hg.1 hg.2)
          obtain ⟨z, hz, hv⟩ := part_cells (w := w) hC he hr h1 hpos (off := n.toNat * (C.row e).size) (by rw [hl]; exact hle)
          rw [if_neg ha] at hv
          exact ⟨rfl, z, run _ _ hg.1 hg.2 hz, hv⟩
      · simp at h
    · simp at h
  · simp at h
end
end Go.Proofs.Ytdhbelpejaobdaa.Ev
