/- The order of internal keys, by the program and by the document, and its laws. -/
import Derived.Test.YteogjahkccmfaaaKeys
import Derived.Test.YteogjahkccmfaaaPx41
import Derived.Test.YteogjahkccmfaaaPx45
namespace Go.Proofs.Yteogjahkccmfaaa.Base
set_option linter.unusedVariables false
set_option linter.unusedSimpArgs false
open Go Go.RowKit Go.Proofs.YteogjahkccmfaaaW.PrintWords Go.Proofs.YteogjahkccmfaaaW.PrintLast Go.Proofs.YteogjahkccmfaaaW.PrintMore Go.Proofs.Yteogjahkccmfaaa.P

/-- two rows of numbers, the lesser ahead -/
def cmpB : List Int → List Int → Int
  | [], [] => 0
  | [], _ :: _ => -1
  | _ :: _, [] => 1
  | a :: x, b :: y => if a = b then cmpB x y else if a < b then -1 else 1
theorem cmpB_cases (a b : List Int) : cmpB a b = -1 ∨ cmpB a b = 0 ∨ cmpB a b = 1 := by
  induction a generalizing b with
  | nil => cases b <;> simp [cmpB]
  | cons x a ih =>
    cases b with
    | nil => simp [cmpB]
    | cons y b =>
      simp only [cmpB]
      split
      · exact ih b
      · split <;> simp
theorem cmpB_neg (a b : List Int) : cmpB b a = - cmpB a b := by
  induction a generalizing b with
  | nil => cases b <;> simp [cmpB]
  | cons x a ih =>
    cases b with
    | nil => simp [cmpB]
    | cons y b =>
      simp only [cmpB]
      by_cases h : x = y
      · rw [if_pos h, if_pos h.symm]; exact ih b
      · rw [if_neg h, if_neg (fun e => h e.symm)]
        by_cases h2 : x < y
        · rw [if_neg (by omega), if_pos h2]; rfl
        · rw [if_pos (by omega), if_neg h2]
theorem cmpB_refl (a : List Int) : cmpB a a = 0 := by
  induction a with
  | nil => rfl
  | cons x a ih => simp [cmpB, ih]
theorem cmpB_zero {a b : List Int} (h : cmpB a b = 0) : a = b := by
  induction a generalizing b with
  | nil => cases b with
    | nil => rfl
    | cons y b => simp [cmpB] at h
  | cons x a ih =>
    cases b with
    | nil => simp [cmpB] at h
    | cons y b =>
      simp only [cmpB] at h
      by_cases e : x = y
      · rw [if_pos e] at h; rw [e, ih h]
      · rw [if_neg e] at h; split at h <;> simp at h
theorem cmpB_trans {a b c : List Int} (h1 : cmpB a b ≤ 0) (h2 : cmpB b c ≤ 0) : cmpB a c ≤ 0 ∧ (cmpB a c = 0 → cmpB a b = 0 ∧ cmpB b c = 0) := by
  induction a generalizing b c with
  | nil =>
    cases b with
    | nil => cases c <;> simp [cmpB]
    | cons y b => cases c with
      | nil => simp [cmpB] at h2
      | cons z c => simp [cmpB]
  | cons x a ih =>
    cases b with
    | nil => simp [cmpB] at h1
    | cons y b =>
      cases c with
      | nil => simp [cmpB] at h2
      | cons z c =>
        simp only [cmpB] at h1 h2 ⊢
        by_cases e1 : x = y
        · subst e1
          rw [if_pos rfl] at h1 ⊢
          by_cases e2 : x = z
          · subst e2
            rw [if_pos rfl] at h2
            rw [if_pos rfl]
            refine ⟨(ih h1 h2).1, fun e => ⟨((ih h1 h2).2 e).1, ?_⟩⟩
            rw [if_pos rfl]
            exact ((ih h1 h2).2 e).2
          · rw [if_neg e2] at h2
            rw [if_neg e2]
            by_cases e3 : x < z
            · rw [if_pos e3]; omega
            · rw [if_neg e3] at h2; omega
        · rw [if_neg e1] at h1 ⊢
          by_cases e3 : x < y
          · rw [if_pos e3]
            by_cases e2 : y = z
            · subst e2
              rw [if_neg e1, if_pos e3]; omega
            · rw [if_neg e2] at h2 ⊢
              by_cases e4 : y < z
              · rw [if_neg (by omega), if_pos (by omega)]; omega
              · rw [if_neg e4] at h2; omega
          · rw [if_neg e3] at h1; omega
theorem data_eq (a : List Int) : (strOfNums a).data.toList = a.map fun n => UInt8.ofNat n.toNat := by rw [Go.strOfNums_data]
theorem u8_lt {x y : Int} (hx : 0 ≤ x ∧ x < 256) (hy : 0 ≤ y ∧ y < 256) : UInt8.ofNat x.toNat < UInt8.ofNat y.toNat ↔ x < y := by
  rw [UInt8.lt_iff_toNat_lt, UInt8.toNat_ofNat', UInt8.toNat_ofNat']
  omega
theorem u8_eq {x y : Int} (hx : 0 ≤ x ∧ x < 256) (hy : 0 ≤ y ∧ y < 256) : UInt8.ofNat x.toNat = UInt8.ofNat y.toNat ↔ x = y := by
  rw [← UInt8.toNat_inj, UInt8.toNat_ofNat', UInt8.toNat_ofNat']
  omega
theorem compare_eq {a b : List Int} (ha : Bytes a) (hb : Bytes b) : bytes_Compare.f a b = some (cmpB a b) := by
  unfold bytes_Compare.f
  congr 1
  rw [data_eq, data_eq]
  induction a generalizing b with
  | nil => cases b <;> simp [cmpB, Lib.compareBytes]
  | cons x a ih =>
    cases b with
    | nil => simp [cmpB, Lib.compareBytes]
    | cons y b =>
      have hx := ha x List.mem_cons_self
      have hy := hb y List.mem_cons_self
      simp only [List.map_cons, Lib.compareBytes, cmpB]
      rw [ih (fun z hz => ha z (List.mem_cons_of_mem _ hz)) (fun z hz => hb z (List.mem_cons_of_mem _ hz))]
      by_cases e : x = y
      · rw [if_pos e, if_neg (by rw [u8_lt hx hy]; omega), if_neg (by rw [u8_lt hy hx]; omega)]
      · rw [if_neg e]
        by_cases e2 : x < y
        · rw [if_pos e2, if_pos (by rw [u8_lt hx hy]; exact e2)]
        · rw [if_neg e2, if_neg (by rw [u8_lt hx hy]; exact e2), if_pos (by rw [u8_lt hy hx]; omega)]
theorem rbytes_l0 {a b : List Int} (hla : a.length < 4611686018427387904) (hlb : b.length < 4611686018427387904) (n : Nat) : ∀ i : Nat, i + n = a.length → i ≤ b.length →
    Conv (fun k => moraineref2_Bytes.l0 k a b (i : Int)) (cmpB (a.drop i) (b.drop i)) := by
  induction n with
  | zero =>
    intro i hi hb
    refine Conv.succ ?_
    simp only [moraineref2_Bytes.l0]
    refine Conv.iteF (by omega) (Conv.succ ?_)
    simp only [moraineref2_Bytes.j1]
    refine Conv.iteF (by decide) ?_
    rw [List.drop_eq_nil_of_le (by omega)]
    by_cases h : i < b.length
    · rw [drop_cons h]
      exact Conv.iteT (by omega) (Conv.pure _)
    · rw [List.drop_eq_nil_of_le (by omega)]
      exact Conv.iteF (by omega) (Conv.iteF (by omega) (Conv.pure _))
  | succ n ih =>
    intro i hi hb
    refine Conv.succ ?_
    simp only [moraineref2_Bytes.l0]
    refine Conv.iteT (by omega) (Conv.succ ?_)
    simp only [moraineref2_Bytes.j1]
    by_cases h : i < b.length
    · rw [drop_cons (l := a) (i := i) (by omega), drop_cons h]
      refine Conv.iteT (decide_eq_true (by omega)) (Conv.iteT (by omega) (Conv.iteT (by omega) (Conv.iteT (by omega) ?_)))
      simp only [cmpB]
      by_cases e : rd a (i : Int) = rd b (i : Int)
      · refine Conv.iteT e (Conv.eq ?_ (if_pos e).symm)
        rw [wrap64_id (by omega) (by omega)]
        exact ih (i + 1) (by omega) (by omega)
      · refine Conv.iteF e (Conv.eq ?_ (if_neg e).symm)
        by_cases e2 : rd a (i : Int) < rd b (i : Int)
        · exact Conv.iteT e2 (Conv.eq (Conv.pure _) (if_pos e2).symm)
        · exact Conv.iteF e2 (Conv.eq (Conv.pure _) (if_neg e2).symm)
    · refine Conv.iteF (by simp; omega) ?_
      rw [drop_cons (l := a) (i := i) (by omega), (List.drop_eq_nil_of_le (by omega) : b.drop i = [])]
      exact Conv.iteF (by omega) (Conv.iteT (by omega) (Conv.pure _))
theorem rbytes_conv {a b : List Int} (hla : a.length < 4611686018427387904) (hlb : b.length < 4611686018427387904) : Conv (fun k => moraineref2_Bytes.f k a b) (cmpB a b) :=
  rbytes_l0 hla hlb a.length 0 (by omega) (by omega)

/-- the order of two keys: the users' keys rise, then the moments and kinds fall -/
def order (a b : List Int) : Int :=
  if cmpB (split a).1 (split b).1 ≠ 0 then cmpB (split a).1 (split b).1
  else if (split a).2.1 > (split b).2.1 ∨ ((split a).2.1 = (split b).2.1 ∧ (split a).2.2.1 > (split b).2.2.1) then -1
  else if (split a).2.1 < (split b).2.1 ∨ ((split a).2.1 = (split b).2.1 ∧ (split a).2.2.1 < (split b).2.2.1) then 1
  else 0
def compareK (a b : List Int) : Int × Int := if (split a).2.2.2 = 0 ∧ (split b).2.2.2 = 0 then (order a b, 0) else (0, 23)
theorem isNaN_false (a : Int) : (a != a) = false := bne_self_eq_false _
theorem cmpu_eq (a b : Int) : cmp_Compare_uint64.f a b = some (if a < b then -1 else if a > b then 1 else 0) := by
  unfold cmp_Compare_uint64.f cmp_isNaN_uint64.f
  rw [isNaN_false, isNaN_false]
  simp only [Option.bind_some]
  rw [if_neg (by decide), if_neg (by decide)]
  split
  · rfl
  · split <;> rfl
theorem cmpi_eq (a b : Int) : cmp_Compare_int.f a b = some (if a < b then -1 else if a > b then 1 else 0) := by
  unfold cmp_Compare_int.f cmp_isNaN_int.f
  rw [isNaN_false, isNaN_false]
  simp only [Option.bind_some]
  rw [if_neg (by decide), if_neg (by decide)]
  split
  · rfl
  · split <;> rfl
theorem compare_conv {a b : List Int} (ha : Bytes a) (hb : Bytes b) (hla : a.length < 140737488355328) (hlb : b.length < 140737488355328) : Conv (fun k => codec_Compare.f k a b) (compareK a b) := by
  unfold codec_Compare.f
  refine Conv.bind (split_conv ha hla) (Conv.bind (split_conv hb hlb) ?_)
  have ba := split_bytes ha
  have bb := split_bytes hb
  unfold compareK order
  generalize split a = s at *
  generalize split b = t at *
  obtain ⟨ua, na, ka, ea⟩ := s
  obtain ⟨ub, nb, kb, eb⟩ := t
  simp only at ba bb ⊢
  by_cases h1 : ea = 0
  · refine Conv.iteT h1 (Conv.succ ?_)
    simp only [codec_Compare.j0]
    by_cases h2 : eb = 0
    · rw [if_pos (c := ea = 0 ∧ eb = 0) ⟨h1, h2⟩]
      refine Conv.iteF (by simp [h2]) (Conv.bindc (compare_eq ba bb) ?_)
      by_cases h3 : cmpB ua ub = 0
      · rw [if_neg (c := cmpB ua ub ≠ 0) (by simpa using h3)]
        refine Conv.iteT h3 (Conv.bindc (cmpu_eq _ _) ?_)
        by_cases h4 : na > nb
        · rw [if_pos (c := nb < na) h4, if_pos (c := na > nb ∨ (na = nb ∧ ka > kb)) (by omega)]
          exact Conv.iteF (by decide) (Conv.pure _)
        · rw [if_neg (c := nb < na) h4]
          by_cases h5 : na < nb
          · rw [if_pos (c := nb > na) h5, if_neg (c := na > nb ∨ _) (by omega), if_pos (c := na < nb ∨ _) (by omega)]
            exact Conv.iteF (by decide) (Conv.pure _)
          · rw [if_neg (c := nb > na) h5]
            refine Conv.iteT (by trivial) (Conv.bindc (cmpi_eq _ _) (Conv.eq (Conv.pure _) ?_))
            by_cases h6 : ka > kb
            · rw [if_pos (c := kb < ka) h6, if_pos (c := na > nb ∨ (na = nb ∧ ka > kb)) (by omega)]
            · rw [if_neg (c := kb < ka) h6, if_neg (c := na > nb ∨ _) (by omega)]
              by_cases h7 : ka < kb
              · rw [if_pos (c := kb > ka) h7, if_pos (c := na < nb ∨ (na = nb ∧ ka < kb)) (by omega)]
              · rw [if_neg (c := kb > ka) h7, if_neg (c := na < nb ∨ (na = nb ∧ ka < kb)) (by omega)]
      · rw [if_pos (c := cmpB ua ub ≠ 0) h3]
        exact Conv.iteF h3 (Conv.pure _)
    · rw [if_neg (c := ea = 0 ∧ eb = 0) (by omega)]
      exact Conv.iteT (bne_iff_ne.mpr h2) (Conv.pure _)
  · rw [if_neg (c := ea = 0 ∧ eb = 0) (by omega)]
    refine Conv.iteF h1 (Conv.succ ?_)
    simp only [codec_Compare.j0]
    exact Conv.iteT (by trivial) (Conv.pure _)
theorem is_conv {a : List Int} (ha : Bytes a) (hla : a.length < 140737488355328) : Conv (fun k => moraineref2_Is.f k a) ((split a).2.2.2 == 0) := by
  unfold moraineref2_Is.f
  exact Conv.bind (rsplit_conv ha hla) (Conv.pure _)
theorem split_length (a : List Int) : (split a).1.length ≤ a.length := by
  unfold split
  repeat' split
  · simp
  · simp
  · simp only [List.length_take]; omega
theorem rcompare_conv {a b : List Int} (ha : Bytes a) (hb : Bytes b) (hla : a.length < 140737488355328) (hlb : b.length < 140737488355328) : Conv (fun k => moraineref2_Compare.f k a b) (compareK a b) := by
  unfold moraineref2_Compare.f compareK
  refine Conv.bind (is_conv ha hla) ?_
  by_cases h1 : (split a).2.2.2 = 0
  · refine Conv.iteT (beq_iff_eq.mpr h1) (Conv.bind (is_conv hb hlb) ?_)
    by_cases h2 : (split b).2.2.2 = 0
    · rw [if_pos ⟨h1, h2⟩]
      refine Conv.iteT (beq_iff_eq.mpr h2) ?_
      refine Conv.bind (a := order a b) ?_ (Conv.pure _)
      unfold moraineref2_Order.f order
      refine Conv.bind (rsplit_conv ha hla) (Conv.bind (rsplit_conv hb hlb) ?_)
      have la := split_length a
      have lb := split_length b
      generalize split a = s at *
      generalize split b = t at *
      obtain ⟨ua, na, ka, ea⟩ := s
      obtain ⟨ub, nb, kb, eb⟩ := t
      simp only at la lb ⊢
      refine Conv.bind (rbytes_conv (by omega) (by omega)) ?_
      by_cases h3 : cmpB ua ub = 0
      · rw [if_neg (c := cmpB ua ub ≠ 0) (by simpa using h3)]
        refine Conv.iteT h3 (Conv.ite (fun h4 => ?_) fun h4 => Conv.ite (fun h5 => ?_) fun h5 => ?_)
        · rw [if_pos (c := na > nb ∨ _) (by omega)]
          refine Conv.succ ?_
          simp only [moraineref2_Order.j0]
          exact Conv.iteT (by trivial) (Conv.pure _)
        · refine Conv.succ ?_
          simp only [moraineref2_Order.j0]
          by_cases h6 : ka > kb
          · rw [if_pos (c := na > nb ∨ _) (by omega)]
            exact Conv.iteT (decide_eq_true h6) (Conv.pure _)
          · rw [if_neg (c := na > nb ∨ _) (by omega)]
            refine Conv.iteF (by simp; omega) (Conv.iteF (by omega) (Conv.iteT h5 ?_))
            by_cases h7 : ka < kb
            · rw [if_pos (c := na < nb ∨ _) (by omega)]
              exact Conv.iteT h7 (Conv.pure _)
            · rw [if_neg (c := na < nb ∨ _) (by omega)]
              exact Conv.iteF h7 (Conv.pure _)
        · refine Conv.succ ?_
          simp only [moraineref2_Order.j0]
          rw [if_neg (c := na > nb ∨ _) (by omega), if_pos (c := na < nb ∨ _) (by omega)]
          exact Conv.iteF (by decide) (Conv.iteT (by omega) (Conv.pure _))
      · rw [if_pos (c := cmpB ua ub ≠ 0) h3]
        exact Conv.iteF h3 (Conv.pure _)
    · rw [if_neg (by omega)]
      exact Conv.iteF (by simpa using h2) (Conv.pure _)
  · rw [if_neg (c := (split a).2.2.2 = 0 ∧ _) (by omega)]
    exact Conv.iteF (by simpa using h1) (Conv.pure _)
theorem order_neg (a b : List Int) : order b a = - order a b := by
  unfold order
  rw [cmpB_neg (split a).1 (split b).1]
  have := cmpB_cases (split a).1 (split b).1
  generalize cmpB (split a).1 (split b).1 = m at *
  generalize (split a).2.1 = na
  generalize (split b).2.1 = nb
  generalize (split a).2.2.1 = ka
  generalize (split b).2.2.1 = kb
  by_cases h : m = 0
  · rw [if_neg (c := -m ≠ 0) (by omega), if_neg (c := m ≠ 0) (by omega)]
    by_cases c1 : na > nb ∨ (na = nb ∧ ka > kb)
    · rw [if_pos c1, if_neg (by omega), if_pos (by omega)]; rfl
    · rw [if_neg c1]
      by_cases c2 : na < nb ∨ (na = nb ∧ ka < kb)
      · rw [if_pos c2, if_pos (by omega)]
      · rw [if_neg c2, if_neg (by omega), if_neg (by omega)]; rfl
  · rw [if_pos (c := -m ≠ 0) (by omega), if_pos (c := m ≠ 0) (by omega)]
theorem order_cases (a b : List Int) : order a b = -1 ∨ order a b = 0 ∨ order a b = 1 := by
  unfold order
  have := cmpB_cases (split a).1 (split b).1
  split
  · omega
  · split
    · omega
    · split <;> omega
theorem order_trans {a b c : List Int} (h1 : order a b ≤ 0) (h2 : order b c ≤ 0) : order a c ≤ 0 := by
  unfold order at *
  have p := cmpB_cases (split a).1 (split b).1
  have q := cmpB_cases (split b).1 (split c).1
  have ha : cmpB (split a).1 (split b).1 ≤ 0 := by
    split at h1
    · exact h1
    · omega
  have hb : cmpB (split b).1 (split c).1 ≤ 0 := by
    split at h2
    · exact h2
    · omega
  obtain ⟨t1, t2⟩ := cmpB_trans ha hb
  by_cases h : cmpB (split a).1 (split c).1 = 0
  · obtain ⟨e1, e2⟩ := t2 h
    rw [if_neg (by omega)] at h1 h2
    rw [if_neg (by omega)]
    split
    · omega
    · split
      · split at h1
        · split at h2
          · omega
          · split at h2
            · omega
            · omega
        · split at h1
          · omega
          · split at h2
            · omega
            · split at h2 <;> omega
      · omega
  · rw [if_pos h]; exact t1
theorem order_zero {a b : List Int} (ha : Bytes a) (hb : Bytes b) (ea : (split a).2.2.2 = 0) (eb : (split b).2.2.2 = 0) (h : order a b = 0) : a = b := by
  have key : ∀ {l : List Int}, Bytes l → (split l).2.2.2 = 0 → 8 ≤ l.length ∧ (split l).1 = l.take (l.length - 8) ∧ (split l).2.1 = leVal (l.drop (l.length - 8)) / 256 ∧ (split l).2.2.1 = leVal (l.drop (l.length - 8)) % 256 := by
    intro l hl e
    unfold split at *
    split at e
    · simp at e
    · split at e
      · simp at e
      · rename_i h1 h2
        rw [if_neg h1, if_neg h2]
        exact ⟨by omega, rfl, rfl, rfl⟩
  obtain ⟨a1, a2, a3, a4⟩ := key ha ea
  obtain ⟨b1, b2, b3, b4⟩ := key hb eb
  unfold order at h
  have hc : cmpB (split a).1 (split b).1 = 0 := by
    split at h
    · exact h
    · omega
  rw [if_neg (by omega)] at h
  have hu := cmpB_zero hc
  have hv : leVal (a.drop (a.length - 8)) = leVal (b.drop (b.length - 8)) := by
    split at h
    · omega
    · split at h
      · omega
      · omega
  have inj : ∀ {x y : List Int}, Bytes x → Bytes y → x.length = y.length → leVal x = leVal y → x = y := by
    intro x
    induction x with
    | nil => intro y _ _ h _; exact (List.eq_nil_of_length_eq_zero h.symm).symm
    | cons p x ih =>
      intro y hx hy h e
      cases y with
      | nil => simp at h
      | cons q y =>
        have hp := hx p List.mem_cons_self
        have hq := hy q List.mem_cons_self
        simp only [leVal] at e
        have e1 : p = q := by omega
        have e2 := ih (fun z hz => hx z (List.mem_cons_of_mem _ hz)) (fun z hz => hy z (List.mem_cons_of_mem _ hz)) (by simpa using h) (by omega)
        rw [e1, e2]
  have hd := inj (ha.drop (a.length - 8)) (hb.drop (b.length - 8)) (by simp only [List.length_drop]; omega) hv
  rw [a2, b2] at hu
  rw [← List.take_append_drop (a.length - 8) a, ← List.take_append_drop (b.length - 8) b, hu, hd]
end Go.Proofs.Yteogjahkccmfaaa.Base
