/- One operation after the other, continued: numbers, fields, elements, interfaces. -/
import Derived.Test.YtdhbelpejaobdaaEvD
namespace Go.Proofs.Ytdhbelpejaobdaa.Ev
open Go Go.RowKit
set_option linter.unusedVariables false
set_option linter.unusedSimpArgs false

section
variable {P : Program} {E : Env} {w : World}
theorem eqGuard_pure (op : BinOp) (t : TypeId) (x y : Operand) (a b : Value) (h : oneC a = true ∧ (∀ z, a = z → z ≠ .nilIface)) : (eqGuard op t x y a b).run P w = .ok () w := by
  unfold eqGuard
  cases op <;> (try rfl) <;> (cases a <;> simp_all [oneC])

theorem binI_ok [tI : Tst] {op : BinOp} {k j : IntKind} {a b : Int} {g : Bool} {v : V} {t : TypeId} (h : binI op k a j b = some (g, v)) (hg : g = true)
    (ha : k.min ≤ a ∧ a ≤ k.max) : ∃ u, (binOp op t (.int k a) (.int j b)).run P w = .ok u w ∧ RepV E v u := by
  unfold binI at h
  cases op <;> simp only [] at h
  case shl =>
    simp only [Option.some.injEq, Prod.mk.injEq] at h
    obtain ⟨rfl, rfl⟩ := h
    have hb := tst_iff.1 hg
    refine ⟨_, ?_, rep_int (wrap_range _ _)⟩
    simp [binOp, Op.shift, show ¬ b < 0 by omega]
  case shr =>
    simp only [Option.some.injEq, Prod.mk.injEq] at h
    obtain ⟨rfl, rfl⟩ := h
    have hb := tst_iff.1 hg
    refine ⟨_, ?_, rep_int (fdiv_range _ ha)⟩
    simp [binOp, Op.shift, show ¬ b < 0 by omega]
  all_goals
    split at h
    case isFalse => simp at h
    rename_i hk
    subst hk
    simp only [Option.some.injEq, Prod.mk.injEq] at h
  case add => obtain ⟨rfl, rfl⟩ := h; exact ⟨_, by simp [binOp, Op.intArith], rep_int (wrap_range _ _)⟩
  case sub => obtain ⟨rfl, rfl⟩ := h; exact ⟨_, by simp [binOp, Op.intArith], rep_int (wrap_range _ _)⟩
  case mul => obtain ⟨rfl, rfl⟩ := h; exact ⟨_, by simp [binOp, Op.intArith], rep_int (wrap_range _ _)⟩
  case quo =>
    obtain ⟨rfl, rfl⟩ := h
    have hb : ¬ b = 0 := tst_not.1 (by simpa using hg)
    exact ⟨_, by simp [binOp, Op.intDiv, hb], rep_int (wrap_range _ _)⟩
  case rem =>
    obtain ⟨rfl, rfl⟩ := h
    have hb : ¬ b = 0 := tst_not.1 (by simpa using hg)
    exact ⟨_, by simp [binOp, Op.intDiv, hb], rep_int (tmod_range ha)⟩
  case and => obtain ⟨rfl, rfl⟩ := h; exact ⟨_, by simp [binOp]; rfl, rep_int (wrap_range _ _)⟩
  case or => obtain ⟨rfl, rfl⟩ := h; exact ⟨_, by simp [binOp]; rfl, rep_int (wrap_range _ _)⟩
  case xor => obtain ⟨rfl, rfl⟩ := h; exact ⟨_, by simp [binOp]; rfl, rep_int (wrap_range _ _)⟩
  case andNot => obtain ⟨rfl, rfl⟩ := h; exact ⟨_, by simp [binOp]; rfl, rep_int (wrap_range _ _)⟩
  case eql => obtain ⟨rfl, rfl⟩ := h; rw [tst_eq]; exact ⟨_, by simp [binOp, Op.intCmp]; rfl, rep_bool _⟩
  case neq =>
    obtain ⟨rfl, rfl⟩ := h
    rw [tst_eq, show decide (a ≠ b) = (a != b) from by by_cases e : a = b <;> simp [e]]
    exact ⟨_, by simp [binOp, Op.intCmp], rep_bool _⟩
  case lss => obtain ⟨rfl, rfl⟩ := h; rw [tst_eq]; exact ⟨_, by simp [binOp, Op.intCmp], rep_bool _⟩
  case leq => obtain ⟨rfl, rfl⟩ := h; rw [tst_eq]; exact ⟨_, by simp [binOp, Op.intCmp], rep_bool _⟩
  case gtr => obtain ⟨rfl, rfl⟩ := h; rw [tst_eq]; exact ⟨_, by simp [binOp, Op.intCmp], rep_bool _⟩
  case geq => obtain ⟨rfl, rfl⟩ := h; rw [tst_eq]; exact ⟨_, by simp [binOp, Op.intCmp], rep_bool _⟩

theorem strInts_inj {a b : ByteArray} (h : strInts a = strInts b) : a.toList = b.toList := by
  rw [ByteArray.toList_eq, ByteArray.toList_eq]
  unfold strInts at h
  refine (List.map_inj_right (f := fun b : UInt8 => (b.toNat : Int)) (fun x y e => ?_)).1 h
  have : x.toNat = y.toNat := by exact_mod_cast e
  exact UInt8.toNat_inj.1 this
theorem strInts_eq [tI : Tst] (a b : ByteArray) : (a.toList == b.toList) = decide (strInts a = strInts b) := by
  by_cases e : strInts a = strInts b
  · simp [e, strInts_inj e]
  · have : ¬ a.toList = b.toList := fun k => e (by unfold strInts; rw [← ByteArray.toList_eq, ← ByteArray.toList_eq, k])
    simp [e, this]

theorem isNil_rep [tI : Tst] {v : V} {u : Value} {b : Bool} (h : isNil v = some b) (r : RepV E v u) : ∃ a, u = .pointer a ∧ a.isNone = b := by
  cases v with
  | d t x =>
    cases t <;> simp [isNil] at h
    subst h
    exact ⟨none, rep_nil_iff.1 r, rfl⟩
  | p o a => simp [isNil] at h; subst h; simp only [RepV] at r; exact ⟨_, r.2, rfl⟩
  | ro t x => simp [isNil] at h; subst h; simp only [RepV] at r; obtain ⟨b, off, us, h1, _⟩ := r; exact ⟨_, h1, rfl⟩
  | pr o i s => simp [isNil] at h; subst h; simp only [RepV] at r; exact ⟨_, r.2.2, rfl⟩
  | _ => simp [isNil] at h

theorem equal_bool {t : TypeId} (h : P.underlying t = some .bool) (p q : Bool) : (Op.equal t (.bool p) (.bool q)).run P w = .ok (p == q) w := by
  have key : ∀ d, (Op.equalIn (d + 1) t (.bool p) (.bool q)).run P w = .ok (p == q) w := by intro d; simp [Op.equalIn, run_underlying h]
  exact key 9999
theorem equal_nil {t e : TypeId} (h : P.underlying t = some (.pointer e)) (c d : Option Addr) (hor : (c.isNone || d.isNone) = true) : (Op.equal t (.pointer c) (.pointer d)).run P w = .ok (c.isNone && d.isNone) w := by
  have key : ∀ n, (Op.equalIn (n + 1) t (.pointer c) (.pointer d)).run P w = .ok (c.isNone && d.isNone) w := by
    intro n
    cases c with
    | none => simp [Op.equalIn, run_underlying h]
    | some c =>
      cases d with
      | none => simp [Op.equalIn, run_underlying h]
      | some d => simp at hor
  exact key 9999
theorem nilS_rep [tI : Tst] {x : V} {a : Value} {g b : Bool} (h : nilS x = some (g, b)) (hg : g = true) (r : RepV E x a) : ∃ ad l c, a = .slice ad l c ∧ ad.isNone = b := by
  have li : ∀ {t : Ty} {xs : List t.den}, RepL E.m (.li t) xs [a] → 0 < List.length xs → ∃ ad l c, a = .slice ad l c ∧ ad.isNone = false := by
    intro t xs r hl
    obtain ⟨ad, c, hu, h1, h2, h3, h4⟩ := r
    simp only [List.cons.injEq, and_true] at hu
    subst hu
    cases ad with
    | none => have : List.length xs = 0 := h4.1; omega
    | some ad => exact ⟨_, _, _, rfl, rfl⟩
  cases x with
  | nils => simp only [nilS, Option.some.injEq, Prod.mk.injEq] at h; obtain ⟨-, rfl⟩ := h; simp only [RepV] at r; exact ⟨_, _, _, r, rfl⟩
  | nn t xs => simp only [nilS, Option.some.injEq, Prod.mk.injEq] at h; obtain ⟨-, rfl⟩ := h; simp only [RepV] at r; obtain ⟨-, ad, l, c, r⟩ := r; exact ⟨_, _, _, r, rfl⟩
  | d t xs =>
    cases t <;> simp [nilS] at h
    obtain ⟨rfl, rfl⟩ := h
    exact li (rep_li_iff.1 r) (tst_iff.1 hg)
  | own o t xs =>
    simp only [nilS, Option.some.injEq, Prod.mk.injEq] at h
    obtain ⟨rfl, rfl⟩ := h
    simp only [RepV] at r
    exact li (repl_sub.2 r.1) (tst_iff.1 hg)
  | _ => simp [nilS] at h
theorem equal_slice {t e : TypeId} (h : P.underlying t = some (.slice e)) (ad : Option Addr) (l c : Nat) : (Op.equal t (.slice ad l c) (.slice none 0 0)).run P w = .ok ad.isNone w := by
  have key : ∀ n, (Op.equalIn (n + 1) t (.slice ad l c) (.slice none 0 0)).run P w = .ok ad.isNone w := by
    intro n
    cases ad with
    | none => simp [Op.equalIn, run_underlying h]
    | some ad => simp [Op.equalIn, run_underlying h]
  exact key 9999
theorem nilV_ok [tI : Tst] {C : Ctx} (hC : RowsOK P C) {t : TypeId} {op : BinOp} {x y : V} {a b : Value} {g : Bool} {v : V} (h : nilV (C.row t).td op x y = some (g, v)) (hg : g = true)
    (hx : RepV E x a) (hy : RepV E y b) (ox oy : Operand) :
    ∃ u, (do eqGuard op t ox oy a b; binOp op t a b : Sem Value).run P w = .ok u w ∧ RepV E v u := by
  unfold nilV at h
  split at h
  · rename_i e htd
    simp only [RepV] at hy
    subst hy
    have hu := (hC.slice htd).1
    split at h
    · simp only [Option.map_eq_some_iff, Prod.mk.injEq] at h
      obtain ⟨⟨g', r⟩, h1, h2, rfl⟩ := h
      subst h2
      obtain ⟨ad, l, c, rfl, rfl⟩ := nilS_rep h1 hg hx
      refine ⟨.bool ad.isNone, ?_, rep_bool _⟩
      rw [Sem.run_bind, eqGuard_pure _ _ _ _ _ _ ⟨rfl, by rintro z rfl; simp⟩]
      simp [binOp, equal_slice hu]
    · simp only [Option.map_eq_some_iff, Prod.mk.injEq] at h
      obtain ⟨⟨g', r⟩, h1, h2, rfl⟩ := h
      subst h2
      obtain ⟨ad, l, c, rfl, rfl⟩ := nilS_rep h1 hg hx
      refine ⟨.bool (!ad.isNone), ?_, rep_bool _⟩
      rw [Sem.run_bind, eqGuard_pure _ _ _ _ _ _ ⟨rfl, by rintro z rfl; simp⟩]
      simp [binOp, equal_slice hu]
    · simp at h
  · simp at h
theorem binV_ok [tI : Tst] {C : Ctx} (hC : RowsOK P C) {t : TypeId} {op : BinOp} {x y : V} {a b : Value} {g : Bool} {v : V} (h : binV (C.row t).td op x y = some (g, v)) (hg : g = true)
    (hx : RepV E x a) (hy : RepV E y b) (ox oy : Operand) :
    ∃ u, (do eqGuard op t ox oy a b; binOp op t a b : Sem Value).run P w = .ok u w ∧ RepV E v u := by
  unfold binV at h
  split at h
  · obtain ⟨rfl, ha⟩ := rep_int_iff.1 hx
    obtain ⟨rfl, hb⟩ := rep_int_iff.1 hy
    obtain ⟨u, h1, h2⟩ := binI_ok (P := P) (w := w) (t := t) h hg ha
    exact ⟨u, by rw [Sem.run_bind, eqGuard_pure _ _ _ _ _ _ ⟨rfl, by rintro z rfl; simp⟩]; exact h1, h2⟩
  · obtain rfl := rep_bool_iff.1 hx
    obtain rfl := rep_bool_iff.1 hy
    split at h
    · rename_i p q _ _ htd
      simp only [Option.some.injEq, Prod.mk.injEq] at h
      obtain ⟨rfl, rfl⟩ := h
      refine ⟨.bool (p == q), ?_, ?_⟩
      · rw [Sem.run_bind, eqGuard_pure _ _ _ _ _ _ ⟨rfl, by rintro z rfl; simp⟩]
        simp [binOp, equal_bool (hC.bool htd)]
      · rw [tst_eq]; exact rep_bool _
    · rename_i p q _ _ htd
      simp only [Option.some.injEq, Prod.mk.injEq] at h
      obtain ⟨rfl, rfl⟩ := h
      refine ⟨.bool (!(p == q)), ?_, ?_⟩
      · rw [Sem.run_bind, eqGuard_pure _ _ _ _ _ _ ⟨rfl, by rintro z rfl; simp⟩]
        simp [binOp, equal_bool (hC.bool htd)]
      · rw [show (!(p == q)) = decide (p ≠ q) from by cases p <;> cases q <;> rfl, ← tst_eq]; exact rep_bool _
    · simp at h
  · obtain ⟨s, rfl, hs, hs'⟩ := rep_str_iff.1 hx
    obtain ⟨s2, rfl, hs2, hs2'⟩ := rep_str_iff.1 hy
    subst hs; subst hs2
    split at h
    · simp only [Option.some.injEq, Prod.mk.injEq] at h
      obtain ⟨rfl, rfl⟩ := h
      refine ⟨.bool (s.toList == s2.toList), ?_, ?_⟩
      · rw [Sem.run_bind, eqGuard_pure _ _ _ _ _ _ ⟨rfl, by rintro z rfl; simp⟩]; rfl
      · rw [strInts_eq, ← tst_eq]; exact rep_bool _
    · simp only [Option.some.injEq, Prod.mk.injEq] at h
      obtain ⟨rfl, rfl⟩ := h
      refine ⟨.bool (!(s.toList == s2.toList)), ?_, ?_⟩
      · rw [Sem.run_bind, eqGuard_pure _ _ _ _ _ _ ⟨rfl, by rintro z rfl; simp⟩]; rfl
      · rw [strInts_eq, show (!decide (strInts s = strInts s2)) = decide (strInts s ≠ strInts s2) from by simp, ← tst_eq]; exact rep_bool _
    · simp at h
  · split at h
    · rename_i p q htd hp hq
      split at h
      · rename_i hor
        simp only [Option.some.injEq, Prod.mk.injEq] at h
        obtain ⟨rfl, rfl⟩ := h
        obtain ⟨c, rfl, rfl⟩ := isNil_rep hp hx
        obtain ⟨d, rfl, rfl⟩ := isNil_rep hq hy
        refine ⟨.bool (c.isNone && d.isNone), ?_, rep_bool _⟩
        rw [Sem.run_bind, eqGuard_pure _ _ _ _ _ _ ⟨rfl, by rintro z rfl; simp⟩]
        simp [binOp, equal_nil (hC.ptr htd) c d hor]
      · simp at h
    · rename_i p q htd hp hq
      split at h
      · rename_i hor
        simp only [Option.some.injEq, Prod.mk.injEq] at h
        obtain ⟨rfl, rfl⟩ := h
        obtain ⟨c, rfl, rfl⟩ := isNil_rep hp hx
        obtain ⟨d, rfl, rfl⟩ := isNil_rep hq hy
        refine ⟨.bool (!(c.isNone && d.isNone)), ?_, rep_bool _⟩
        rw [Sem.run_bind, eqGuard_pure _ _ _ _ _ _ ⟨rfl, by rintro z rfl; simp⟩]
        simp [binOp, equal_nil (hC.ptr htd) c d hor]
      · simp at h
    · exact nilV_ok hC h hg hx hy ox oy

theorem unV_ok [tI : Tst] {op : UnOp} {x v : V} {a : Value} (h : unV op x = some v) (hx : RepV E x a) : ∃ u, (Op.unary op a).run P w = .ok u w ∧ RepV E v u := by
  unfold unV at h
  split at h
  · obtain ⟨rfl, ha⟩ := rep_int_iff.1 hx
    simp only [Option.some.injEq] at h; subst h
    exact ⟨_, by simp [Op.unary, Op.intArith], rep_int (wrap_range _ _)⟩
  · obtain ⟨rfl, ha⟩ := rep_int_iff.1 hx
    simp only [Option.some.injEq] at h; subst h
    exact ⟨_, by simp only [Op.unary]; rfl, rep_int (wrap_range _ _)⟩
  · obtain rfl := rep_bool_iff.1 hx
    simp only [Option.some.injEq] at h; subst h
    exact ⟨_, by simp [Op.unary], rep_bool _⟩
  · simp at h
end
end Go.Proofs.Ytdhbelpejaobdaa.Ev
