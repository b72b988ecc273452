/- One operation after the other, continued: slices that are built, slices of slices, append. -/
import Derived.Test.YtdhbelpejaobdaaEvK
namespace Go.Proofs.Ytdhbelpejaobdaa.Ev
open Go Go.RowKit
set_option linter.unusedVariables false
set_option linter.unusedSimpArgs false

section
variable {P : Program} {C : Ctx} {E : Env} {w w0 : World} {base : Nat} {S : List Ent}

theorem fill_elems [tI : Tst] {t : Ty} {size : Nat} (hs : t.size = size) : ∀ (ps : List (Nat × V)) (qs : List (Nat × Value)) (k : Nat) (xs : List t.den) (cells : Array Value), elemsV t k ps = some xs → ps.map (·.1) = qs.map (·.1) →
    (∀ (i : Nat) (a : Nat × V) (b : Nat × Value), ps[i]? = some a → qs[i]? = some b → RepV E a.2 b.2) → (k + ps.length) * size ≤ cells.size →
    ∃ cells' : Array Value, Instr.fill (fun i => some (i * size, size)) cells qs = some cells' ∧ cells'.size = cells.size ∧ List.length xs = ps.length ∧ cells'.toList.take (k * size) = cells.toList.take (k * size) ∧
      ∀ i (h : i < List.length xs), RepL E.m t xs[i] ((cells'.toList.drop ((k + i) * size)).take size)
  | [], [], k, xs, cells, h, _, _, _ => by
    simp only [elemsV, Option.some.injEq] at h; subst h
    exact ⟨cells, rfl, rfl, rfl, rfl, by intro i hi; simp at hi⟩
  | (i, v) :: ps, (j, u) :: qs, k, xs, cells, h, hm, hp, hc => by
    simp only [List.map_cons, List.cons.injEq] at hm
    obtain ⟨rfl, hm⟩ := hm
    simp only [elemsV] at h
    split at h
    case isFalse => simp at h
    rename_i hik
    subst hik
    simp only [Option.bind_eq_some_iff, Option.map_eq_some_iff] at h
    obtain ⟨x, h1, ys, h2, rfl⟩ := h
    have hvu := hp 0 (i, v) (i, u) rfl rfl
    obtain ⟨zs, k1, k2⟩ := asT_rep h1 hvu
    have hl := RepL.len _ _ _ k2
    simp only [List.length_cons] at hc
    have hle : i * size + size ≤ cells.size := by
      have : (i + 1) * size ≤ (i + (ps.length + 1)) * size := Nat.mul_le_mul_right _ (by omega)
      rw [Nat.add_mul, Nat.one_mul] at this; omega
    obtain ⟨cells1, l1, l2⟩ := fill_step (rest := qs) (place := fun i => some (i * size, size)) (i := i) rfl k1 (by omega) (cells := cells) hle
    have hl1 : cells1.size = cells.size := by
      have := congrArg List.length l1
      simp only [replL, List.length_append, List.length_take, List.length_drop, Array.length_toList] at this
      omega
    obtain ⟨cells', m1, m2, m3, m4, m5⟩ := fill_elems hs ps qs (i + 1) ys cells1 h2 hm (fun i a b ha hb => hp (i + 1) a b (by simpa using ha) (by simpa using hb)) (by rw [hl1, show i + 1 + ps.length = i + (ps.length + 1) from by omega]; exact hc)
    have hti : (cells.toList.take (i * size)).length = i * size := by simp; omega
    have e1 : cells1.toList.take (i * size) = cells.toList.take (i * size) := by
      rw [l1, replL, List.append_assoc]
      exact List.take_left' hti
    have e2 : (cells1.toList.drop (i * size)).take size = zs := by
      rw [l1, replL, List.append_assoc, List.drop_left' hti, ← hs, ← hl, List.take_left]
    have e3 : cells'.toList.take (i * size) = cells1.toList.take (i * size) := by
      have := congrArg (List.take (i * size)) m4
      rwa [List.take_take, List.take_take, Nat.min_eq_left (Nat.mul_le_mul_right _ (by omega))] at this
    have e4 : (cells'.toList.drop (i * size)).take size = zs := by
      rw [← e2]
      have := congrArg (List.drop (i * size)) m4
      rw [show (i + 1) * size = i * size + size from by rw [Nat.add_mul, Nat.one_mul], List.drop_take, List.drop_take, Nat.add_sub_cancel_left] at this
      exact this
    refine ⟨cells', by rw [l2]; exact m1, by omega, by simp [m3], by rw [e3, e1], ?_⟩
    intro n hn
    cases n with
    | zero => simp only [Nat.add_zero, List.getElem_cons_zero]; rw [e4]; exact k2
    | succ n => rw [show i + (n + 1) = i + 1 + n from by omega]; exact m5 n (by simpa using hn)
  | [], _ :: _, _, _, _, _, hm, _, _ => by simp at hm
  | _ :: _, [], _, _, _, _, hm, _, _ => by simp at hm

theorem buildSlice_ok [tI : Tst] (hC : RowsOK P C) (sim : Sim base w0 E S w) {t e : TypeId} {n : Nat} {ps : Array (Nat × Operand)} {r : Operand → V} {q : Operand → Value} (hr : ∀ x, RepV E (r x) (q x)) {id : Nat} (hid : ¬ E.live id ∧ id < S.length)
    (ht : (C.row t).td = .slice e) (hn : ps.size = n ∧ n * (C.row e).size ≤ 16777216) {xs : List (C.row e).ty.den} (hx : elemsV (C.row e).ty 0 (ps.toList.map fun (i, x) => (i, r x)) = some xs) :
    ∃ z w' E', (Instr.buildSlice t n (ps.map fun (i, x) => (i, q x))).run P w = .ok z w' ∧ E.Le E' ∧ Sim base w0 E' (S.set id (.lit (List.length xs))) w' ∧ RepV E' (.own id (C.row e).ty xs) z ∧ ∀ o, E'.live o → E.live o ∨ o = id := by
  obtain ⟨hu, -, -, he, hpos⟩ := hC.slice ht
  have hes := size_pos_info (P := P) (w := w) hC he
  obtain ⟨i, zv, h1, h2, h3, h4, h5⟩ := (hC.row he).info
  have hcells := (hC.row he).cells
  have hty := (hC.row he).size
  have hzl : zv.cells.size = (C.row e).size := by
    have := (zeros_rep (E := E) _ _ h5).1.length
    simp at this; omega
  have hzero : (zeroValue e).run P w = .ok zv w := by simp [zeroValue, typeInfo, h1, h4]
  obtain ⟨hn1, hn2⟩ := hn
  let start : Array Value := (Array.range (n * (C.row e).size)).map ((if n * (C.row e).size = 0 then #[] else zv.cells)[· % (if n * (C.row e).size = 0 then #[] else zv.cells).size]!)
  have hstart : start.size = n * (C.row e).size := by simp [start]
  obtain ⟨cells, m1, m2, m3, m4, m5⟩ := fill_elems (E := E) hty (ps.toList.map fun (i, x) => (i, r x)) (ps.map fun (i, x) => (i, q x)).toList 0 xs start hx (by simp) (by
    intro i a b ha hb
    simp only [List.getElem?_map, Option.map_eq_some_iff, Array.toList_map] at ha hb
    obtain ⟨c, hc, rfl⟩ := ha
    obtain ⟨d, hd, rfl⟩ := hb
    rw [hc] at hd
    simp only [Option.some.injEq] at hd; subst hd
    exact hr _) (by rw [hstart]; simp [hn1])
  have hxl : List.length xs = n := by rw [m3]; simp [hn1]
  have hnn : n ≤ 16777216 := Nat.le_trans (Nat.le_mul_of_pos_right n hpos) hn2
  obtain ⟨E', k1, k2, k3, k4, k5⟩ := sim.newfam hid (t := (C.row e).ty) (xs := xs) (Wider.alloc w (.cells cells e)) (us := cells.toList) (rest := []) (ty := e) (cap := n) (by simpa using heap_alloc_new w (.cells cells e))
    (by simp [m2, hstart, hxl, hty]) (by simp [m2, hstart, hty]) (by omega) (by simp only [maxLen]; omega) (by simp only [maxL]; omega) (fun i hi => by
      have := m5 i hi
      simp only [Nat.zero_add] at this
      rw [hty]; exact this)
  refine ⟨_, _, E', ?_, k1, k2.tolit hid.2 k5, by rw [hxl] at k3; exact k3, k4⟩
  have hbig : ¬ (n * (C.row e).size > 2 ^ 24) := by omega
  have hfill : Instr.fill (fun i => some (i * (C.row e).size, (C.row e).size)) start (ps.map fun (i, x) => (i, q x)).toList = some cells := m1
  by_cases h0 : n * (C.row e).size = 0
  · have hs0 : start = (Array.range (n * (C.row e).size)).map (fun x => (#[] : Array Value)[x % (#[] : Array Value).size]!) := by simp only [start, h0, if_true]
    rw [hs0] at hfill
    simp only [Instr.buildSlice, Sem.run_bind, run_underlying hu, Result.andThen_ok, hes, Sem.run_ite, if_neg hbig, Sem.run_pure, if_pos h0, hfill, newRow]
    rfl
  · have hs0 : start = (Array.range (n * (C.row e).size)).map (fun x => zv.cells[x % zv.cells.size]!) := by simp only [start, h0, if_false]
    rw [hs0] at hfill
    simp only [Instr.buildSlice, Sem.run_bind, run_underlying hu, Result.andThen_ok, hes, Sem.run_ite, if_neg hbig, Sem.run_pure, if_neg h0, hzero, hfill, newRow]
    rfl

def RepO (E : Env) : Option V → Option Value → Prop
  | none, none => True
  | some v, some u => RepV E v u
  | _, _ => False
theorem bounds_ok [tI : Tst] {n : Nat} {lo hi mx : Option V} {lo' hi' mx' : Option Value} {g : Bool} {a b : Nat} {m : Option Nat} (h : boundsV n lo hi mx = some (g, a, b, m)) (hg : g = true) (h1 : RepO E lo lo') (h2 : RepO E hi hi') (h3 : RepO E mx mx') (sl : Bool) {c : Nat} (hc : n ≤ c) :
    (Instr.sliceBounds sl n c lo' hi' mx').run P w = .ok (a, b, m.getD c) w ∧ a ≤ b ∧ b ≤ n ∧ b ≤ m.getD c ∧ m.getD c ≤ c ∧ (mx = none → m = none) := by
  have num : ∀ {v : Option V} {z : Int} {x : Int}, (match v with | none => some z | some (.d (.it _) a) => some a | _ => none) = some x → (v = none ∧ x = z) ∨ ∃ k, v = some (.d (.it k) x) := by
    intro v z x hv
    split at hv
    · simp only [Option.some.injEq] at hv; exact .inl ⟨rfl, hv.symm⟩
    · simp only [Option.some.injEq] at hv; subst hv; exact .inr ⟨_, rfl⟩
    · simp at hv
  simp only [boundsV, Option.bind_eq_some_iff] at h
  obtain ⟨x, hx, y, hy, h⟩ := h
  have low : ∀ (y : Int) (m : Nat) (code : BoundsCode), (lo = none ∧ y = 0 ∨ ∃ k, lo = some (.d (.it k) y)) → 0 ≤ y → y ≤ (m : Int) →
      (match lo' with | some v => Instr.sliceBound v m code | none => pure 0 : Sem Nat).run P w = .ok y.toNat w := by
    intro y m code hl h0 hm
    rcases hl with ⟨rfl, rfl⟩ | ⟨k, rfl⟩
    · cases lo' with
      | none => simp
      | some u => simp [RepO] at h1
    · cases lo' with
      | none => simp [RepO] at h1
      | some u =>
        obtain ⟨rfl, -⟩ := rep_int_iff.1 h1
        simp [run_sliceBound, h0, hm]
  cases mx with
  | none =>
    cases mx' with
    | some u => simp [RepO] at h3
    | none =>
    simp only [Option.some.injEq, Prod.mk.injEq] at h
    obtain ⟨rfl, rfl, rfl, rfl⟩ := h
    simp only [Bool.and_eq_true, tst_iff] at hg
    obtain ⟨⟨g1, g2⟩, g3⟩ := hg
    refine ⟨?_, by omega, by omega, by simp; omega, by simp, fun _ => rfl⟩
    rcases num hx with ⟨rfl, rfl⟩ | ⟨k, rfl⟩
    · cases hi' with
      | some u => simp [RepO] at h2
      | none =>
      have := low y n .sliceB (num hy) g1 g2
      simp only [Instr.sliceBounds, Sem.run_bind, Sem.run_pure, Result.andThen_ok, Option.isSome_none, Bool.false_eq_true, if_false]
      cases lo' <;> simp_all
    · cases hi' with
      | none => simp [RepO] at h2
      | some u =>
      obtain ⟨rfl, -⟩ := rep_int_iff.1 h2
      have hb : ∀ code, (Instr.sliceBound (.int k x) c code).run P w = .ok x.toNat w := fun code => run_sliceBound w k x c code (by omega) (by omega)
      have hl := low y x.toNat .sliceB (num hy) g1 (by omega)
      simp only [Instr.sliceBounds, Sem.run_bind, Sem.run_pure, Result.andThen_ok, Option.isSome_none, Bool.false_eq_true, if_false, hb]
      cases lo' <;> simp_all
  | some mv =>
    cases mx' with
    | none => simp [RepO] at h3
    | some mu =>
    simp only [] at h
    split at h
    · simp at h
    rename_i hhi
    simp only [Option.map_eq_some_iff] at h
    obtain ⟨z, hz, h⟩ := h
    simp only [Prod.mk.injEq] at h
    obtain ⟨rfl, rfl, rfl, rfl⟩ := h
    simp only [Bool.and_eq_true, tst_iff] at hg
    obtain ⟨⟨⟨g1, g2⟩, g3⟩, g4⟩ := hg
    obtain ⟨km, hkm⟩ : ∃ k, mv = .d (.it k) z := by
      rcases num hz with ⟨hh, _⟩ | ⟨k, hk⟩
      · simp at hh
      · exact ⟨k, by simpa using hk⟩
    subst hkm
    obtain ⟨rfl, -⟩ := rep_int_iff.1 h3
    refine ⟨?_, by omega, by omega, by simp; omega, by simp; omega, fun h => by simp at h⟩
    have hm : ∀ code, (Instr.sliceBound (.int km z) c code).run P w = .ok z.toNat w := fun code => run_sliceBound w km z c code (by omega) (by omega)
    rcases num hx with ⟨rfl, rfl⟩ | ⟨k, rfl⟩
    · simp at hhi
    · cases hi' with
      | none => simp [RepO] at h2
      | some u =>
      obtain ⟨rfl, -⟩ := rep_int_iff.1 h2
      have hb : ∀ code, (Instr.sliceBound (.int k x) z.toNat code).run P w = .ok x.toNat w := fun code => run_sliceBound w k x _ code (by omega) (by omega)
      have hl := low y x.toNat .slice3C (num hy) g1 (by omega)
      simp only [Instr.sliceBounds, Sem.run_bind, Sem.run_pure, Result.andThen_ok, Option.isSome_some, if_true, hm, hb]
      cases lo' <;> simp_all
end
end Go.Proofs.Ytdhbelpejaobdaa.Ev
