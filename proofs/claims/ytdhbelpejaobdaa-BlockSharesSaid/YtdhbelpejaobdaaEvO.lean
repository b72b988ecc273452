/- One operation after the other: append of a string, of fresh elements; and all operations at once. -/
import Derived.Test.YtdhbelpejaobdaaEvN
namespace Go.Proofs.Ytdhbelpejaobdaa.Ev
open Go Go.RowKit
set_option linter.unusedVariables false
set_option linter.unusedSimpArgs false

section
variable {P : Program} {C : Ctx} {E : Env} {w w0 : World} {base : Nat} {S : List Ent}

theorem zerosB_app : ∀ (as bs : List Ty) (us : List Value), zerosB (as ++ bs) us = true → ∃ u1 u2, us = u1 ++ u2 ∧ zerosB as u1 = true ∧ zerosB bs u2 = true
  | [], bs, us, h => ⟨[], us, rfl, rfl, h⟩
  | a :: as, bs, u :: us, h => by
    simp only [List.cons_append, zerosB, Bool.and_eq_true] at h
    obtain ⟨u1, u2, rfl, h1, h2⟩ := zerosB_app as bs us h.2
    exact ⟨u :: u1, u2, rfl, by simp only [zerosB, Bool.and_eq_true]; exact ⟨h.1, h1⟩, h2⟩
  | _ :: _, _, [], h => by simp [zerosB] at h
theorem zero_scalar [tI : Tst] {m : Mem} {t : Ty} {u : Value} (h : zeroB t u = true) : RepL m t t.dflt [u] := by
  unfold zeroB at h
  split at h
  · exact rfl
  · simp only [Bool.and_eq_true, beq_iff_eq] at h
    obtain ⟨rfl, rfl⟩ := h
    have hr := range_neg ‹IntKind›
    exact ⟨rfl, hr.1, hr.2.1⟩
  · rename_i s
    have hs : s.size = 0 := by simpa using h
    exact ⟨s, rfl, List.eq_nil_of_length_eq_zero (by simp [strInts, hs]), by simp [hs, maxL]⟩
  · exact rfl
  · exact ⟨none, 0, rfl, Nat.le_refl _, Nat.zero_le _, Nat.zero_le _, rfl, rfl⟩
  · simp at h
theorem zeros_repL [tI : Tst] {m : Mem} : ∀ (t : Ty) (us : List Value), zerosB (flatTys t) us = true → RepL m t t.dflt us
  | .bo, [u], h => by simp only [flatTys, zerosB, Bool.and_true] at h; exact zero_scalar h
  | .it k, [u], h => by simp only [flatTys, zerosB, Bool.and_true] at h; exact zero_scalar h
  | .st, [u], h => by simp only [flatTys, zerosB, Bool.and_true] at h; exact zero_scalar h
  | .ni, [u], h => by simp only [flatTys, zerosB, Bool.and_true] at h; exact zero_scalar h
  | .li t, [u], h => by simp only [flatTys, zerosB, Bool.and_true] at h; exact zero_scalar h
  | .ue, [], _ => rfl
  | .co t r, us, h => by
    obtain ⟨u1, u2, rfl, h1, h2⟩ := zerosB_app _ _ _ h
    exact ⟨u1, u2, rfl, zeros_repL t _ h1, zeros_repL r _ h2⟩
  | .ar n t, us, h => by
    have key : ∀ (n : Nat) (us : List Value), zerosB ((List.replicate n (flatTys t)).flatten) us = true → us.length = n * t.size ∧ ∀ i, i < n → RepL m t t.dflt ((us.drop (i * t.size)).take t.size) := by
      intro n
      induction n with
      | zero =>
        intro us h
        cases us with
        | nil => exact ⟨by simp, by intro i hi; omega⟩
        | cons u us => simp [zerosB] at h
      | succ n ih =>
        intro us h
        rw [List.replicate_succ, List.flatten_cons] at h
        obtain ⟨u1, u2, rfl, h1, h2⟩ := zerosB_app _ _ _ h
        obtain ⟨k1, k2⟩ := ih u2 h2
        have k3 := zeros_repL (m := m) t _ h1
        have hl := RepL.len _ _ _ k3
        refine ⟨by rw [List.length_append, hl, k1, Nat.add_mul, Nat.one_mul, Nat.add_comm], fun i hi => ?_⟩
        cases i with
        | zero => rw [Nat.zero_mul, List.drop_zero, ← hl, List.take_left]; exact k3
        | succ i =>
          rw [show (i + 1) * t.size = u1.length + i * t.size from by rw [hl, Nat.add_mul, Nat.one_mul, Nat.add_comm], ← List.drop_drop, List.drop_left]
          exact k2 i (by omega)
    obtain ⟨k1, k2⟩ := key n us h
    refine ⟨List.length_replicate, k1, fun i hi => ?_⟩
    have : (List.replicate n t.dflt)[i]'hi = t.dflt := List.getElem_replicate ..
    show RepL m t ((List.replicate n t.dflt)[i]'hi) _
    rw [this]
    exact k2 i (by simpa [Ty.dflt] using hi)
  | .bo, [], h => by simp [flatTys, zerosB] at h
  | .it _, [], h => by simp [flatTys, zerosB] at h
  | .st, [], h => by simp [flatTys, zerosB] at h
  | .ni, [], h => by simp [flatTys, zerosB] at h
  | .li _, [], h => by simp [flatTys, zerosB] at h
  | .ue, _ :: _, h => by simp [flatTys, zerosB] at h
  | .bo, _ :: _ :: _, h => by simp [flatTys, zerosB] at h
  | .it _, _ :: _ :: _, h => by simp [flatTys, zerosB] at h
  | .st, _ :: _ :: _, h => by simp [flatTys, zerosB] at h
  | .ni, _ :: _ :: _, h => by simp [flatTys, zerosB] at h
  | .li _, _ :: _ :: _, h => by simp [flatTys, zerosB] at h

theorem appArg_string [tI : Tst] (hC : RowsOK P C) {st xt tt e : TypeId} (hst : (C.row st).td = .slice e) (hxt : (C.row xt).td = .str) {t : Ty} (hty : (C.row e).ty = t) {l : List Int} {u : Value} (hx : RepV E (.d .st l) u) {ys : List t.den} (ha : cast? .by (.li t) l = some ys) :
    ∃ news, AppArg P C E w st xt tt e u t ys news ∧ List.length ys ≤ maxL := by
  obtain ⟨s, rfl, rfl, hs⟩ := rep_str_iff.1 hx
  obtain ⟨he, hys⟩ := cast_rep ha
  simp only [Ty.li.injEq] at he
  subst he
  simp only at hys
  subst hys
  have hlen : (strInts s).length = s.size := by simp [strInts]
  have hsz : (C.row e).size = 1 := by rw [← (hC.row (hC.slice hst).2.2.2.1).size, hty]; rfl
  have hcells : s.data.map (fun b => Value.int .u8 b.toNat) = ((strInts s).map (Value.int .u8)).toArray := by
    apply Array.ext'
    simp [strInts, List.map_map, Function.comp_def]
  refine ⟨(strInts s).map (Value.int .u8), appArg_of' hC hst hty (hC.str hxt) (by simp) (ys := strInts s) (fun w => by simp [Builtin.lenOf, hlen]) (fun w' _ => ?_) (by simp [Ty.size]) (by simp [Value.oneCell']) (fun i hi => ?_), by rw [hlen]; exact hs⟩
  · have : (s.extract 0 s.size).data = s.data := by rw [ByteArray.extract_zero_size]
    show (Builtin.firstCells _ (strInts s).length _).run P w' = _
    rw [hlen]
    simp only [Builtin.firstCells, this, hcells]
    rfl
  · have hi' : i < (strInts s).length := hi
    have e1 : (((strInts s).map (Value.int .u8)).drop (i * 1)).take 1 = [Value.int .u8 (strInts s)[i]] := by
      rw [Nat.mul_one, List.drop_eq_getElem_cons (by simpa using hi'), List.take_succ_cons, List.take_zero, List.getElem_map]
    show RepL E.m (.it .u8) (strInts s)[i] ((((strInts s).map (Value.int .u8)).drop (i * 1)).take 1)
    rw [e1]
    refine ⟨rfl, ?_⟩
    have hb : ∃ b : UInt8, (strInts s)[i] = (b.toNat : Int) := by
      have hm := List.getElem_mem hi'
      unfold strInts at hm
      obtain ⟨b, _, hb⟩ := List.mem_map.1 hm
      exact ⟨b, hb.symm⟩
    obtain ⟨b, hb⟩ := hb
    rw [hb]
    exact byte_range b

theorem zeroCells_list (z : Array Value) (hz : 0 < z.size) : ∀ n : Nat, (Builtin.zeroCells z n).toList = (List.replicate n z.toList).flatten := by
  intro n
  induction n with
  | zero => simp [Builtin.zeroCells]
  | succ n ih =>
    have : (Builtin.zeroCells z (n + 1)).toList = (Builtin.zeroCells z n).toList ++ z.toList := by
      apply List.ext_getElem
      · simp [Builtin.zeroCells, Nat.add_mul]
      · intro i h1 h2
        simp only [Builtin.zeroCells, Array.size_map, Array.size_range, Array.length_toList] at h1
        simp only [Builtin.zeroCells, Array.getElem_toList, Array.getElem_map, Array.getElem_range, List.getElem_append, Array.length_toList, Array.size_map, Array.size_range]
        have hlt : i % z.size < z.size := Nat.mod_lt _ hz
        split
        · rfl
        · rename_i h
          rw [Nat.add_mul, Nat.one_mul] at h1
          have : i % z.size = i - n * z.size := by
            have e1 : i = (i - n * z.size) + n * z.size := by omega
            conv => lhs; rw [e1]
            rw [Nat.add_mul_mod_self_right, Nat.mod_eq_of_lt (by omega)]
          rw [getElem!_pos z _ hlt]
          congr 1
    rw [this, ih, List.replicate_succ', List.flatten_append]
    simp

theorem appArg_zeros [tI : Tst] (hC : RowsOK P C) {st xt tt e : TypeId} (hst : (C.row st).td = .slice e) {k : IntKind} (hxt : (C.row xt).td = .int k) {j : IntKind} {n : Int} (h0 : 0 ≤ n) (h1 : n ≤ 140737488355328) (hb : n.toNat * (C.row e).bytes ≤ 140737488355328) :
    ∃ news, AppArg P C E w st xt tt e (.int j n) (C.row e).ty (List.replicate n.toNat (C.row e).ty.dflt) news ∧ n.toNat ≤ maxL := by
  obtain ⟨hu, -, -, he, hpos⟩ := hC.slice hst
  have hsz := (hC.row he).size
  obtain ⟨i, z, i1, i2, i3, i4, i5⟩ := (hC.row he).info
  have hs : ∀ w, (sizeOf e).run P w = .ok (C.row e).size w := fun w => size_pos_info hC he
  have hxu := (hC.int hxt).1
  have hzr : RepL E.m (C.row e).ty (C.row e).ty.dflt z.cells.toList := zeros_repL _ _ (by rw [(hC.row he).flat]; exact i5)
  have hzl : z.cells.size = (C.row e).size := by have := RepL.len _ _ _ hzr; simp at this; omega
  have hwrap : IntKind.i64.wrap n = n := by simp [IntKind.wrap, IntKind.bits, IntKind.signed]; omega
  have hn0 : ¬ n < 0 := by omega
  have hnb : ¬ (281474976710656 : Int) < n * (i.bytes : Int) := by
    rw [i3]
    have : n * ((C.row e).bytes : Int) = ((n.toNat * (C.row e).bytes : Nat) : Int) := by rw [Int.natCast_mul]; congr 1; omega
    omega
  have hlist := zeroCells_list z.cells (by omega)
  have hlen : ∀ m, (Builtin.zeroCells z.cells m).toList.length = m * (C.row e).size := by intro m; simp [Builtin.zeroCells, hzl]
  have hel : ∀ m i, i < m → (((Builtin.zeroCells z.cells m).toList).drop (i * (C.row e).size)).take (C.row e).size = z.cells.toList := by
    intro m
    rw [hlist m]
    induction m with
    | zero => intro i hi; omega
    | succ m ih =>
      intro i hi
      rw [List.replicate_succ, List.flatten_cons]
      have hl : z.cells.toList.length = (C.row e).size := by simpa using hzl
      cases i with
      | zero => rw [Nat.zero_mul, List.drop_zero, ← hl, List.take_left]
      | succ i => rw [show (i + 1) * (C.row e).size = z.cells.toList.length + i * (C.row e).size from by rw [hl, Nat.add_mul, Nat.one_mul, Nat.add_comm], ← List.drop_drop, List.drop_left]; exact ih i (by omega)
  have hlr : List.length (List.replicate n.toNat (C.row e).ty.dflt) = n.toNat := List.length_replicate
  have happ : ∀ w, (if n.toNat * (C.row e).size = 0 then pure #[] else do pure (Builtin.zeroCells (← zeroValue e).cells n.toNat) : Sem (Array Value)).run P w = .ok (Builtin.zeroCells z.cells n.toNat).toList.toArray w := by
    intro w
    have hz : (zeroValue e).run P w = .ok z w := by simp [zeroValue, typeInfo, i1, i4]
    by_cases h : n.toNat * (C.row e).size = 0
    · have : (Builtin.zeroCells z.cells n.toNat).toList = [] := List.eq_nil_of_length_eq_zero (by rw [hlen]; exact h)
      rw [this, if_pos h]; rfl
    · rw [if_neg h]; simp [hz]
  refine ⟨(Builtin.zeroCells z.cells n.toNat).toList, ⟨?_, ?_, ?_, ?_, ?_, ?_⟩, by simp only [maxL]; omega⟩
  · rw [hlen, hlr, hsz]
  · intro u hu'
    rw [hlist] at hu'
    obtain ⟨l, hl, hul⟩ := List.mem_flatten.1 hu'
    rw [(List.mem_replicate.1 hl).2] at hul
    exact RepL.one _ _ _ hzr u hul
  · intro i hi
    rw [hlr] at hi
    rw [hsz, hel _ _ hi, List.getElem_replicate]
    exact hzr
  · intro hl0 a m cap hm
    rw [hlr] at hl0
    have hn : n = 0 := by omega
    subst hn
    cases a <;> simp [Builtin.append_, run_underlying hu, run_underlying hxu, hs, asInt, asIntOf, IntKind.wrap, IntKind.bits, IntKind.signed, typeInfo, i1, hm, storeCells]
  · intro g m cap cur ty hg hroom hfit
    rw [hlr] at hroom ⊢
    have h2 := happ w
    have hst' := run_storeCells_at P g (m * (C.row e).size) ty (Builtin.zeroCells z.cells n.toNat).toList 0 cur w hg (by rw [← hsz]; simpa using hfit) (by
      intro u hu'
      rw [hlist] at hu'
      obtain ⟨l, hl, hul⟩ := List.mem_flatten.1 hu'
      rw [(List.mem_replicate.1 hl).2] at hul
      exact RepL.one _ _ _ hzr u hul)
    simp only [Nat.add_zero] at hst'
    rw [hsz]
    simp [Builtin.append_, run_underlying hu, run_underlying hxu, hs, asInt, asIntOf, hwrap, hn0, typeInfo, i1, hnb, hroom]
    have hzv : (zeroValue e).run P w = .ok z w := by simp [zeroValue, typeInfo, i1, i4]
    by_cases h : n.toNat * (C.row e).size = 0
    · have hnil : (Builtin.zeroCells z.cells n.toNat).toList = [] := List.eq_nil_of_length_eq_zero (by rw [hlen]; exact h)
      have hsz0 : (Builtin.zeroCells z.cells n.toNat).size = 0 := by simpa using congrArg List.length hnil
      rw [hnil] at hst'
      rw [if_pos h, Addr.add_lit, Nat.zero_add, hst', hnil, hsz0]
      simp
    · rw [if_neg h]
      simp [hzv, Addr.add_lit, hst']
  · intro a m cap olds hfo hg h63 hb'
    rw [hlr] at hg h63 hb' ⊢
    rw [hsz] at hfo
    have hn : ¬ (m + n.toNat ≤ cap) := by omega
    have h63' : ¬ (9223372036854775807 < ((m : Int) + (n.toNat : Int))) := by omega
    have h63'' : ¬ (9223372036854775807 < ((m : Int) + n)) := by omega
    have hfit := growslice_fits hg hb'
    have h48' : ¬ (281474976710656 < Builtin.nextslicecap (m + n.toNat) cap * i.bytes) := by rw [i3]; omega
    have hzv : ∀ w, (zeroValue e).run P w = .ok z w := by intro w; simp [zeroValue, typeInfo, i1, i4]
    refine ⟨(Builtin.zeroCells z.cells (grownCap w (m + n.toNat) cap e - (m + n.toNat))).toList, by rw [hlen, hsz], ?_⟩
    have h2 := happ w.drew
    simp [Builtin.append_, run_underlying hu, run_underlying hxu, hs, asInt, asIntOf, hwrap, hn0, typeInfo, i1, hnb, hn, h63', h63'', h48', Question.forced, hfo, newRow, grownCap, hzv]
    rw [if_neg (by omega)]
    by_cases h : n.toNat * (C.row e).size = 0
    · have hnil : (Builtin.zeroCells z.cells n.toNat).toList = [] := List.eq_nil_of_length_eq_zero (by rw [hlen]; exact h)
      rw [if_pos h, hnil]
      congr 3
      apply Array.ext'
      simp
    · rw [if_neg h]
      congr 3
      apply Array.ext'
      simp
end
end Go.Proofs.Ytdhbelpejaobdaa.Ev
