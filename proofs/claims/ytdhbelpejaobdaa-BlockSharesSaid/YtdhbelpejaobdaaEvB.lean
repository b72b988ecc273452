/- What it means that a value of the walker's stands for one of the machine's: by cells that are known to lie in memory. -/
import Derived.Test.YtdhbelpejaobdaaEvA
import Derived.Below
import Derived.Laws.AppendOwn
import Derived.ArgAppend
namespace Go.Proofs.Ytdhbelpejaobdaa.Ev
open Go Go.RowKit

/-- cells that are known -/
abbrev Mem := Nat → Nat → Option Value
def Mem.le (m m' : Mem) : Prop := ∀ b o v, m b o = some v → m' b o = some v
def Mem.lies (m : Mem) (w : World) : Prop := ∀ b o v, m b o = some v → w.cell? ⟨b, o, none⟩ = some v
theorem Mem.le.refl (m : Mem) : m.le m := fun _ _ _ h => h
theorem Mem.le.trans {a b c : Mem} (h : a.le b) (k : b.le c) : a.le c := fun x y v e => k x y v (h x y v e)
def Lies (m : Mem) (b off : Nat) (us : List Value) : Prop := ∀ i u, us[i]? = some u → m b (off + i) = some u
theorem Lies.mono {m m' : Mem} (hm : m.le m') {b off : Nat} {us : List Value} (h : Lies m b off us) : Lies m' b off us := fun i u hu => hm _ _ _ (h i u hu)

def maxL : Nat := 140737488355328

def RepL (m : Mem) : (t : Ty) → t.den → List Value → Prop
  | .bo, x, us => us = [.bool x]
  | .it k, n, us => us = [.int k n] ∧ k.min ≤ n ∧ n ≤ k.max
  | .st, l, us => ∃ s : ByteArray, us = [.string s] ∧ strInts s = l ∧ s.size ≤ maxL
  | .ni, _, us => us = [.pointer none]
  | .li t, xs, us => ∃ a c, us = [.slice a (List.length xs) c] ∧ List.length xs ≤ c ∧ List.length xs ≤ maxL ∧ c ≤ maxLen ∧
      match a with
      | none => List.length xs = 0 ∧ c = 0
      | some ad => (0 < c → ad.spot = none) ∧ ∀ i (h : i < List.length xs), ∃ vs, Lies m ad.block (ad.off + i * t.size) vs ∧ RepL m t xs[i] vs
  | .ue, _, us => us = []
  | .co t r, x, us => ∃ u1 u2, us = u1 ++ u2 ∧ RepL m t x.1 u1 ∧ RepL m r x.2 u2
  | .ar n t, xs, us => List.length xs = n ∧ us.length = n * t.size ∧ ∀ i (h : i < List.length xs), RepL m t xs[i] ((us.drop (i * t.size)).take t.size)

theorem RepL.mono [tI : Tst] {m m' : Mem} (hm : m.le m') : ∀ (t : Ty) (x : t.den) (us : List Value), RepL m t x us → RepL m' t x us
  | .bo, _, _, h => h
  | .it _, _, _, h => h
  | .st, _, _, h => h
  | .ni, _, _, h => h
  | .li t, xs, us, h => by
    obtain ⟨a, c, h1, h2, h3, h4, h5⟩ := h
    refine ⟨a, c, h1, h2, h3, h4, ?_⟩
    cases a with
    | none => exact h5
    | some ad =>
      refine ⟨h5.1, fun i hi => ?_⟩
      obtain ⟨vs, hv, hr⟩ := h5.2 i hi
      exact ⟨vs, hv.mono hm, RepL.mono hm t _ _ hr⟩
  | .ue, _, _, h => h
  | .co t r, _, _, h => by
    obtain ⟨u1, u2, h1, h2, h3⟩ := h
    exact ⟨u1, u2, h1, RepL.mono hm t _ _ h2, RepL.mono hm r _ _ h3⟩
  | .ar n t, _, _, h => ⟨h.1, h.2.1, fun i hi => RepL.mono hm t _ _ (h.2.2 i hi)⟩

theorem RepL.len {m : Mem} : ∀ (t : Ty) (x : t.den) (us : List Value), RepL m t x us → us.length = t.size
  | .bo, _, _, h => by rw [show _ = _ from h]; rfl
  | .it _, _, _, h => by rw [h.1]; rfl
  | .st, _, _, h => by obtain ⟨s, rfl, _⟩ := h; rfl
  | .ni, _, _, h => by rw [show _ = _ from h]; rfl
  | .li _, _, _, h => by obtain ⟨a, c, rfl, _⟩ := h; rfl
  | .ue, _, _, h => by rw [show _ = _ from h]; rfl
  | .co t r, _, _, h => by
    obtain ⟨u1, u2, rfl, h2, h3⟩ := h
    rw [List.length_append, RepL.len t _ _ h2, RepL.len r _ _ h3]; rfl
  | .ar n t, _, _, h => h.2.1

theorem mem_of_arr {us : List Value} {n s : Nat} (hl : us.length = n * s) {u : Value} (hu : u ∈ us) : ∃ i, i < n ∧ u ∈ (us.drop (i * s)).take s := by
  obtain ⟨j, hj, rfl⟩ := List.getElem_of_mem hu
  have hs : 0 < s := by
    rcases Nat.eq_zero_or_pos s with h | h
    · subst h; rw [Nat.mul_zero] at hl; omega
    · exact h
  refine ⟨j / s, ?_, ?_⟩
  · exact Nat.div_lt_of_lt_mul (by rw [Nat.mul_comm]; omega)
  · have e : j / s * s + j % s = j := by rw [Nat.mul_comm]; exact Nat.div_add_mod j s
    have hm : j % s < s := Nat.mod_lt _ hs
    have hlt : j % s < ((us.drop (j / s * s)).take s).length := by simp only [List.length_take, List.length_drop]; omega
    have : ((us.drop (j / s * s)).take s)[j % s] = us[j] := by simp only [List.getElem_take, List.getElem_drop]; congr 1
    rw [← this]
    exact List.getElem_mem hlt

theorem RepL.one [tI : Tst] {m : Mem} : ∀ (t : Ty) (x : t.den) (us : List Value), RepL m t x us → ∀ u ∈ us, u.oneCell' = true
  | .bo, _, _, h => by rw [show _ = _ from h]; simp [Value.oneCell']
  | .it _, _, _, h => by rw [h.1]; simp [Value.oneCell']
  | .st, _, _, h => by obtain ⟨s, rfl, _⟩ := h; simp [Value.oneCell']
  | .ni, _, _, h => by rw [show _ = _ from h]; simp [Value.oneCell']
  | .li _, _, _, h => by obtain ⟨a, c, rfl, _⟩ := h; simp [Value.oneCell']
  | .ue, _, _, h => by rw [show _ = _ from h]; simp
  | .co t r, _, _, h => by
    obtain ⟨u1, u2, rfl, h2, h3⟩ := h
    intro u hu
    rcases List.mem_append.1 hu with hu | hu
    · exact RepL.one t _ _ h2 u hu
    · exact RepL.one r _ _ h3 u hu
  | .ar n t, _, _, h => by
    intro u hu
    obtain ⟨i, hi, hm⟩ := mem_of_arr h.2.1 hu
    exact RepL.one t _ _ (h.2.2 i (by rw [h.1]; exact hi)) u hm

/-- a value's cells, as the machine holds them together -/
def toV (g : Bool) (us : List Value) : Value := if g then .agg us.toArray else us.headD undef
def RepD (m : Mem) (t : Ty) (x : t.den) (v : Value) : Prop := ∃ us, RepL m t x us ∧ v = toV t.agg us
theorem RepD.mono [tI : Tst] {m m' : Mem} (hm : m.le m') {t : Ty} {x : t.den} {v : Value} (h : RepD m t x v) : RepD m' t x v := by
  obtain ⟨us, h1, h2⟩ := h; exact ⟨us, RepL.mono hm _ _ _ h1, h2⟩
theorem size_one {t : Ty} (h : t.agg = false) : t.size = 1 := by cases t <;> first | rfl | simp [Ty.agg] at h
theorem RepL.single [tI : Tst] {m : Mem} {t : Ty} {x : t.den} {us : List Value} (h : RepL m t x us) (hg : t.agg = false) : ∃ u, us = [u] := by
  have := RepL.len _ _ _ h
  rw [size_one hg] at this
  exact List.length_eq_one_iff.1 this
theorem toV_cells {us : List Value} {g : Bool} (h1 : ∀ u ∈ us, u.oneCell' = true) (hg : g = false → ∃ u, us = [u]) : (toV g us).cells = us.toArray := by
  cases g with
  | true => simp [toV, Value.cells]
  | false =>
    obtain ⟨u, rfl⟩ := hg rfl
    have := h1 u (by simp)
    simp only [toV, List.headD, Bool.false_eq_true, if_false]
    cases u <;> simp_all [Value.cells, Value.oneCell']
theorem RepD.cells [tI : Tst] {m : Mem} {t : Ty} {x : t.den} {v : Value} (h : RepD m t x v) : ∃ us, RepL m t x us ∧ v = toV t.agg us ∧ v.cells = us.toArray := by
  obtain ⟨us, h1, rfl⟩ := h
  exact ⟨us, h1, rfl, toV_cells (RepL.one _ _ _ h1) fun hg => h1.single hg⟩

/-- where things of the function's own lie -/
structure Env where
  m : Mem
  blk : Nat → Nat
  sz : Nat → Nat
  plc : Nat → Value
  len : Nat → Nat
  ex : Nat → Option Nat
  live : Nat → Prop
  /-- what was known at first -/
  m0 : Mem

mutual
def RepV (E : Env) : V → Value → Prop
  | .bad, _ => True
  | .un, v => v = undef
  | .nils, v => v = .slice none 0 0
  | .d t x, v => RepD E.m t x v
  | .own o t xs, v => RepD E.m (.li t) xs v ∧ E.live o ∧ E.sz o = t.size ∧ List.length xs ≤ E.len o ∧ (List.length xs = E.len o → v = E.plc o)
  | .p o a, v => E.live o ∧ v = .pointer (some ⟨E.blk o, a, none⟩)
  | .ro t x, v => ∃ b off us, v = .pointer (some ⟨b, off, none⟩) ∧ RepL E.m t x us ∧ Lies E.m b off us
  | .sr o a n c s, v => E.live o ∧ E.sz o = s ∧ (∃ ad, v = .slice (some ad) n c ∧ (0 < c → ad = ⟨E.blk o, a * s, none⟩)) ∧ n ≤ c ∧ n ≤ maxL
  | .pr o i s, v => E.live o ∧ E.sz o = s ∧ v = .pointer (some ⟨E.blk o, i * s, none⟩)
  | .agg cs, v => ∃ us : List Value, v = .agg us.toArray ∧ RepVs E cs us ∧ ∀ u ∈ us, u.oneCell' = true
  | .tup vs, v => ∃ us : List Value, v = .tuple us.toArray ∧ RepVs E vs us
  | .fn f fs cs, v => ∃ zs us : List Value, v = .func (.func f) zs.toArray us.toArray ∧ RepVs E fs zs ∧ RepVs E cs us
  | .ifc t x, v => ∃ u, v = .iface t u ∧ RepV E x u
  | .nn t xs, v => RepD E.m (.li t) xs v ∧ ∃ ad l c, v = .slice (some ad) l c
def RepVs (E : Env) : List V → List Value → Prop
  | [], [] => True
  | c :: cs, u :: us => RepV E c u ∧ RepVs E cs us
  | _, _ => False
end

structure Env.Le (E E' : Env) : Prop where
  m : E.m.le E'.m
  live : ∀ o, E.live o → E'.live o
  blk : ∀ o, E.live o → E'.blk o = E.blk o
  sz : ∀ o, E.live o → E'.sz o = E.sz o
  len : ∀ o, E.live o → E.len o ≤ E'.len o
  plc : ∀ o, E.live o → E'.len o = E.len o → E'.plc o = E.plc o
  m0 : E'.m0 = E.m0
theorem Env.Le.refl [tI : Tst] (E : Env) : E.Le E := ⟨Mem.le.refl _, fun _ h => h, fun _ _ => rfl, fun _ _ => rfl, fun _ _ => Nat.le_refl _, fun _ _ _ => rfl, rfl⟩
theorem Env.Le.trans [tI : Tst] {A B C : Env} (h : A.Le B) (k : B.Le C) : A.Le C where
  m := h.m.trans k.m
  live o l := k.live o (h.live o l)
  blk o l := (k.blk o (h.live o l)).trans (h.blk o l)
  sz o l := (k.sz o (h.live o l)).trans (h.sz o l)
  len o l := Nat.le_trans (h.len o l) (k.len o (h.live o l))
  plc o l e := by
    have h1 := h.len o l
    have h2 := k.len o (h.live o l)
    exact (k.plc o (h.live o l) (by omega)).trans (h.plc o l (by omega))
  m0 := k.m0.trans h.m0

mutual
theorem RepV.mono [tI : Tst] {E E' : Env} (h : E.Le E') : ∀ (v : V) (u : Value), RepV E v u → RepV E' v u
  | .bad, _, _ => by simp [RepV]
  | .un, _, k => by simpa [RepV] using k
  | .nils, _, k => by simpa [RepV] using k
  | .d t x, _, k => by simp only [RepV] at k ⊢; exact k.mono h.m
  | .own o t xs, u, k => by
    simp only [RepV] at k ⊢
    obtain ⟨k1, k2, k3, k4, k5⟩ := k
    refine ⟨k1.mono h.m, h.live o k2, (h.sz o k2).trans k3, Nat.le_trans k4 (h.len o k2), fun e => ?_⟩
    have := h.len o k2
    rw [h.plc o k2 (by omega)]
    exact k5 (by omega)
  | .p o a, _, k => by simp only [RepV] at k ⊢; exact ⟨h.live o k.1, by rw [h.blk o k.1]; exact k.2⟩
  | .ro t x, _, k => by
    simp only [RepV] at k ⊢
    obtain ⟨b, off, us, k1, k2, k3⟩ := k
    exact ⟨b, off, us, k1, RepL.mono h.m _ _ _ k2, k3.mono h.m⟩
  | .sr o a n c s, _, k => by simp only [RepV] at k ⊢; exact ⟨h.live o k.1, (h.sz o k.1).trans k.2.1, by rw [h.blk o k.1]; exact k.2.2.1, k.2.2.2⟩
  | .pr o i s, _, k => by simp only [RepV] at k ⊢; exact ⟨h.live o k.1, (h.sz o k.1).trans k.2.1, by rw [h.blk o k.1]; exact k.2.2⟩
  | .agg cs, _, k => by
    simp only [RepV] at k ⊢
    obtain ⟨us, k1, k2, k3⟩ := k
    exact ⟨us, k1, RepVs.mono h cs us k2, k3⟩
  | .tup cs, _, k => by
    simp only [RepV] at k ⊢
    obtain ⟨us, k1, k2⟩ := k
    exact ⟨us, k1, RepVs.mono h cs us k2⟩
  | .fn f fs cs, _, k => by
    simp only [RepV] at k ⊢
    obtain ⟨zs, us, k1, k2, k3⟩ := k
    exact ⟨zs, us, k1, RepVs.mono h fs zs k2, RepVs.mono h cs us k3⟩
  | .ifc t x, _, k => by
    simp only [RepV] at k ⊢
    obtain ⟨us, k1, k2⟩ := k
    exact ⟨us, k1, RepV.mono h x us k2⟩
  | .nn t xs, _, k => by simp only [RepV] at k ⊢; exact ⟨k.1.mono h.m, k.2⟩
theorem RepVs.mono [tI : Tst] {E E' : Env} (h : E.Le E') : ∀ (vs : List V) (us : List Value), RepVs E vs us → RepVs E' vs us
  | [], [], _ => by simp [RepVs]
  | c :: cs, u :: us, k => by
    simp only [RepVs] at k ⊢
    exact ⟨RepV.mono h c u k.1, RepVs.mono h cs us k.2⟩
  | [], _ :: _, k => by simp [RepVs] at k
  | _ :: _, [], k => by simp [RepVs] at k
end

theorem RepVs.length {E : Env} : ∀ {vs : List V} {us : List Value}, RepVs E vs us → vs.length = us.length
  | [], [], _ => rfl
  | c :: cs, u :: us, k => by simp only [RepVs] at k; simp [RepVs.length k.2]
  | [], _ :: _, k => by simp [RepVs] at k
  | _ :: _, [], k => by simp [RepVs] at k
theorem look_eq : ∀ (vs : List V) (n : Nat), look vs n = vs.getD n .bad
  | [], n => by simp [look]
  | v :: vs, 0 => by simp [look]
  | v :: vs, n + 1 => by simp [look, look_eq vs n]
theorem RepVs.get {E : Env} : ∀ {vs : List V} {us : List Value} (n : Nat) {u : Value}, RepVs E vs us → us[n]? = some u → RepV E (look vs n) u
  | [], [], n, u, _, h => by simp at h
  | c :: cs, v :: us, 0, u, k, h => by simp only [RepVs] at k; simp at h; subst h; exact k.1
  | c :: cs, v :: us, n + 1, u, k, h => by simp only [RepVs] at k; simp at h; exact RepVs.get n k.2 h
  | [], _ :: _, _, _, k, _ => by simp [RepVs] at k
  | _ :: _, [], _, _, k, _ => by simp [RepVs] at k
theorem RepVs.append {E : Env} : ∀ {vs vs' : List V} {us us' : List Value}, RepVs E vs us → RepVs E vs' us' → RepVs E (vs ++ vs') (us ++ us')
  | [], _, [], _, _, h => h
  | c :: cs, _, u :: us, _, k, h => by simp only [RepVs, List.cons_append] at k ⊢; exact ⟨k.1, RepVs.append k.2 h⟩
  | [], _, _ :: _, _, k, _ => by simp [RepVs] at k
  | _ :: _, _, [], _, k, _ => by simp [RepVs] at k
theorem RepVs.drop {E : Env} : ∀ {vs : List V} {us : List Value} (n : Nat), RepVs E vs us → RepVs E (vs.drop n) (us.drop n)
  | _, _, 0, h => by simpa using h
  | [], [], n + 1, _ => by simp [RepVs]
  | c :: cs, u :: us, n + 1, k => by simp only [RepVs, List.drop_succ_cons] at k ⊢; exact RepVs.drop n k.2
  | [], _ :: _, _ + 1, k => by simp [RepVs] at k
  | _ :: _, [], _ + 1, k => by simp [RepVs] at k
theorem RepVs.take {E : Env} : ∀ {vs : List V} {us : List Value} (n : Nat), RepVs E vs us → RepVs E (vs.take n) (us.take n)
  | _, _, 0, h => by simp [RepVs]
  | [], [], n + 1, _ => by simp [RepVs]
  | c :: cs, u :: us, n + 1, k => by simp only [RepVs, List.take_succ_cons] at k ⊢; exact ⟨k.1, RepVs.take n k.2⟩
  | [], _ :: _, _ + 1, k => by simp [RepVs] at k
  | _ :: _, [], _ + 1, k => by simp [RepVs] at k
theorem RepVs.repl {E : Env} : ∀ {vs ws : List V} {us zs : List Value} (n : Nat), RepVs E vs us → RepVs E ws zs → n + ws.length ≤ vs.length →
    RepVs E (replV vs n ws) (us.take n ++ zs ++ us.drop (n + zs.length))
  | c :: cs, [], u :: us, [], 0, k, _, _ => by simpa [replV] using k
  | [], [], [], [], 0, _, _, _ => by simp [replV, RepVs]
  | c :: cs, w :: ws, u :: us, z :: zs, 0, k, h, hl => by
    simp only [RepVs] at k h
    simp only [List.length_cons, Nat.zero_add, Nat.add_le_add_iff_right] at hl
    have := RepVs.repl 0 k.2 h.2 (by omega)
    simp only [replV, RepVs, List.take_zero, List.nil_append, List.cons_append, Nat.zero_add, List.length_cons, List.drop_succ_cons] at this ⊢
    exact ⟨h.1, this⟩
  | c :: cs, ws, u :: us, zs, n + 1, k, h, hl => by
    simp only [RepVs] at k
    simp only [List.length_cons] at hl
    have := RepVs.repl n k.2 h (by omega)
    have e : n + 1 + zs.length = (n + zs.length) + 1 := by omega
    cases ws <;> simpa only [replV, RepVs, List.take_succ_cons, List.cons_append, e, List.drop_succ_cons] using ⟨k.1, this⟩
  | [], w :: ws, _, _, 0, _, _, hl => by simp at hl
  | [], _, _, _, n + 1, _, _, hl => by simp at hl
  | _ :: _, _, [], _, _, k, _, _ => by simp [RepVs] at k
  | [], _, _ :: _, _, _, k, _, _ => by simp [RepVs] at k
  | _, [], _, _ :: _, _, _, h, _ => by simp [RepVs] at h
  | _, _ :: _, _, [], _, _, h, _ => by simp [RepVs] at h
theorem length_repl : ∀ (vs ws : List V) (n : Nat), n + ws.length ≤ vs.length → (replV vs n ws).length = vs.length
  | [], [], 0, _ => rfl
  | c :: cs, [], 0, _ => rfl
  | c :: cs, w :: ws, 0, h => by simp only [replV, List.length_cons] at h ⊢; rw [length_repl cs ws 0 (by omega)]
  | c :: cs, ws, n + 1, h => by
    simp only [List.length_cons] at h
    cases ws <;> simp only [replV, List.length_cons] <;> rw [length_repl cs _ n (by simp only [List.length_cons, List.length_nil] at h ⊢; omega)]
  | [], w :: ws, 0, h => by simp at h
  | [], _, n + 1, h => by simp at h

/-- the cells of data, one by one -/
theorem flatT_rep [tI : Tst] {E : Env} : ∀ (t : Ty) (x : t.den) (us : List Value), RepL E.m t x us → RepVs E (flatT t x) us
  | .bo, x, us, h => by rw [show us = _ from h]; simp only [flatT, RepVs, and_true, RepV]; exact ⟨_, (rfl : RepL E.m .bo x [.bool x]), rfl⟩
  | .it k, x, us, h => by obtain ⟨rfl, h2⟩ := h; simp only [flatT, RepVs, and_true, RepV]; exact ⟨_, ⟨rfl, h2⟩, rfl⟩
  | .st, x, us, h => by obtain ⟨s, rfl, h2⟩ := h; simp only [flatT, RepVs, and_true, RepV]; exact ⟨_, ⟨s, rfl, h2⟩, rfl⟩
  | .ni, x, us, h => by rw [show us = _ from h]; simp only [flatT, RepVs, and_true, RepV]; exact ⟨_, (rfl : RepL E.m .ni x [.pointer none]), rfl⟩
  | .li t, x, us, h => by obtain ⟨a, c, rfl, h2⟩ := h; simp only [flatT, RepVs, and_true, RepV]; exact ⟨_, ⟨a, c, rfl, h2⟩, rfl⟩
  | .ue, x, us, h => by rw [show us = _ from h]; simp only [flatT, RepVs]
  | .co t r, x, us, h => by
    obtain ⟨u1, u2, rfl, h2, h3⟩ := h
    exact RepVs.append (flatT_rep t _ _ h2) (flatT_rep r _ _ h3)
  | .ar n t, xs, us, h => by
    obtain ⟨h1, h2, h3⟩ := h
    have key : ∀ k, k ≤ n → RepVs E ((List.range k).flatMap fun i => flatT t (List.getD xs i t.dflt)) (us.take (k * t.size)) := by
      intro k
      induction k with
      | zero => intro _; simp [RepVs]
      | succ k ih =>
        intro hk
        have hx : k < List.length xs := by rw [h1]; omega
        have := flatT_rep t _ _ (h3 k hx)
        rw [List.range_succ, List.flatMap_append, show (k + 1) * t.size = k * t.size + t.size from by rw [Nat.add_mul, Nat.one_mul], List.take_add]
        refine RepVs.append (ih (by omega)) ?_
        simpa only [List.flatMap_cons, List.flatMap_nil, List.append_nil, List.getD_eq_getElem?_getD, List.getElem?_eq_getElem hx, Option.getD_some] using this
    have := key n (Nat.le_refl _)
    rwa [List.take_of_length_le (by omega)] at this
end Go.Proofs.Ytdhbelpejaobdaa.Ev
