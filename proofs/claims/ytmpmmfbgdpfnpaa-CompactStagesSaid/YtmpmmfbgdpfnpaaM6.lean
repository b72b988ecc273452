/- Parts of the proof, joined by a program of this session: KSorted, CKv, KMerge, CEqual, KMergeP, EvClone, KKnown, KView, KPlain, KTab2, KStage. -/
import Derived.Test.YtmpmmfbgdpfnpaaM5
import Derived.Test.YtmpmmfbgdpfnpaaM4
set_option linter.unusedVariables false
set_option linter.unusedSimpArgs false
set_option linter.unusedSectionVars false
/- Lists merged by the document. -/
namespace Go.Proofs.Ytmpmmfbgdpfnpaa.Ev
open Go Go.RowKit
set_option linter.unusedVariables false
set_option linter.unusedSimpArgs false
set_option maxRecDepth 100000
set_option maxHeartbeats 8000000
--safe List.length_set
/-- what is left of lists -/
def left (l : List (List KV)) (a : List Int) : List (List KV) := List.zipWith (fun x n => x.drop n.toNat) l a
theorem left_len {l : List (List KV)} {a : List Int} (h : a.length = l.length) : (left l a).length = l.length := by unfold left; rw [List.length_zipWith]; omega
theorem left_get {l : List (List KV)} {a : List Int} (h : a.length = l.length) {i : Nat} (hi : i < l.length) : (left l a).getD i [] = (l.getD i []).drop (a.getD i 0).toNat := by
  rw [getD_at (by rw [left_len h]; exact hi), getD_at hi, getD_at (by omega)]
  unfold left
  rw [List.getElem_zipWith]
theorem left_set {l : List (List KV)} {a : List Int} (h : a.length = l.length) {b : Nat} (hb : b < l.length) (v : Int) : left l (a.set b v) = (left l a).set b ((l.getD b []).drop v.toNat) := by
  apply List.ext_getElem
  · rw [List.length_set, left_len h, left_len (by rw [List.length_set]; exact h)]
  · intro i h1 h2
    rw [left_len (by rw [List.length_set]; exact h)] at h1
    have e1 := left_get (l := l) (a := a.set b v) (by rw [List.length_set]; exact h) h1
    rw [getD_at (by rw [left_len (by rw [List.length_set]; exact h)]; exact h1)] at e1
    rw [e1, List.getElem_set]
    by_cases e : b = i
    · subst e
      rw [if_pos rfl]
      congr 2
      simp [List.getD_eq_getElem?_getD, h, hb]
    · rw [if_neg e]
      have e2 := left_get (l := l) (a := a) h h1
      rw [getD_at (by rw [left_len h]; exact h1)] at e2
      rw [e2]
      congr 2
      simp [List.getD_eq_getElem?_getD, List.getElem?_set, e]
theorem flat_set : ∀ {xs : List (List KV)} {b : Nat} {z : KV} {rest : List KV}, b < xs.length → xs.getD b [] = z :: rest → xs.flatten.Perm (z :: (xs.set b rest).flatten)
  | [], b, z, rest, h, _ => by simp at h
  | x :: xs, 0, z, rest, _, e => by
    have e : x = z :: rest := e
    subst e
    simp
  | x :: xs, b + 1, z, rest, h, e => by
    have := flat_set (xs := xs) (b := b) (by simpa using h) (by simpa using e)
    rw [List.flatten_cons, List.set_cons_succ, List.flatten_cons]
    exact (this.append_left x).trans List.perm_middle
structure SInv (L out : List KV) (xs : List (List KV)) : Prop where
  ok : ∀ y ∈ xs, ∀ z ∈ y, okK z
  ris : ∀ y ∈ xs, y.Pairwise ltK
  perm : (out ++ xs.flatten).Perm L
  srt : out.Pairwise ltK
  lo : ∀ a ∈ out, ∀ b ∈ xs.flatten, order a.1 b.1 ≤ 0
/-- b has the least of all heads -/
def Best (xs : List (List KV)) (b : Nat) : Prop := ∀ j, j < xs.length → xs.getD j [] ≠ [] → order (hd (xs.getD b [])) (hd (xs.getD j [])) ≤ 0
theorem SInv.top {L out : List KV} {xs : List (List KV)} (h : SInv L out xs) {b : Nat} (hb : Best xs b) {y : KV} (hy : y ∈ xs.flatten) : order (hd (xs.getD b [])) y.1 ≤ 0 := by
  obtain ⟨x, hx, hyx⟩ := List.mem_flatten.1 hy
  obtain ⟨i, hi, rfl⟩ := List.getElem_of_mem hx
  have e : xs.getD i [] = xs[i] := getD_at hi
  have h1 := hb i hi (by rw [e]; intro h0; rw [h0] at hyx; cases hyx)
  rw [e] at h1
  exact order_trans h1 (hd_le (h.ris _ (List.getElem_mem hi)) hyx)
theorem SInv.next {L out : List KV} {xs : List (List KV)} (h : SInv L out xs) {b : Nat} {z : KV} {rest : List KV} (hbl : b < xs.length) (hz : xs.getD b [] = z :: rest) (hb : Best xs b) (hnd : ∀ a ∈ out, order a.1 z.1 ≠ 0) : SInv L (out ++ [z]) (xs.set b rest) := by
  have hp := flat_set hbl hz
  have hzm : z ∈ xs.flatten := hp.mem_iff.2 List.mem_cons_self
  have hsub : ∀ y ∈ (xs.set b rest).flatten, y ∈ xs.flatten := fun y hy => hp.mem_iff.2 (List.mem_cons_of_mem _ hy)
  have hm : xs.getD b [] ∈ xs := by rw [getD_at hbl]; exact List.getElem_mem _
  have hmem : ∀ y ∈ xs.set b rest, y ∈ xs ∨ y = rest := fun y hy => (List.mem_or_eq_of_mem_set hy)
  constructor
  · intro y hy w hw
    rcases hmem y hy with hy | rfl
    · exact h.ok y hy w hw
    · exact h.ok _ hm w (by rw [hz]; exact List.mem_cons_of_mem _ hw)
  · intro y hy
    rcases hmem y hy with hy | rfl
    · exact h.ris y hy
    · have := h.ris _ hm
      rw [hz, List.pairwise_cons] at this
      exact this.2
  · refine List.Perm.trans ?_ h.perm
    rw [List.append_assoc]
    exact (hp.symm).append_left out
  · rw [List.pairwise_append]
    refine ⟨h.srt, List.pairwise_singleton _ _, fun a ha y hy => ?_⟩
    rw [List.mem_singleton] at hy; subst hy
    have h1 := h.lo a ha y hzm
    have h2 := hnd a ha
    show order a.1 y.1 < 0
    omega
  · intro a ha y hy
    rcases List.mem_append.1 ha with ha | ha
    · exact h.lo a ha y (hsub y hy)
    · rw [List.mem_singleton] at ha; subst ha
      have := h.top hb (hsub y hy)
      rw [hz] at this
      exact this
theorem SInv.apart {L out : List KV} {xs : List (List KV)} (h : SInv L out xs) {z : KV} (hz : z ∈ xs.flatten) (hl : out = [] ∨ order (out.getD (out.length - 1) kvd).1 z.1 ≠ 0) : ∀ a ∈ out, order a.1 z.1 ≠ 0 := by
  intro a ha
  rcases hl with rfl | hl
  · cases ha
  have hlen : 0 < out.length := List.length_pos_iff.2 (fun e => by subst e; cases ha)
  obtain ⟨i, hi, rfl⟩ := List.getElem_of_mem ha
  rw [getD_at (by omega)] at hl
  have hlast : order (out[out.length - 1]).1 z.1 ≤ 0 := h.lo _ (List.getElem_mem _) z hz
  by_cases e : i = out.length - 1
  · subst e; exact hl
  · have h1 := List.pairwise_iff_getElem.1 h.srt i (out.length - 1) hi (by omega) (by omega)
    have := ord_ltle h1 hlast
    omega
theorem allRise_mem {l : List (List KV)} (h : allRise l = true) {y : List KV} (hy : y ∈ l) : Rises y := of_decide_eq_true (List.all_eq_true.1 h y hy)
def sortedS (l : List (List KV)) : List KV × Bool := if allRise l = true then mergeS l else ([], false)
noncomputable def sortedSp : Sp := ⟨[kvll], fun x => tst (fewL x.1), fun x => .tup [.own 0 kv (sortedS x.1).1, .d .bo (sortedS x.1).2]⟩
abbrev sortedC : Ctx := ⟨rows, (fun | 0 => ([0, 4, 5], [0, 4]) | 1 => ([], [0, 4, 5]) | 2 => ([0, 4, 6], [2, 3]) | 3 => ([], [0, 4, 6]) | 4 => ([0, 4, 6, 7, 8], [0, 4, 6, 7]) | 5 => ([], [0, 4, 6, 7, 8]) | _ => ([], []))⟩
theorem getD_drop {α : Type} (l : List α) (n : Nat) (d : α) : (l.drop n).getD 0 d = l.getD n d := by simp [List.getD_eq_getElem?_getD]
theorem sorted_ok (T : Tab) (h1 : T 21 = risesSp.ent) (h2 : T 44 = orderSp.ent) : sortedSp.Ok T sortedC F14 := by
  rw [on_top h1, on_top h2]
  rintro ⟨(l : List (List KV)), _⟩ hf hp
  have hf1 : Fits kvll l := hf.1
  obtain ⟨hl, ht⟩ : fewL l := tst_iff.1 hp
  obtain ⟨F, hF⟩ : ∃ F : Nat, F = 500 := ⟨_, rfl⟩
  refine ⟨F, 0, ?_⟩
  show evFn _ _ _ _ _ [.d kvll l] [] _ = some (.tup [.own 0 kv (sortedS l).1, .d .bo (sortedS l).2] : V)
  conv => lhs; whnf
  try simp (maxSteps := 2000000) (disch := omega) only [NN, Ty.den, dflt_kv]
  repeat (refine br_go ?_ ?_; (focus (((repeat' first | exact rfl | exact ordB_st rfl | exact ordB_of rfl | apply band | apply tst_t | apply nt_t)  <;> (try dsimp only [Ty.den, dflt_kv]) <;> (try simp only [LL, List.length_set]) <;> (first | trivial | assumption | omega | (change (_ : Int) ≤ _; omega) | (change (_ : Int) < _; omega) | (change (_ : Nat) * 1 ≤ _; omega) | (change (_ : Nat) * 48 ≤ _; omega) | (change (_ : Nat) * 24 ≤ _; omega) | (change (_ : Nat) * 8 ≤ _; omega) | (change (_ : Nat) * 64 ≤ _; omega) | decide)); done)); (conv => lhs; whnf); (try simp (maxSteps := 2000000) (disch := omega) only [NN, Ty.den, dflt_kv]))
  have hall : ∀ i, i ≤ l.length → (∀ j, j < i → Rises (l.getD j [])) → i = l.length → allRise l = true := fun i _ h e => by
    subst e
    refine List.all_eq_true.2 fun y hy => decide_eq_true ?_
    obtain ⟨j, hj, rfl⟩ := List.getElem_of_mem hy
    have := h j hj
    rwa [getD_at hj] at this
  refine loop_ruleK (α := Nat) (fun i => i ≤ l.length ∧ ∀ j, j < i → Rises (l.getD j [])) (fun i => l.length - i)
    (fun i => (V.d kvll l :: V.bad :: V.bad :: V.bad :: V.sr 2 0 0 l.length 1 .full :: vI i :: V.bad :: V.bad :: V.bad :: V.bad :: V.bad :: V.bad :: V.bad :: V.bad :: V.bad :: V.bad :: V.bad :: V.bad :: V.bad :: V.bad :: V.bad :: V.bad :: V.bad :: V.bad :: V.bad :: V.bad :: V.bad :: V.bad :: V.bad :: V.bad :: V.bad :: V.bad :: V.bad :: V.bad :: V.bad :: V.bad :: V.bad :: V.bad :: V.bad :: V.bad :: V.bad :: V.bad :: V.bad :: V.bad :: V.bad :: V.bad :: V.bad :: V.bad :: V.bad :: V.bad :: V.bad :: V.bad :: V.bad :: V.bad :: V.bad :: V.bad :: V.bad :: V.bad :: V.bad :: V.bad :: V.bad :: V.bad :: V.bad :: V.bad :: V.bad :: V.bad :: V.bad :: V.bad :: V.bad :: V.bad :: V.bad :: V.bad :: V.bad :: V.bad :: V.bad :: V.bad :: V.bad :: V.bad :: V.bad :: V.bad :: V.bad :: V.bad :: V.bad :: V.bad :: V.bad :: V.bad :: V.bad :: V.bad :: V.bad :: V.bad :: V.bad :: V.bad :: V.bad :: V.bad :: V.bad :: V.bad :: V.bad :: V.bad :: V.bad :: V.bad :: V.bad :: V.bad :: V.bad :: V.bad :: V.bad :: V.bad :: V.bad :: V.bad :: V.bad :: []))
    (fun i => [.fam 0, .gone, .row 0 i64 (List.replicate l.length 0), .gone])
    (fun _ => some (V.tup [.own 0 kv (sortedS l).1, .d .bo (sortedS l).2])) ?_ F 0 ⟨Nat.zero_le _, fun j hj => absurd hj (by omega)⟩ (by show l.length - 0 < F; omega)
  rintro kka hka i K ⟨k1, k2⟩ hK
  conv => lhs; whnf
  try simp (maxSteps := 2000000) (disch := omega) only [NN, Ty.den, dflt_kv]
  by_cases hi : i < l.length
  · refine br_go (tst_t (by omega)) ?_
    conv => lhs; whnf
    try simp (maxSteps := 2000000) (disch := omega) only [NN, Ty.den, dflt_kv]
    repeat (refine br_go ?_ ?_; (focus (((repeat' first | exact rfl | exact ordB_st rfl | exact ordB_of rfl | apply band | apply tst_t | apply nt_t)  <;> (try dsimp only [Ty.den, dflt_kv]) <;> (try simp only [LL, List.length_set]) <;> (first | trivial | assumption | omega | (change (_ : Int) ≤ _; omega) | (change (_ : Int) < _; omega) | (change (_ : Nat) * 1 ≤ _; omega) | (change (_ : Nat) * 48 ≤ _; omega) | (change (_ : Nat) * 24 ≤ _; omega) | (change (_ : Nat) * 8 ≤ _; omega) | (change (_ : Nat) * 64 ≤ _; omega) | decide)); done)); (conv => lhs; whnf); (try simp (maxSteps := 2000000) (disch := omega) only [NN, Ty.den, dflt_kv]))
    by_cases hr : Rises (l.getD i [])
    · refine br_no (nt_f hr) ?_
      conv => lhs; whnf
      try simp (maxSteps := 2000000) (disch := omega) only [NN, Ty.den, dflt_kv]
      repeat (refine br_go ?_ ?_; (focus (((repeat' first | exact rfl | exact ordB_st rfl | exact ordB_of rfl | apply band | apply tst_t | apply nt_t)  <;> (try dsimp only [Ty.den, dflt_kv]) <;> (try simp only [LL, List.length_set]) <;> (first | trivial | assumption | omega | (change (_ : Int) ≤ _; omega) | (change (_ : Int) < _; omega) | (change (_ : Nat) * 1 ≤ _; omega) | (change (_ : Nat) * 48 ≤ _; omega) | (change (_ : Nat) * 24 ≤ _; omega) | (change (_ : Nat) * 8 ≤ _; omega) | (change (_ : Nat) * 64 ≤ _; omega) | decide)); done)); (conv => lhs; whnf); (try simp (maxSteps := 2000000) (disch := omega) only [NN, Ty.den, dflt_kv]))
      exact hK (i + 1) ⟨by omega, fun j hj => by
        by_cases e : j = i
        · subst e; exact hr
        · exact k2 j (by omega)⟩ (by omega)
    · refine br_go (nt_t hr) ?_
      conv => lhs; whnf
      try simp (maxSteps := 2000000) (disch := omega) only [NN, Ty.den, dflt_kv]
      repeat (refine br_go ?_ ?_; (focus (((repeat' first | exact rfl | exact ordB_st rfl | exact ordB_of rfl | apply band | apply tst_t | apply nt_t)  <;> (try dsimp only [Ty.den, dflt_kv]) <;> (try simp only [LL, List.length_set]) <;> (first | trivial | assumption | omega | (change (_ : Int) ≤ _; omega) | (change (_ : Int) < _; omega) | (change (_ : Nat) * 1 ≤ _; omega) | (change (_ : Nat) * 48 ≤ _; omega) | (change (_ : Nat) * 24 ≤ _; omega) | (change (_ : Nat) * 8 ≤ _; omega) | (change (_ : Nat) * 64 ≤ _; omega) | decide)); done)); (conv => lhs; whnf); (try simp (maxSteps := 2000000) (disch := omega) only [NN, Ty.den, dflt_kv]))
      rw [hka]
      conv => lhs; whnf
      try simp (maxSteps := 2000000) (disch := omega) only [NN, Ty.den, dflt_kv]
      repeat (refine br_go ?_ ?_; (focus (((repeat' first | exact rfl | exact ordB_st rfl | exact ordB_of rfl | apply band | apply tst_t | apply nt_t)  <;> (try dsimp only [Ty.den, dflt_kv]) <;> (try simp only [LL, List.length_set]) <;> (first | trivial | assumption | omega | (change (_ : Int) ≤ _; omega) | (change (_ : Int) < _; omega) | (change (_ : Nat) * 1 ≤ _; omega) | (change (_ : Nat) * 48 ≤ _; omega) | (change (_ : Nat) * 24 ≤ _; omega) | (change (_ : Nat) * 8 ≤ _; omega) | (change (_ : Nat) * 64 ≤ _; omega) | decide)); done)); (conv => lhs; whnf); (try simp (maxSteps := 2000000) (disch := omega) only [NN, Ty.den, dflt_kv]))
      have e : sortedS l = ([], false) := by
        unfold sortedS
        rw [if_neg (fun h => hr (allRise_mem h (by rw [getD_at hi]; exact List.getElem_mem _)))]
      rw [e]
  · refine br_no (tst_f (by omega)) ?_
    conv => lhs; whnf
    try simp (maxSteps := 2000000) (disch := omega) only [NN, Ty.den, dflt_kv]
    have har := hall i k1 k2 (by omega)
    have es : sortedS l = mergeS l := by unfold sortedS; rw [if_pos har]
    rw [es]
    repeat (refine br_go ?_ ?_; (focus (((repeat' first | exact rfl | exact ordB_st rfl | exact ordB_of rfl | apply band | apply tst_t | apply nt_t)  <;> (try dsimp only [Ty.den, dflt_kv]) <;> (try simp only [LL, List.length_set]) <;> (first | trivial | assumption | omega | (change (_ : Int) ≤ _; omega) | (change (_ : Int) < _; omega) | (change (_ : Nat) * 1 ≤ _; omega) | (change (_ : Nat) * 48 ≤ _; omega) | (change (_ : Nat) * 24 ≤ _; omega) | (change (_ : Nat) * 8 ≤ _; omega) | (change (_ : Nat) * 64 ≤ _; omega) | decide)); done)); (conv => lhs; whnf); (try simp (maxSteps := 2000000) (disch := omega) only [NN, Ty.den, dflt_kv]))
    rw [hka]
    conv => lhs; whnf
    try simp (maxSteps := 2000000) (disch := omega) only [NN, Ty.den, dflt_kv]
    repeat (refine br_go ?_ ?_; (focus (((repeat' first | exact rfl | exact ordB_st rfl | exact ordB_of rfl | apply band | apply tst_t | apply nt_t)  <;> (try dsimp only [Ty.den, dflt_kv]) <;> (try simp only [LL, List.length_set]) <;> (first | trivial | assumption | omega | (change (_ : Int) ≤ _; omega) | (change (_ : Int) < _; omega) | (change (_ : Nat) * 1 ≤ _; omega) | (change (_ : Nat) * 48 ≤ _; omega) | (change (_ : Nat) * 24 ≤ _; omega) | (change (_ : Nat) * 8 ≤ _; omega) | (change (_ : Nat) * 64 ≤ _; omega) | decide)); done)); (conv => lhs; whnf); (try simp (maxSteps := 2000000) (disch := omega) only [NN, Ty.den, dflt_kv]))
    have hok0 : ∀ y ∈ l, ∀ z ∈ y, okK z := fun y hy z hz => ⟨((rises_iff y).1 (allRise_mem har hy)).1 z hz, bytes_of ((hf1.2 y hy).2 z hz).1⟩
    have hlen0 : (List.replicate l.length (0 : Int)).length = l.length := List.length_replicate
    have hleft0 : left l (List.replicate l.length 0) = l := by
      apply List.ext_getElem
      · rw [left_len hlen0]
      · intro j h1 h2
        have e := left_get (l := l) (a := List.replicate l.length 0) hlen0 h2
        rw [getD_at h1, getD_at h2, getD_at (by omega : j < (List.replicate l.length (0 : Int)).length), List.getElem_replicate] at e
        exact e
    refine loop_ruleK (α := List Int × List KV) (fun s => (s.1.length = l.length ∧ ∀ j, j < l.length → 0 ≤ s.1.getD j 0 ∧ s.1.getD j 0 ≤ ((l.getD j []).length : Int)) ∧ SInv l.flatten s.2 (left l s.1)) (fun s => (left l s.1).flatten.length)
      (fun s => (V.d kvll l :: V.bad :: V.bad :: V.bad :: V.sr 2 0 0 l.length 1 .full :: V.bad :: V.own 4 kv s.2 :: V.bad :: V.bad :: V.bad :: V.bad :: V.bad :: V.bad :: V.bad :: V.bad :: V.bad :: V.bad :: V.bad :: V.bad :: V.bad :: V.bad :: V.bad :: V.bad :: V.bad :: V.bad :: V.bad :: V.bad :: V.bad :: V.bad :: V.bad :: V.bad :: V.bad :: V.bad :: V.bad :: V.bad :: V.bad :: V.bad :: V.bad :: V.bad :: V.bad :: V.bad :: V.bad :: V.bad :: V.bad :: V.bad :: V.bad :: V.bad :: V.bad :: V.bad :: V.bad :: V.bad :: V.bad :: V.bad :: V.bad :: V.bad :: V.bad :: V.bad :: V.bad :: V.bad :: V.bad :: V.bad :: V.bad :: V.bad :: V.bad :: V.bad :: V.bad :: V.bad :: V.bad :: V.bad :: V.bad :: V.bad :: V.bad :: V.bad :: V.bad :: V.bad :: V.bad :: V.bad :: V.bad :: V.bad :: V.bad :: V.bad :: V.bad :: V.bad :: V.bad :: V.bad :: V.bad :: V.bad :: V.bad :: V.bad :: V.bad :: V.bad :: V.bad :: V.bad :: V.bad :: V.bad :: V.bad :: V.bad :: V.bad :: V.bad :: V.bad :: V.bad :: V.bad :: V.bad :: V.bad :: V.bad :: V.bad :: V.bad :: V.bad :: V.bad :: []))
      (fun s => [.fam 0, .gone, .row 0 i64 s.1, .gone, .fam s.2.length])
      (fun _ => some (V.tup [.own 0 kv (mergeS l).1, .d .bo (mergeS l).2])) ?_ F (List.replicate l.length 0, []) ⟨⟨hlen0, fun j hj => by
        show 0 ≤ (List.replicate l.length (0 : Int)).getD j 0 ∧ _
        rw [getD_at (by omega), List.getElem_replicate]; omega⟩, by
        show SInv l.flatten [] (left l (List.replicate l.length 0))
        rw [hleft0]
        exact ⟨hok0, fun y hy => ((rises_iff y).1 (allRise_mem har hy)).2, .refl _, List.Pairwise.nil, fun a ha => by cases ha⟩⟩ (by show (left l (List.replicate l.length 0)).flatten.length < F; rw [hleft0]; omega)
    rintro kkm hkm ⟨a, out⟩ K1 ⟨⟨a1, a2⟩, inv⟩ hK1
    simp only at a1 a2 inv hK1 ⊢
    have hll := left_len a1
    have hlg := fun j (hj : j < l.length) => left_get (l := l) (a := a) a1 hj
    conv => lhs; whnf
    try simp (maxSteps := 2000000) (disch := omega) only [NN, Ty.den, dflt_kv]
    refine loop_ruleK (α := Nat × Int) (fun s => s.1 ≤ l.length ∧ ((s.2 = -1 ∧ ∀ j, j < s.1 → (left l a).getD j [] = []) ∨ ∃ b : Nat, s.2 = b ∧ b < s.1 ∧ (left l a).getD b [] ≠ [] ∧ ∀ j, j < s.1 → (left l a).getD j [] ≠ [] → order (hd ((left l a).getD b [])) (hd ((left l a).getD j [])) ≤ 0)) (fun s => l.length - s.1)
      (fun s => (V.d kvll l :: V.bad :: V.bad :: V.bad :: V.sr 2 0 0 l.length 1 .full :: V.bad :: V.own 4 kv out :: vI s.2 :: vI s.1 :: V.bad :: V.bad :: V.bad :: V.bad :: V.bad :: V.bad :: V.bad :: V.bad :: V.bad :: V.bad :: V.bad :: V.bad :: V.bad :: V.bad :: V.bad :: V.bad :: V.bad :: V.bad :: V.bad :: V.bad :: V.bad :: V.bad :: V.bad :: V.bad :: V.bad :: V.bad :: V.bad :: V.bad :: V.bad :: V.bad :: V.bad :: V.bad :: V.bad :: V.bad :: V.bad :: V.bad :: V.bad :: V.bad :: V.bad :: V.bad :: V.bad :: V.bad :: V.bad :: V.bad :: V.bad :: V.bad :: V.bad :: V.bad :: V.bad :: V.bad :: V.bad :: V.bad :: V.bad :: V.bad :: V.bad :: V.bad :: V.bad :: V.bad :: V.bad :: V.bad :: V.bad :: V.bad :: V.bad :: V.bad :: V.bad :: V.bad :: V.bad :: V.bad :: V.bad :: V.bad :: V.bad :: V.bad :: V.bad :: V.bad :: V.bad :: V.bad :: V.bad :: V.bad :: V.bad :: V.bad :: V.bad :: V.bad :: V.bad :: V.bad :: V.bad :: V.bad :: V.bad :: V.bad :: V.bad :: V.bad :: V.bad :: V.bad :: V.bad :: V.bad :: V.bad :: V.bad :: V.bad :: V.bad :: V.bad :: V.bad :: []))
      (fun s => [.fam 0, .gone, .row 0 i64 a, .gone, .fam out.length])
      (fun _ => some (V.tup [.own 0 kv (mergeS l).1, .d .bo (mergeS l).2])) ?_ F (0, -1) ⟨Nat.zero_le _, .inl ⟨rfl, fun j hj => absurd hj (by omega)⟩⟩ (by show l.length - 0 < F; omega)
    rintro kkb hkb ⟨i, b⟩ K2 ⟨b1, b2⟩ hK2
    simp only at b1 b2 hK2 ⊢
    conv => lhs; whnf
    try simp (maxSteps := 2000000) (disch := omega) only [NN, Ty.den, dflt_kv]
    by_cases hi2 : i < l.length
    · refine br_go (tst_t (by omega)) ?_
      conv => lhs; whnf
      try simp (maxSteps := 2000000) (disch := omega) only [NN, Ty.den, dflt_kv]
      have hai := a2 i hi2
      have hgi := hlg i hi2
      have hli : (l.getD i []).length ≤ 140737488355328 := by rw [getD_at hi2]; exact (hf1.2 _ (List.getElem_mem hi2)).1
      repeat (refine br_go ?_ ?_; (focus (((repeat' first | exact rfl | exact ordB_st rfl | exact ordB_of rfl | apply band | apply tst_t | apply nt_t)  <;> (try dsimp only [Ty.den, dflt_kv]) <;> (try simp only [LL, List.length_set]) <;> (first | trivial | assumption | omega | (change (_ : Int) ≤ _; omega) | (change (_ : Int) < _; omega) | (change (_ : Nat) * 1 ≤ _; omega) | (change (_ : Nat) * 48 ≤ _; omega) | (change (_ : Nat) * 24 ≤ _; omega) | (change (_ : Nat) * 8 ≤ _; omega) | (change (_ : Nat) * 64 ≤ _; omega) | decide)); done)); (conv => lhs; whnf); (try simp (maxSteps := 2000000) (disch := omega) only [NN, Ty.den, dflt_kv]))
      try simp (maxSteps := 2000000) (disch := omega) only [NN, Ty.den, dflt_kv, Nat.zero_add]
      by_cases he : a.getD i 0 = ((l.getD i []).length : Int)
      · refine br_go (tst_t (he)) ?_
        conv => lhs; whnf
        try simp (maxSteps := 2000000) (disch := omega) only [NN, Ty.den, dflt_kv]
        repeat (refine br_go ?_ ?_; (focus (((repeat' first | exact rfl | exact ordB_st rfl | exact ordB_of rfl | apply band | apply tst_t | apply nt_t)  <;> (try dsimp only [Ty.den, dflt_kv]) <;> (try simp only [LL, List.length_set]) <;> (first | trivial | assumption | omega | (change (_ : Int) ≤ _; omega) | (change (_ : Int) < _; omega) | (change (_ : Nat) * 1 ≤ _; omega) | (change (_ : Nat) * 48 ≤ _; omega) | (change (_ : Nat) * 24 ≤ _; omega) | (change (_ : Nat) * 8 ≤ _; omega) | (change (_ : Nat) * 64 ≤ _; omega) | decide)); done)); (conv => lhs; whnf); (try simp (maxSteps := 2000000) (disch := omega) only [NN, Ty.den, dflt_kv]))
        have hemp : (left l a).getD i [] = [] := by rw [hgi, List.drop_eq_nil_of_le (by omega)]
        refine hK2 (i + 1, b) ⟨by show i + 1 ≤ _; omega, ?_⟩ (by show l.length - (i + 1) < l.length - i; omega)
        rcases b2 with ⟨rfl, b2⟩ | ⟨c, rfl, c1, c2, c3⟩
        · refine .inl ⟨rfl, fun j hj => ?_⟩
          by_cases e : j = i
          · subst e; exact hemp
          · exact b2 j (by show j < i; have : j < i + 1 := hj; omega)
        · refine .inr ⟨c, rfl, by show c < i + 1; omega, c2, fun j hj hne => ?_⟩
          by_cases e : j = i
          · subst e; exact absurd hemp hne
          · exact c3 j (by have : j < i + 1 := hj; omega) hne
      · have hne : (left l a).getD i [] ≠ [] := by
          rw [hgi]
          intro h0
          have := congrArg List.length h0
          rw [List.length_drop, List.length_nil] at this
          omega
        have ehi : ((l.getD i []).getD (a.getD i 0).toNat kvd).1 = hd ((left l a).getD i []) := by rw [hgi]; unfold hd; rw [getD_drop]
        refine br_no (tst_f (he)) ?_
        conv => lhs; whnf
        try simp (maxSteps := 2000000) (disch := omega) only [NN, Ty.den, dflt_kv]
        rcases b2 with ⟨rfl, b2⟩ | ⟨c, rfl, c1, c2, c3⟩
        · refine br_go (tst_t (by omega)) ?_
          conv => lhs; whnf
          try simp (maxSteps := 2000000) (disch := omega) only [NN, Ty.den, dflt_kv]
          repeat (refine br_go ?_ ?_; (focus (((repeat' first | exact rfl | exact ordB_st rfl | exact ordB_of rfl | apply band | apply tst_t | apply nt_t)  <;> (try dsimp only [Ty.den, dflt_kv]) <;> (try simp only [LL, List.length_set]) <;> (first | trivial | assumption | omega | (change (_ : Int) ≤ _; omega) | (change (_ : Int) < _; omega) | (change (_ : Nat) * 1 ≤ _; omega) | (change (_ : Nat) * 48 ≤ _; omega) | (change (_ : Nat) * 24 ≤ _; omega) | (change (_ : Nat) * 8 ≤ _; omega) | (change (_ : Nat) * 64 ≤ _; omega) | decide)); done)); (conv => lhs; whnf); (try simp (maxSteps := 2000000) (disch := omega) only [NN, Ty.den, dflt_kv]))
          refine hK2 (i + 1, i) ⟨by show i + 1 ≤ _; omega, .inr ⟨i, rfl, by show i < i + 1; omega, hne, fun j hj hjn => ?_⟩⟩ (by show l.length - (i + 1) < l.length - i; omega)
          by_cases e : j = i
          · subst e; have := order_neg (hd ((left l a).getD j [])) (hd ((left l a).getD j [])); omega
          · exact absurd (b2 j (by have : j < i + 1 := hj; omega)) hjn
        · have hac := a2 c (by omega)
          have hgc := hlg c (by omega)
          have hlc : (l.getD c []).length ≤ 140737488355328 := by rw [getD_at (by omega)]; exact (hf1.2 _ (List.getElem_mem _)).1
          have hac2 : a.getD c 0 < ((l.getD c []).length : Int) := by
            have : 0 < ((left l a).getD c []).length := List.length_pos_iff.2 c2
            rw [hgc, List.length_drop] at this
            omega
          have ehc : ((l.getD c []).getD (a.getD c 0).toNat kvd).1 = hd ((left l a).getD c []) := by rw [hgc]; unfold hd; rw [getD_drop]
          refine br_no (tst_f (by omega)) ?_
          conv => lhs; whnf
          try simp (maxSteps := 2000000) (disch := omega) only [NN, Ty.den, dflt_kv]
          repeat (refine br_go ?_ ?_; (focus (((repeat' first | exact rfl | exact ordB_st rfl | exact ordB_of rfl | apply band | apply tst_t | apply nt_t)  <;> (try dsimp only [Ty.den, dflt_kv]) <;> (try simp only [LL, List.length_set]) <;> (first | trivial | assumption | omega | (change (_ : Int) ≤ _; omega) | (change (_ : Int) < _; omega) | (change (_ : Nat) * 1 ≤ _; omega) | (change (_ : Nat) * 48 ≤ _; omega) | (change (_ : Nat) * 24 ≤ _; omega) | (change (_ : Nat) * 8 ≤ _; omega) | (change (_ : Nat) * 64 ≤ _; omega) | decide)); done)); (conv => lhs; whnf); (try simp (maxSteps := 2000000) (disch := omega) only [NN, Ty.den, dflt_kv]))
          try simp (maxSteps := 2000000) (disch := omega) only [NN, Ty.den, dflt_kv, Nat.zero_add, ehi, ehc]
          repeat (refine br_go ?_ ?_; (focus (((repeat' first | exact rfl | exact ordB_st rfl | exact ordB_of rfl | apply band | apply tst_t | apply nt_t)  <;> (try dsimp only [Ty.den, dflt_kv]) <;> (try simp only [LL, List.length_set]) <;> (first | trivial | assumption | omega | (change (_ : Int) ≤ _; omega) | (change (_ : Int) < _; omega) | (change (_ : Nat) * 1 ≤ _; omega) | (change (_ : Nat) * 48 ≤ _; omega) | (change (_ : Nat) * 24 ≤ _; omega) | (change (_ : Nat) * 8 ≤ _; omega) | (change (_ : Nat) * 64 ≤ _; omega) | decide)); done)); (conv => lhs; whnf); (try simp (maxSteps := 2000000) (disch := omega) only [NN, Ty.den, dflt_kv]))
          try simp (maxSteps := 2000000) (disch := omega) only [NN, Ty.den, dflt_kv, Nat.zero_add, ehi, ehc]
          repeat (refine br_go ?_ ?_; (focus (((repeat' first | exact rfl | exact ordB_st rfl | exact ordB_of rfl | apply band | apply tst_t | apply nt_t)  <;> (try dsimp only [Ty.den, dflt_kv]) <;> (try simp only [LL, List.length_set]) <;> (first | trivial | assumption | omega | (change (_ : Int) ≤ _; omega) | (change (_ : Int) < _; omega) | (change (_ : Nat) * 1 ≤ _; omega) | (change (_ : Nat) * 48 ≤ _; omega) | (change (_ : Nat) * 24 ≤ _; omega) | (change (_ : Nat) * 8 ≤ _; omega) | (change (_ : Nat) * 64 ≤ _; omega) | decide)); done)); (conv => lhs; whnf); (try simp (maxSteps := 2000000) (disch := omega) only [NN, Ty.den, dflt_kv]))
          try simp (maxSteps := 2000000) (disch := omega) only [NN, Ty.den, dflt_kv, Nat.zero_add, ehi, ehc]
          by_cases ho : order (hd ((left l a).getD i [])) (hd ((left l a).getD c [])) < 0
          · refine br_go (tst_t (ho)) ?_
            conv => lhs; whnf
            try simp (maxSteps := 2000000) (disch := omega) only [NN, Ty.den, dflt_kv]
            repeat (refine br_go ?_ ?_; (focus (((repeat' first | exact rfl | exact ordB_st rfl | exact ordB_of rfl | apply band | apply tst_t | apply nt_t)  <;> (try dsimp only [Ty.den, dflt_kv]) <;> (try simp only [LL, List.length_set]) <;> (first | trivial | assumption | omega | (change (_ : Int) ≤ _; omega) | (change (_ : Int) < _; omega) | (change (_ : Nat) * 1 ≤ _; omega) | (change (_ : Nat) * 48 ≤ _; omega) | (change (_ : Nat) * 24 ≤ _; omega) | (change (_ : Nat) * 8 ≤ _; omega) | (change (_ : Nat) * 64 ≤ _; omega) | decide)); done)); (conv => lhs; whnf); (try simp (maxSteps := 2000000) (disch := omega) only [NN, Ty.den, dflt_kv]))
            refine hK2 (i + 1, i) ⟨by show i + 1 ≤ _; omega, .inr ⟨i, rfl, by show i < i + 1; omega, hne, fun j hj hjn => ?_⟩⟩ (by show l.length - (i + 1) < l.length - i; omega)
            by_cases e : j = i
            · subst e; have := order_neg (hd ((left l a).getD j [])) (hd ((left l a).getD j [])); omega
            · exact order_trans (Int.le_of_lt ho) (c3 j (by have : j < i + 1 := hj; omega) hjn)
          · refine br_no (tst_f (ho)) ?_
            conv => lhs; whnf
            try simp (maxSteps := 2000000) (disch := omega) only [NN, Ty.den, dflt_kv]
            repeat (refine br_go ?_ ?_; (focus (((repeat' first | exact rfl | exact ordB_st rfl | exact ordB_of rfl | apply band | apply tst_t | apply nt_t)  <;> (try dsimp only [Ty.den, dflt_kv]) <;> (try simp only [LL, List.length_set]) <;> (first | trivial | assumption | omega | (change (_ : Int) ≤ _; omega) | (change (_ : Int) < _; omega) | (change (_ : Nat) * 1 ≤ _; omega) | (change (_ : Nat) * 48 ≤ _; omega) | (change (_ : Nat) * 24 ≤ _; omega) | (change (_ : Nat) * 8 ≤ _; omega) | (change (_ : Nat) * 64 ≤ _; omega) | decide)); done)); (conv => lhs; whnf); (try simp (maxSteps := 2000000) (disch := omega) only [NN, Ty.den, dflt_kv]))
            refine hK2 (i + 1, (c : Int)) ⟨by show i + 1 ≤ _; omega, .inr ⟨c, rfl, by show c < i + 1; omega, c2, fun j hj hjn => ?_⟩⟩ (by show l.length - (i + 1) < l.length - i; omega)
            by_cases e : j = i
            · subst e; have := order_neg (hd ((left l a).getD j [])) (hd ((left l a).getD c [])); omega
            · exact c3 j (by have : j < i + 1 := hj; omega) hjn
    · refine br_no (tst_f (by omega)) ?_
      conv => lhs; whnf
      try simp (maxSteps := 2000000) (disch := omega) only [NN, Ty.den, dflt_kv]
      repeat (refine br_go ?_ ?_; (focus (((repeat' first | exact rfl | exact ordB_st rfl | exact ordB_of rfl | apply band | apply tst_t | apply nt_t)  <;> (try dsimp only [Ty.den, dflt_kv]) <;> (try simp only [LL, List.length_set]) <;> (first | trivial | assumption | omega | (change (_ : Int) ≤ _; omega) | (change (_ : Int) < _; omega) | (change (_ : Nat) * 1 ≤ _; omega) | (change (_ : Nat) * 48 ≤ _; omega) | (change (_ : Nat) * 24 ≤ _; omega) | (change (_ : Nat) * 8 ≤ _; omega) | (change (_ : Nat) * 64 ≤ _; omega) | decide)); done)); (conv => lhs; whnf); (try simp (maxSteps := 2000000) (disch := omega) only [NN, Ty.den, dflt_kv]))
      rw [hkb]
      conv => lhs; whnf
      try simp (maxSteps := 2000000) (disch := omega) only [NN, Ty.den, dflt_kv]
      rcases b2 with ⟨rfl, b2⟩ | ⟨c, rfl, c1, c2, c3⟩
      · refine br_go (tst_t (by omega)) ?_
        conv => lhs; whnf
        try simp (maxSteps := 2000000) (disch := omega) only [NN, Ty.den, dflt_kv]
        repeat (refine br_go ?_ ?_; (focus (((repeat' first | exact rfl | exact ordB_st rfl | exact ordB_of rfl | apply band | apply tst_t | apply nt_t)  <;> (try dsimp only [Ty.den, dflt_kv]) <;> (try simp only [LL, List.length_set]) <;> (first | trivial | assumption | omega | (change (_ : Int) ≤ _; omega) | (change (_ : Int) < _; omega) | (change (_ : Nat) * 1 ≤ _; omega) | (change (_ : Nat) * 48 ≤ _; omega) | (change (_ : Nat) * 24 ≤ _; omega) | (change (_ : Nat) * 8 ≤ _; omega) | (change (_ : Nat) * 64 ≤ _; omega) | decide)); done)); (conv => lhs; whnf); (try simp (maxSteps := 2000000) (disch := omega) only [NN, Ty.den, dflt_kv]))
        have hemp : (left l a).flatten = [] := by
          rw [List.flatten_eq_nil_iff]
          intro y hy
          obtain ⟨j, hj, rfl⟩ := List.getElem_of_mem hy
          have := b2 j (by omega)
          rwa [getD_at hj] at this
        have hp := inv.perm
        rw [hemp, List.append_nil] at hp
        rw [hkm]
        conv => lhs; whnf
        try simp (maxSteps := 2000000) (disch := omega) only [NN, Ty.den, dflt_kv]
        repeat (refine br_go ?_ ?_; (focus (((repeat' first | exact rfl | exact ordB_st rfl | exact ordB_of rfl | apply band | apply tst_t | apply nt_t)  <;> (try dsimp only [Ty.den, dflt_kv]) <;> (try simp only [LL, List.length_set]) <;> (first | trivial | assumption | omega | (change (_ : Int) ≤ _; omega) | (change (_ : Int) < _; omega) | (change (_ : Nat) * 1 ≤ _; omega) | (change (_ : Nat) * 48 ≤ _; omega) | (change (_ : Nat) * 24 ≤ _; omega) | (change (_ : Nat) * 8 ≤ _; omega) | (change (_ : Nat) * 64 ≤ _; omega) | decide)); done)); (conv => lhs; whnf); (try simp (maxSteps := 2000000) (disch := omega) only [NN, Ty.den, dflt_kv]))
        have hmd := merge_done (fun x hx => by
          obtain ⟨y, hy, hxy⟩ := List.mem_flatten.1 hx
          exact hok0 y hy x hxy) hp inv.srt
        rw [hmd]
      · have hcl : c < l.length := by omega
        have hac := a2 c hcl
        have hgc := hlg c hcl
        have hlc : (l.getD c []).length ≤ 140737488355328 := by rw [getD_at hcl]; exact (hf1.2 _ (List.getElem_mem hcl)).1
        have hac2 : a.getD c 0 < ((l.getD c []).length : Int) := by
          have : 0 < ((left l a).getD c []).length := List.length_pos_iff.2 c2
          rw [hgc, List.length_drop] at this
          omega
        obtain ⟨z, hzz⟩ : ∃ z, z = (l.getD c []).getD (a.getD c 0).toNat kvd := ⟨_, rfl⟩
        have hz : (left l a).getD c [] = z :: (l.getD c []).drop (a.getD c 0 + 1).toNat := by
          rw [hgc, drop_at (d := kvd) (by omega : (a.getD c 0).toNat < (l.getD c []).length), ← hzz, show (a.getD c 0 + 1).toNat = (a.getD c 0).toNat + 1 by omega]
        have hbest : Best (left l a) c := fun j hj hjn => c3 j (by omega) hjn
        have hfs := flat_set (by omega : c < (left l a).length) hz
        have hzm : z ∈ (left l a).flatten := hfs.mem_iff.2 List.mem_cons_self
        have hpl := inv.perm.length_eq
        rw [List.length_append] at hpl
        refine br_no (tst_f (by omega)) ?_
        conv => lhs; whnf
        try simp (maxSteps := 2000000) (disch := omega) only [NN, Ty.den, dflt_kv]
        repeat (refine br_go ?_ ?_; (focus (((repeat' first | exact rfl | exact ordB_st rfl | exact ordB_of rfl | apply band | apply tst_t | apply nt_t)  <;> (try dsimp only [Ty.den, dflt_kv]) <;> (try simp only [LL, List.length_set]) <;> (first | trivial | assumption | omega | (change (_ : Int) ≤ _; omega) | (change (_ : Int) < _; omega) | (change (_ : Nat) * 1 ≤ _; omega) | (change (_ : Nat) * 48 ≤ _; omega) | (change (_ : Nat) * 24 ≤ _; omega) | (change (_ : Nat) * 8 ≤ _; omega) | (change (_ : Nat) * 64 ≤ _; omega) | decide)); done)); (conv => lhs; whnf); (try simp (maxSteps := 2000000) (disch := omega) only [NN, Ty.den, dflt_kv]))
        try simp (maxSteps := 2000000) (disch := omega) only [NN, Ty.den, dflt_kv, Nat.zero_add]
        repeat (refine br_go ?_ ?_; (focus (((repeat' first | exact rfl | exact ordB_st rfl | exact ordB_of rfl | apply band | apply tst_t | apply nt_t)  <;> (try dsimp only [Ty.den, dflt_kv]) <;> (try simp only [LL, List.length_set]) <;> (first | trivial | assumption | omega | (change (_ : Int) ≤ _; omega) | (change (_ : Int) < _; omega) | (change (_ : Nat) * 1 ≤ _; omega) | (change (_ : Nat) * 48 ≤ _; omega) | (change (_ : Nat) * 24 ≤ _; omega) | (change (_ : Nat) * 8 ≤ _; omega) | (change (_ : Nat) * 64 ≤ _; omega) | decide)); done)); (conv => lhs; whnf); (try simp (maxSteps := 2000000) (disch := omega) only [NN, Ty.den, dflt_kv]))
        try simp (maxSteps := 2000000) (disch := omega) only [NN, Ty.den, dflt_kv, Nat.zero_add]
        try simp (maxSteps := 2000000) (disch := omega) only [NN, Ty.den, dflt_kv, ← hzz]
        by_cases ho : out.length = 0
        · have hnd : ∀ a ∈ out, order a.1 z.1 ≠ 0 := fun a ha => by rw [List.eq_nil_of_length_eq_zero ho] at ha; cases ha
          refine br_no (tst_f (by omega)) ?_
          conv => lhs; whnf
          try simp (maxSteps := 2000000) (disch := omega) only [NN, Ty.den, dflt_kv]
          repeat (refine br_go ?_ ?_; (focus (((repeat' first | exact rfl | exact ordB_st rfl | exact ordB_of rfl | apply band | apply tst_t | apply nt_t)  <;> (try dsimp only [Ty.den, dflt_kv]) <;> (try simp only [LL, List.length_set]) <;> (first | trivial | assumption | omega | (change (_ : Int) ≤ _; omega) | (change (_ : Int) < _; omega) | (change (_ : Nat) * 1 ≤ _; omega) | (change (_ : Nat) * 48 ≤ _; omega) | (change (_ : Nat) * 24 ≤ _; omega) | (change (_ : Nat) * 8 ≤ _; omega) | (change (_ : Nat) * 64 ≤ _; omega) | decide)); done)); (conv => lhs; whnf); (try simp (maxSteps := 2000000) (disch := omega) only [NN, Ty.den, dflt_kv]))
          try simp (maxSteps := 2000000) (disch := omega) only [NN, Ty.den, dflt_kv, Nat.zero_add]
          repeat (refine br_go ?_ ?_; (focus (((repeat' first | exact rfl | exact ordB_st rfl | exact ordB_of rfl | apply band | apply tst_t | apply nt_t)  <;> (try dsimp only [Ty.den, dflt_kv]) <;> (try simp only [LL, List.length_set]) <;> (first | trivial | assumption | omega | (change (_ : Int) ≤ _; omega) | (change (_ : Int) < _; omega) | (change (_ : Nat) * 1 ≤ _; omega) | (change (_ : Nat) * 48 ≤ _; omega) | (change (_ : Nat) * 24 ≤ _; omega) | (change (_ : Nat) * 8 ≤ _; omega) | (change (_ : Nat) * 64 ≤ _; omega) | decide)); done)); (conv => lhs; whnf); (try simp (maxSteps := 2000000) (disch := omega) only [NN, Ty.den, dflt_kv]))
          try simp (maxSteps := 2000000) (disch := omega) only [NN, Ty.den, dflt_kv, Nat.zero_add]
          have hs := left_set a1 hcl (a.getD c 0 + 1)
          have hnx := inv.next (by omega) hz hbest hnd
          rw [← hs] at hnx
          have hfl := hfs.length_eq
          rw [← hs, List.length_cons] at hfl
          exact hK1 (a.set c (a.getD c 0 + 1), out ++ [z]) ⟨⟨by show (a.set c _).length = _; rw [List.length_set]; exact a1, fun j hj => by
            show 0 ≤ (a.set c (a.getD c 0 + 1)).getD j 0 ∧ (a.set c (a.getD c 0 + 1)).getD j 0 ≤ _
            by_cases e : c = j
            · subst e
              have e1 : (a.set c (a.getD c 0 + 1)).getD c 0 = a.getD c 0 + 1 := by simp [List.getD_eq_getElem?_getD, a1, hcl]
              rw [e1]; omega
            · have e1 : (a.set c (a.getD c 0 + 1)).getD j 0 = a.getD j 0 := by simp [List.getD_eq_getElem?_getD, List.getElem?_set, e]
              rw [e1]; exact a2 j hj⟩, hnx⟩ (by show (left l (a.set c _)).flatten.length < (left l a).flatten.length; omega)
        · have hom : out.getD (out.length - 1) kvd ∈ out := by rw [getD_at (by omega)]; exact List.getElem_mem _
          refine br_go (tst_t (by omega)) ?_
          conv => lhs; whnf
          try simp (maxSteps := 2000000) (disch := omega) only [NN, Ty.den, dflt_kv]
          repeat (refine br_go ?_ ?_; (focus (((repeat' first | exact rfl | exact ordB_st rfl | exact ordB_of rfl | apply band | apply tst_t | apply nt_t)  <;> (try dsimp only [Ty.den, dflt_kv]) <;> (try simp only [LL, List.length_set]) <;> (first | trivial | assumption | omega | (change (_ : Int) ≤ _; omega) | (change (_ : Int) < _; omega) | (change (_ : Nat) * 1 ≤ _; omega) | (change (_ : Nat) * 48 ≤ _; omega) | (change (_ : Nat) * 24 ≤ _; omega) | (change (_ : Nat) * 8 ≤ _; omega) | (change (_ : Nat) * 64 ≤ _; omega) | decide)); done)); (conv => lhs; whnf); (try simp (maxSteps := 2000000) (disch := omega) only [NN, Ty.den, dflt_kv]))
          by_cases he : order (out.getD (out.length - 1) kvd).1 z.1 = 0
          · refine br_go (tst_t (he)) ?_
            conv => lhs; whnf
            try simp (maxSteps := 2000000) (disch := omega) only [NN, Ty.den, dflt_kv]
            repeat (refine br_go ?_ ?_; (focus (((repeat' first | exact rfl | exact ordB_st rfl | exact ordB_of rfl | apply band | apply tst_t | apply nt_t)  <;> (try dsimp only [Ty.den, dflt_kv]) <;> (try simp only [LL, List.length_set]) <;> (first | trivial | assumption | omega | (change (_ : Int) ≤ _; omega) | (change (_ : Int) < _; omega) | (change (_ : Nat) * 1 ≤ _; omega) | (change (_ : Nat) * 48 ≤ _; omega) | (change (_ : Nat) * 24 ≤ _; omega) | (change (_ : Nat) * 8 ≤ _; omega) | (change (_ : Nat) * 64 ≤ _; omega) | decide)); done)); (conv => lhs; whnf); (try simp (maxSteps := 2000000) (disch := omega) only [NN, Ty.den, dflt_kv]))
            rw [hkm]
            conv => lhs; whnf
            try simp (maxSteps := 2000000) (disch := omega) only [NN, Ty.den, dflt_kv]
            repeat (refine br_go ?_ ?_; (focus (((repeat' first | exact rfl | exact ordB_st rfl | exact ordB_of rfl | apply band | apply tst_t | apply nt_t)  <;> (try dsimp only [Ty.den, dflt_kv]) <;> (try simp only [LL, List.length_set]) <;> (first | trivial | assumption | omega | (change (_ : Int) ≤ _; omega) | (change (_ : Int) < _; omega) | (change (_ : Nat) * 1 ≤ _; omega) | (change (_ : Nat) * 48 ≤ _; omega) | (change (_ : Nat) * 24 ≤ _; omega) | (change (_ : Nat) * 8 ≤ _; omega) | (change (_ : Nat) * 64 ≤ _; omega) | decide)); done)); (conv => lhs; whnf); (try simp (maxSteps := 2000000) (disch := omega) only [NN, Ty.den, dflt_kv]))
            have hpd : (out ++ z :: ((left l a).set c ((l.getD c []).drop (a.getD c 0 + 1).toNat)).flatten).Perm l.flatten := (hfs.symm.append_left out).trans inv.perm
            rw [merge_dup hpd hom he]
          · have hnd := inv.apart hzm (.inr he)
            refine br_no (tst_f (he)) ?_
            conv => lhs; whnf
            try simp (maxSteps := 2000000) (disch := omega) only [NN, Ty.den, dflt_kv]
            repeat (refine br_go ?_ ?_; (focus (((repeat' first | exact rfl | exact ordB_st rfl | exact ordB_of rfl | apply band | apply tst_t | apply nt_t)  <;> (try dsimp only [Ty.den, dflt_kv]) <;> (try simp only [LL, List.length_set]) <;> (first | trivial | assumption | omega | (change (_ : Int) ≤ _; omega) | (change (_ : Int) < _; omega) | (change (_ : Nat) * 1 ≤ _; omega) | (change (_ : Nat) * 48 ≤ _; omega) | (change (_ : Nat) * 24 ≤ _; omega) | (change (_ : Nat) * 8 ≤ _; omega) | (change (_ : Nat) * 64 ≤ _; omega) | decide)); done)); (conv => lhs; whnf); (try simp (maxSteps := 2000000) (disch := omega) only [NN, Ty.den, dflt_kv]))
            try simp (maxSteps := 2000000) (disch := omega) only [NN, Ty.den, dflt_kv, Nat.zero_add]
            repeat (refine br_go ?_ ?_; (focus (((repeat' first | exact rfl | exact ordB_st rfl | exact ordB_of rfl | apply band | apply tst_t | apply nt_t)  <;> (try dsimp only [Ty.den, dflt_kv]) <;> (try simp only [LL, List.length_set]) <;> (first | trivial | assumption | omega | (change (_ : Int) ≤ _; omega) | (change (_ : Int) < _; omega) | (change (_ : Nat) * 1 ≤ _; omega) | (change (_ : Nat) * 48 ≤ _; omega) | (change (_ : Nat) * 24 ≤ _; omega) | (change (_ : Nat) * 8 ≤ _; omega) | (change (_ : Nat) * 64 ≤ _; omega) | decide)); done)); (conv => lhs; whnf); (try simp (maxSteps := 2000000) (disch := omega) only [NN, Ty.den, dflt_kv]))
            try simp (maxSteps := 2000000) (disch := omega) only [NN, Ty.den, dflt_kv, Nat.zero_add]
            have hs := left_set a1 hcl (a.getD c 0 + 1)
            have hnx := inv.next (by omega) hz hbest hnd
            rw [← hs] at hnx
            have hfl := hfs.length_eq
            rw [← hs, List.length_cons] at hfl
            exact hK1 (a.set c (a.getD c 0 + 1), out ++ [z]) ⟨⟨by show (a.set c _).length = _; rw [List.length_set]; exact a1, fun j hj => by
              show 0 ≤ (a.set c (a.getD c 0 + 1)).getD j 0 ∧ (a.set c (a.getD c 0 + 1)).getD j 0 ≤ _
              by_cases e : c = j
              · subst e
                have e1 : (a.set c (a.getD c 0 + 1)).getD c 0 = a.getD c 0 + 1 := by simp [List.getD_eq_getElem?_getD, a1, hcl]
                rw [e1]; omega
              · have e1 : (a.set c (a.getD c 0 + 1)).getD j 0 = a.getD j 0 := by simp [List.getD_eq_getElem?_getD, List.getElem?_set, e]
                rw [e1]; exact a2 j hj⟩, hnx⟩ (by show (left l (a.set c _)).flatten.length < (left l a).flatten.length; omega)
end Go.Proofs.Ytmpmmfbgdpfnpaa.Ev
/- Entries held against one another, copied, looked at: by the helps. -/
namespace Go.Proofs.Ytmpmmfbgdpfnpaa.Ev
open Go Go.RowKit
set_option linter.unusedVariables false
set_option linter.unusedSimpArgs false
set_option maxRecDepth 100000
set_option maxHeartbeats 8000000
abbrev hbytesC : Ctx := ⟨rows, (fun  | _ => ([], []))⟩
theorem hbytes_ok (T : Tab) : hbytesSp.Ok T hbytesC F20 := by
  rintro ⟨(a : List Int), (b : List Int), _⟩ hf _
  obtain ⟨F, hF⟩ : ∃ F : Nat, F = 1 := ⟨_, rfl⟩
  refine ⟨F, 0, ?_⟩
  show evFn _ _ _ _ _ [vB a, vB b] [] _ = some (vT (a = b) : V)
  conv => lhs; whnf
  try simp (maxSteps := 2000000) (disch := omega) only [NN, Ty.den, dflt_kv]
abbrev kvsC : Ctx := ⟨rows, (fun | 0 => ([0, 1, 5], []) | 1 => ([], [0, 1, 5]) | _ => ([], []))⟩
theorem kvs_ok (T : Tab) : kvsSp.Ok T kvsC F13 := by
  rintro ⟨(a : List KV), (b : List KV), _⟩ hf _
  have ha : a.length ≤ 140737488355328 := (fits_kvl.1 hf.1).1
  have hb : b.length ≤ 140737488355328 := (fits_kvl.1 hf.2.1).1
  obtain ⟨F, hF⟩ : ∃ F : Nat, F = a.length + 1 := ⟨_, rfl⟩
  refine ⟨F, 0, ?_⟩
  show evFn _ _ _ _ _ [vK a, vK b] [] _ = some (vT (a = b) : V)
  conv => lhs; whnf
  try simp (maxSteps := 2000000) (disch := omega) only [NN, Ty.den, dflt_kv]
  by_cases hl : a.length = b.length
  · refine br_no (tst_f (by omega)) ?_
    conv => lhs; whnf
    try simp (maxSteps := 2000000) (disch := omega) only [NN, Ty.den, dflt_kv]
    refine loop_rule (α := Nat) (fun i => i ≤ a.length) (fun i => a.length - i)
      (fun i => (vK a :: vK b :: V.bad :: V.bad :: V.bad :: vI i :: V.bad :: V.bad :: V.bad :: V.bad :: V.bad :: V.bad :: V.bad :: V.bad :: V.bad :: V.bad :: V.bad :: V.bad :: V.bad :: V.bad :: V.bad :: V.bad :: V.bad :: V.bad :: V.bad :: V.bad :: V.bad :: V.bad :: V.bad :: V.bad :: V.bad :: V.bad :: V.bad :: V.bad :: V.bad :: V.bad :: V.bad :: V.bad :: V.bad :: V.bad :: V.bad :: V.bad :: V.bad :: V.bad :: V.bad :: [])) (fun i => [.gone, .gone])
      (fun i => some (vT (a.drop i = b.drop i))) ?_ F 0 (by omega) (by omega)
    rintro i K h1 hK
    conv => lhs; whnf
    try simp (maxSteps := 2000000) (disch := omega) only [NN, Ty.den, dflt_kv]
    by_cases hi : i < a.length
    · refine br_go (tst_t (by omega)) ?_
      conv => lhs; whnf
      try simp (maxSteps := 2000000) (disch := omega) only [NN, Ty.den, dflt_kv]
      repeat (refine br_go ?_ ?_; (focus (((repeat' first | exact rfl | exact ordB_st rfl | exact ordB_of rfl | apply band | apply tst_t | apply nt_t)  <;> (try dsimp only [Ty.den, dflt_kv]) <;> (try simp only [LL]) <;> (first | trivial | assumption | omega | (change (_ : Int) ≤ _; omega) | (change (_ : Int) < _; omega) | (change (_ : Nat) * 1 ≤ _; omega) | (change (_ : Nat) * 48 ≤ _; omega) | (change (_ : Nat) * 24 ≤ _; omega) | (change (_ : Nat) * 8 ≤ _; omega) | (change (_ : Nat) * 64 ≤ _; omega) | decide)); done)); (conv => lhs; whnf); (try simp (maxSteps := 2000000) (disch := omega) only [NN, Ty.den, dflt_kv]))
      have hj : i < b.length := by omega
      rw [drop_at (d := kvd) hi, drop_at (d := kvd) hj]
      by_cases h1 : (a.getD i kvd).1 = (b.getD i kvd).1
      · refine br_no (tst_f (by simpa using h1)) ?_
        conv => lhs; whnf
        try simp (maxSteps := 2000000) (disch := omega) only [NN, Ty.den, dflt_kv]
        repeat (refine br_go ?_ ?_; (focus (((repeat' first | exact rfl | exact ordB_st rfl | exact ordB_of rfl | apply band | apply tst_t | apply nt_t)  <;> (try dsimp only [Ty.den, dflt_kv]) <;> (try simp only [LL]) <;> (first | trivial | assumption | omega | (change (_ : Int) ≤ _; omega) | (change (_ : Int) < _; omega) | (change (_ : Nat) * 1 ≤ _; omega) | (change (_ : Nat) * 48 ≤ _; omega) | (change (_ : Nat) * 24 ≤ _; omega) | (change (_ : Nat) * 8 ≤ _; omega) | (change (_ : Nat) * 64 ≤ _; omega) | decide)); done)); (conv => lhs; whnf); (try simp (maxSteps := 2000000) (disch := omega) only [NN, Ty.den, dflt_kv]))
        by_cases h2 : (a.getD i kvd).2.1 = (b.getD i kvd).2.1
        · refine br_no (tst_f (by simpa using h2)) ?_
          conv => lhs; whnf
          try simp (maxSteps := 2000000) (disch := omega) only [NN, Ty.den, dflt_kv]
          refine (hK (i + 1) (by omega) (by omega)).trans ?_
          have e : a.getD i kvd = b.getD i kvd := by
            rw [Prod.ext_iff]; exact ⟨h1, by rw [Prod.ext_iff]; exact ⟨h2, rfl⟩⟩
          rw [e]
          simp only [List.cons.injEq, true_and]
        · refine br_go (tst_t (by simpa using h2)) ?_
          conv => lhs; whnf
          try simp (maxSteps := 2000000) (disch := omega) only [NN, Ty.den, dflt_kv]
          repeat (refine br_go ?_ ?_; (focus (((repeat' first | exact rfl | exact ordB_st rfl | exact ordB_of rfl | apply band | apply tst_t | apply nt_t)  <;> (try dsimp only [Ty.den, dflt_kv]) <;> (try simp only [LL]) <;> (first | trivial | assumption | omega | (change (_ : Int) ≤ _; omega) | (change (_ : Int) < _; omega) | (change (_ : Nat) * 1 ≤ _; omega) | (change (_ : Nat) * 48 ≤ _; omega) | (change (_ : Nat) * 24 ≤ _; omega) | (change (_ : Nat) * 8 ≤ _; omega) | (change (_ : Nat) * 64 ≤ _; omega) | decide)); done)); (conv => lhs; whnf); (try simp (maxSteps := 2000000) (disch := omega) only [NN, Ty.den, dflt_kv]))
          exact bo_f (p := _ :: _ = _ :: _) fun h => h2 (congrArg (fun x : KV => x.2.1) (List.cons.inj h).1)
      · refine br_go (tst_t (by simpa using h1)) ?_
        conv => lhs; whnf
        try simp (maxSteps := 2000000) (disch := omega) only [NN, Ty.den, dflt_kv]
        repeat (refine br_go ?_ ?_; (focus (((repeat' first | exact rfl | exact ordB_st rfl | exact ordB_of rfl | apply band | apply tst_t | apply nt_t)  <;> (try dsimp only [Ty.den, dflt_kv]) <;> (try simp only [LL]) <;> (first | trivial | assumption | omega | (change (_ : Int) ≤ _; omega) | (change (_ : Int) < _; omega) | (change (_ : Nat) * 1 ≤ _; omega) | (change (_ : Nat) * 48 ≤ _; omega) | (change (_ : Nat) * 24 ≤ _; omega) | (change (_ : Nat) * 8 ≤ _; omega) | (change (_ : Nat) * 64 ≤ _; omega) | decide)); done)); (conv => lhs; whnf); (try simp (maxSteps := 2000000) (disch := omega) only [NN, Ty.den, dflt_kv]))
        exact bo_f (p := _ :: _ = _ :: _) fun h => h1 (congrArg (fun x : KV => x.1) (List.cons.inj h).1)
    · refine br_no (tst_f (by omega)) ?_
      conv => lhs; whnf
      try simp (maxSteps := 2000000) (disch := omega) only [NN, Ty.den, dflt_kv]
      exact bo_t (by rw [List.drop_eq_nil_of_le (by omega : a.length ≤ i), List.drop_eq_nil_of_le (by omega : b.length ≤ i)])
  · refine br_go (tst_t (by omega)) ?_
    conv => lhs; whnf
    try simp (maxSteps := 2000000) (disch := omega) only [NN, Ty.den, dflt_kv]
    exact bo_f (fun h => hl (by rw [h]))
end Go.Proofs.Ytmpmmfbgdpfnpaa.Ev
/- Lists merged, and what stays of them: by the program and by the document. -/
namespace Go.Proofs.Ytmpmmfbgdpfnpaa.Ev
open Go Go.RowKit
set_option linter.unusedVariables false
set_option linter.unusedSimpArgs false
set_option maxRecDepth 100000
set_option maxHeartbeats 8000000
/-- is it left out, behind another one? -/
def behK (old : Int) (p : Option KV) (x : KV) : Bool := match p with | some w => decide ((split w.1).1 = (split x.1).1 ∧ (split w.1).2.1 ≤ old) | none => false
def goneK (old : Int) (dp : List KV) (x : KV) : Bool := decide ((split x.1).2.2.1 = 0) && (decide ((split x.1).2.1 ≤ old) && !inB dp (split x.1).1)
def keepGo (old : Int) (dp : List KV) : Option KV → List KV → List KV
  | _, [] => []
  | p, x :: l => if (behK old p x || goneK old dp x) = true then keepGo old dp (some x) l else x :: keepGo old dp (some x) l
def mgS (l : List (List KV)) (old : Int) (dp : List KV) : List KV × Int := if (sortedS l).2 = true then (keepGo old dp none (sortedS l).1, 0) else ([], 101)
noncomputable def mgSp : Sp := ⟨[kvll, u64, kvl], fun x => tst (fewL x.1), fun x => .tup [.own 0 kv (mgS x.1 x.2.1 x.2.2.1).1, vI (mgS x.1 x.2.1 x.2.2.1).2]⟩
def prevK (l : List KV) (i : Nat) : Option KV := if i = 0 then none else some (l.getD (i - 1) kvd)
theorem sortedS_len (l : List (List KV)) : (sortedS l).1.length ≤ l.flatten.length := by
  unfold sortedS mergeS
  split
  · split
    · exact Nat.le_of_eq (sortK_perm _).length_eq
    · exact Nat.zero_le _
  · exact Nat.zero_le _
theorem keepGo_len (old : Int) (dp : List KV) : ∀ (l : List KV) (p : Option KV), (keepGo old dp p l).length ≤ l.length
  | [], _ => Nat.le_refl _
  | x :: l, p => by
    rw [keepGo]
    have := keepGo_len old dp l (some x)
    split <;> simp only [List.length_cons] <;> omega
abbrev rmergeC : Ctx := ⟨rows, (fun | 0 => ([1, 2, 8, 10, 11], [10]) | 1 => ([], [1, 2, 8, 10, 11]) | _ => ([], []))⟩
theorem rmerge_ok (T : Tab) (h1 : T 14 = sortedSp.ent) (h2 : T 16 = rsplitSp.ent) (h3 : T 17 = cmpBSp.ent) (h4 : T 15 = inSp.ent) : mgSp.Ok T rmergeC F12 := by
  rw [on_top h1, on_top h2, on_top h3, on_top h4]
  rintro ⟨(l : List (List KV)), (old : Int), (dp : List KV), _⟩ hf hp
  obtain ⟨hl, ht⟩ : fewL l := tst_iff.1 hp
  have hw : fewL l := ⟨hl, ht⟩
  obtain ⟨F, hF⟩ : ∃ F : Nat, F = 500 := ⟨_, rfl⟩
  refine ⟨F, 0, ?_⟩
  show evFn _ _ _ _ _ [.d kvll l, vU old, vK dp] [] _ = some (.tup [.own 0 kv (mgS l old dp).1, vI (mgS l old dp).2] : V)
  conv => lhs; whnf
  try simp (maxSteps := 2000000) (disch := omega) only [NN, Ty.den, dflt_kv]
  unfold mgS
  have hsl := sortedS_len l
  repeat (refine br_go ?_ ?_; (focus (((repeat' first | exact rfl | exact ordB_st rfl | exact ordB_of rfl | apply band | apply tst_t | apply nt_t)  <;> (try dsimp only [Ty.den, dflt_kv]) <;> (try simp only [LL]) <;> (first | trivial | assumption | omega | (change (_ : Int) ≤ _; omega) | (change (_ : Int) < _; omega) | (change (_ : Nat) * 1 ≤ _; omega) | (change (_ : Nat) * 48 ≤ _; omega) | (change (_ : Nat) * 24 ≤ _; omega) | (change (_ : Nat) * 8 ≤ _; omega) | (change (_ : Nat) * 64 ≤ _; omega) | decide)); done)); (conv => lhs; whnf); (try simp (maxSteps := 2000000) (disch := omega) only [NN, Ty.den, dflt_kv]))
  generalize sortedS l = R at *
  obtain ⟨m, ok⟩ := R
  cases ok with
  | false =>
    rw [if_neg (by simp)]
    conv => lhs; whnf
    try simp (maxSteps := 2000000) (disch := omega) only [NN, Ty.den, dflt_kv]
    repeat (refine br_go ?_ ?_; (focus (((repeat' first | exact rfl | exact ordB_st rfl | exact ordB_of rfl | apply band | apply tst_t | apply nt_t)  <;> (try dsimp only [Ty.den, dflt_kv]) <;> (try simp only [LL]) <;> (first | trivial | assumption | omega | (change (_ : Int) ≤ _; omega) | (change (_ : Int) < _; omega) | (change (_ : Nat) * 1 ≤ _; omega) | (change (_ : Nat) * 48 ≤ _; omega) | (change (_ : Nat) * 24 ≤ _; omega) | (change (_ : Nat) * 8 ≤ _; omega) | (change (_ : Nat) * 64 ≤ _; omega) | decide)); done)); (conv => lhs; whnf); (try simp (maxSteps := 2000000) (disch := omega) only [NN, Ty.den, dflt_kv]))
  | true =>
    rw [if_pos rfl]
    conv => lhs; whnf
    try simp (maxSteps := 2000000) (disch := omega) only [NN, Ty.den, dflt_kv]
    repeat (refine br_go ?_ ?_; (focus (((repeat' first | exact rfl | exact ordB_st rfl | exact ordB_of rfl | apply band | apply tst_t | apply nt_t)  <;> (try dsimp only [Ty.den, dflt_kv]) <;> (try simp only [LL]) <;> (first | trivial | assumption | omega | (change (_ : Int) ≤ _; omega) | (change (_ : Int) < _; omega) | (change (_ : Nat) * 1 ≤ _; omega) | (change (_ : Nat) * 48 ≤ _; omega) | (change (_ : Nat) * 24 ≤ _; omega) | (change (_ : Nat) * 8 ≤ _; omega) | (change (_ : Nat) * 64 ≤ _; omega) | decide)); done)); (conv => lhs; whnf); (try simp (maxSteps := 2000000) (disch := omega) only [NN, Ty.den, dflt_kv]))
    have hsl : m.length ≤ l.flatten.length := hsl
    refine loop_ruleK (α := Nat × List KV) (fun s => s.1 ≤ m.length ∧ s.2 ++ keepGo old dp (prevK m s.1) (m.drop s.1) = keepGo old dp none m ∧ s.2.length ≤ s.1) (fun s => m.length - s.1)
      (fun s => (V.bad :: vU old :: vK dp :: V.bad :: V.bad :: V.bad :: V.bad :: V.bad :: V.own 1 kv m :: V.bad :: V.own 3 kv s.2 :: vI s.1 :: V.bad :: V.bad :: V.bad :: V.bad :: V.bad :: V.bad :: V.bad :: V.bad :: V.bad :: V.bad :: V.bad :: V.bad :: V.bad :: V.bad :: V.bad :: V.bad :: V.bad :: V.bad :: V.bad :: V.bad :: V.bad :: V.bad :: V.bad :: V.bad :: V.bad :: V.bad :: V.bad :: V.bad :: V.bad :: V.bad :: V.bad :: V.bad :: V.bad :: V.bad :: V.bad :: V.bad :: V.bad :: V.bad :: V.bad :: V.bad :: V.bad :: V.bad :: V.bad :: V.bad :: V.bad :: V.bad :: V.bad :: V.bad :: V.bad :: V.bad :: V.bad :: V.bad :: V.bad :: V.bad :: V.bad :: V.bad :: V.bad :: V.bad :: V.bad :: V.bad :: V.bad :: V.bad :: V.bad :: V.bad :: V.bad :: V.bad :: V.bad :: V.bad :: V.bad :: V.bad :: V.bad :: V.bad :: V.bad :: V.bad :: V.bad :: V.bad :: []))
      (fun s => [.fam 0, .fam m.length, .gone, .fam s.2.length])
      (fun _ => some (V.tup [.own 0 kv (keepGo old dp none m), vI 0])) ?_ F (0, []) ⟨Nat.zero_le _, rfl, Nat.le_refl _⟩ (by show m.length - 0 < F; omega)
    rintro kkm hkm ⟨i, out⟩ K ⟨k1, k2, k3⟩ hK
    simp only at k1 k2 k3 hK ⊢
    conv => lhs; whnf
    try simp (maxSteps := 2000000) (disch := omega) only [NN, Ty.den, dflt_kv]
    by_cases hi : i < m.length
    · refine br_go (tst_t (by omega)) ?_
      conv => lhs; whnf
      try simp (maxSteps := 2000000) (disch := omega) only [NN, Ty.den, dflt_kv]
      rw [drop_at (d := kvd) hi, keepGo] at k2
      have hpn : prevK m (i + 1) = some (m.getD i kvd) := by unfold prevK; rw [if_neg (by omega), Nat.add_sub_cancel]
      have hkeep : ∀ out', out' ++ keepGo old dp (some (m.getD i kvd)) (m.drop (i + 1)) = keepGo old dp none m → out' ++ keepGo old dp (prevK m (i + 1)) (m.drop (i + 1)) = keepGo old dp none m := fun out' h => by rw [hpn]; exact h
      repeat (refine br_go ?_ ?_; (focus (((repeat' first | exact rfl | exact ordB_st rfl | exact ordB_of rfl | apply band | apply tst_t | apply nt_t)  <;> (try dsimp only [Ty.den, dflt_kv]) <;> (try simp only [LL]) <;> (first | trivial | assumption | omega | (change (_ : Int) ≤ _; omega) | (change (_ : Int) < _; omega) | (change (_ : Nat) * 1 ≤ _; omega) | (change (_ : Nat) * 48 ≤ _; omega) | (change (_ : Nat) * 24 ≤ _; omega) | (change (_ : Nat) * 8 ≤ _; omega) | (change (_ : Nat) * 64 ≤ _; omega) | decide)); done)); (conv => lhs; whnf); (try simp (maxSteps := 2000000) (disch := omega) only [NN, Ty.den, dflt_kv]))
      by_cases h0 : i = 0
      · refine br_no (tst_f (by omega)) ?_
        conv => lhs; whnf
        try simp (maxSteps := 2000000) (disch := omega) only [NN, Ty.den, dflt_kv]
        repeat (refine br_go ?_ ?_; (focus (((repeat' first | exact rfl | exact ordB_st rfl | exact ordB_of rfl | apply band | apply tst_t | apply nt_t)  <;> (try dsimp only [Ty.den, dflt_kv]) <;> (try simp only [LL]) <;> (first | trivial | assumption | omega | (change (_ : Int) ≤ _; omega) | (change (_ : Int) < _; omega) | (change (_ : Nat) * 1 ≤ _; omega) | (change (_ : Nat) * 48 ≤ _; omega) | (change (_ : Nat) * 24 ≤ _; omega) | (change (_ : Nat) * 8 ≤ _; omega) | (change (_ : Nat) * 64 ≤ _; omega) | decide)); done)); (conv => lhs; whnf); (try simp (maxSteps := 2000000) (disch := omega) only [NN, Ty.den, dflt_kv]))
        have hb : behK old (prevK m i) (m.getD i kvd) = false := by subst h0; rfl
        rw [hb, Bool.false_or] at k2
        by_cases g1 : (split (m.getD i kvd).1).2.2.1 = 0
        · refine br_go (tst_t (g1)) ?_
          conv => lhs; whnf
          try simp (maxSteps := 2000000) (disch := omega) only [NN, Ty.den, dflt_kv]
          repeat (refine br_go ?_ ?_; (focus (((repeat' first | exact rfl | exact ordB_st rfl | exact ordB_of rfl | apply band | apply tst_t | apply nt_t)  <;> (try dsimp only [Ty.den, dflt_kv]) <;> (try simp only [LL]) <;> (first | trivial | assumption | omega | (change (_ : Int) ≤ _; omega) | (change (_ : Int) < _; omega) | (change (_ : Nat) * 1 ≤ _; omega) | (change (_ : Nat) * 48 ≤ _; omega) | (change (_ : Nat) * 24 ≤ _; omega) | (change (_ : Nat) * 8 ≤ _; omega) | (change (_ : Nat) * 64 ≤ _; omega) | decide)); done)); (conv => lhs; whnf); (try simp (maxSteps := 2000000) (disch := omega) only [NN, Ty.den, dflt_kv]))
          by_cases g2 : (split (m.getD i kvd).1).2.1 ≤ old
          · refine br_go (tst_t (g2)) ?_
            conv => lhs; whnf
            try simp (maxSteps := 2000000) (disch := omega) only [NN, Ty.den, dflt_kv]
            repeat (refine br_go ?_ ?_; (focus (((repeat' first | exact rfl | exact ordB_st rfl | exact ordB_of rfl | apply band | apply tst_t | apply nt_t)  <;> (try dsimp only [Ty.den, dflt_kv]) <;> (try simp only [LL]) <;> (first | trivial | assumption | omega | (change (_ : Int) ≤ _; omega) | (change (_ : Int) < _; omega) | (change (_ : Nat) * 1 ≤ _; omega) | (change (_ : Nat) * 48 ≤ _; omega) | (change (_ : Nat) * 24 ≤ _; omega) | (change (_ : Nat) * 8 ≤ _; omega) | (change (_ : Nat) * 64 ≤ _; omega) | decide)); done)); (conv => lhs; whnf); (try simp (maxSteps := 2000000) (disch := omega) only [NN, Ty.den, dflt_kv]))
            cases g3 : inB dp (split (m.getD i kvd).1).1 with
            | false =>
              try simp (maxSteps := 2000000) (disch := omega) only [NN, Ty.den, dflt_kv, g3]
              conv => lhs; whnf
              try simp (maxSteps := 2000000) (disch := omega) only [NN, Ty.den, dflt_kv]
              repeat (refine br_go ?_ ?_; (focus (((repeat' first | exact rfl | exact ordB_st rfl | exact ordB_of rfl | apply band | apply tst_t | apply nt_t)  <;> (try dsimp only [Ty.den, dflt_kv]) <;> (try simp only [LL]) <;> (first | trivial | assumption | omega | (change (_ : Int) ≤ _; omega) | (change (_ : Int) < _; omega) | (change (_ : Nat) * 1 ≤ _; omega) | (change (_ : Nat) * 48 ≤ _; omega) | (change (_ : Nat) * 24 ≤ _; omega) | (change (_ : Nat) * 8 ≤ _; omega) | (change (_ : Nat) * 64 ≤ _; omega) | decide)); done)); (conv => lhs; whnf); (try simp (maxSteps := 2000000) (disch := omega) only [NN, Ty.den, dflt_kv]))
              have hg : goneK old dp (m.getD i kvd) = true := by unfold goneK; rw [decide_eq_true g1, decide_eq_true g2, g3]; rfl
              rw [hg, if_pos rfl] at k2
              exact hK (i + 1, out) ⟨by show i + 1 ≤ _; omega, hkeep _ k2, by show out.length ≤ i + 1; omega⟩ (by show m.length - (i + 1) < m.length - i; omega)
            | true =>
              try simp (maxSteps := 2000000) (disch := omega) only [NN, Ty.den, dflt_kv, g3]
              conv => lhs; whnf
              try simp (maxSteps := 2000000) (disch := omega) only [NN, Ty.den, dflt_kv]
              repeat (refine br_go ?_ ?_; (focus (((repeat' first | exact rfl | exact ordB_st rfl | exact ordB_of rfl | apply band | apply tst_t | apply nt_t)  <;> (try dsimp only [Ty.den, dflt_kv]) <;> (try simp only [LL]) <;> (first | trivial | assumption | omega | (change (_ : Int) ≤ _; omega) | (change (_ : Int) < _; omega) | (change (_ : Nat) * 1 ≤ _; omega) | (change (_ : Nat) * 48 ≤ _; omega) | (change (_ : Nat) * 24 ≤ _; omega) | (change (_ : Nat) * 8 ≤ _; omega) | (change (_ : Nat) * 64 ≤ _; omega) | decide)); done)); (conv => lhs; whnf); (try simp (maxSteps := 2000000) (disch := omega) only [NN, Ty.den, dflt_kv]))
              have hg : goneK old dp (m.getD i kvd) = false := by unfold goneK; rw [g3]; simp
              rw [hg, if_neg (by decide)] at k2
              exact hK (i + 1, out ++ [m.getD i kvd]) ⟨by show i + 1 ≤ _; omega, hkeep _ (by rw [List.append_assoc]; exact k2), by show (out ++ [_]).length ≤ i + 1; rw [List.length_append, List.length_singleton]; omega⟩ (by show m.length - (i + 1) < m.length - i; omega)
          · refine br_no (tst_f (g2)) ?_
            conv => lhs; whnf
            try simp (maxSteps := 2000000) (disch := omega) only [NN, Ty.den, dflt_kv]
            repeat (refine br_go ?_ ?_; (focus (((repeat' first | exact rfl | exact ordB_st rfl | exact ordB_of rfl | apply band | apply tst_t | apply nt_t)  <;> (try dsimp only [Ty.den, dflt_kv]) <;> (try simp only [LL]) <;> (first | trivial | assumption | omega | (change (_ : Int) ≤ _; omega) | (change (_ : Int) < _; omega) | (change (_ : Nat) * 1 ≤ _; omega) | (change (_ : Nat) * 48 ≤ _; omega) | (change (_ : Nat) * 24 ≤ _; omega) | (change (_ : Nat) * 8 ≤ _; omega) | (change (_ : Nat) * 64 ≤ _; omega) | decide)); done)); (conv => lhs; whnf); (try simp (maxSteps := 2000000) (disch := omega) only [NN, Ty.den, dflt_kv]))
            have hg : goneK old dp (m.getD i kvd) = false := by unfold goneK; rw [decide_eq_false g2]; simp
            rw [hg, if_neg (by decide)] at k2
            exact hK (i + 1, out ++ [m.getD i kvd]) ⟨by show i + 1 ≤ _; omega, hkeep _ (by rw [List.append_assoc]; exact k2), by show (out ++ [_]).length ≤ i + 1; rw [List.length_append, List.length_singleton]; omega⟩ (by show m.length - (i + 1) < m.length - i; omega)
        · refine br_no (tst_f (g1)) ?_
          conv => lhs; whnf
          try simp (maxSteps := 2000000) (disch := omega) only [NN, Ty.den, dflt_kv]
          repeat (refine br_go ?_ ?_; (focus (((repeat' first | exact rfl | exact ordB_st rfl | exact ordB_of rfl | apply band | apply tst_t | apply nt_t)  <;> (try dsimp only [Ty.den, dflt_kv]) <;> (try simp only [LL]) <;> (first | trivial | assumption | omega | (change (_ : Int) ≤ _; omega) | (change (_ : Int) < _; omega) | (change (_ : Nat) * 1 ≤ _; omega) | (change (_ : Nat) * 48 ≤ _; omega) | (change (_ : Nat) * 24 ≤ _; omega) | (change (_ : Nat) * 8 ≤ _; omega) | (change (_ : Nat) * 64 ≤ _; omega) | decide)); done)); (conv => lhs; whnf); (try simp (maxSteps := 2000000) (disch := omega) only [NN, Ty.den, dflt_kv]))
          have hg : goneK old dp (m.getD i kvd) = false := by unfold goneK; rw [decide_eq_false g1]; simp
          rw [hg, if_neg (by decide)] at k2
          exact hK (i + 1, out ++ [m.getD i kvd]) ⟨by show i + 1 ≤ _; omega, hkeep _ (by rw [List.append_assoc]; exact k2), by show (out ++ [_]).length ≤ i + 1; rw [List.length_append, List.length_singleton]; omega⟩ (by show m.length - (i + 1) < m.length - i; omega)
      · refine br_go (tst_t (by omega)) ?_
        conv => lhs; whnf
        try simp (maxSteps := 2000000) (disch := omega) only [NN, Ty.den, dflt_kv]
        repeat (refine br_go ?_ ?_; (focus (((repeat' first | exact rfl | exact ordB_st rfl | exact ordB_of rfl | apply band | apply tst_t | apply nt_t)  <;> (try dsimp only [Ty.den, dflt_kv]) <;> (try simp only [LL]) <;> (first | trivial | assumption | omega | (change (_ : Int) ≤ _; omega) | (change (_ : Int) < _; omega) | (change (_ : Nat) * 1 ≤ _; omega) | (change (_ : Nat) * 48 ≤ _; omega) | (change (_ : Nat) * 24 ≤ _; omega) | (change (_ : Nat) * 8 ≤ _; omega) | (change (_ : Nat) * 64 ≤ _; omega) | decide)); done)); (conv => lhs; whnf); (try simp (maxSteps := 2000000) (disch := omega) only [NN, Ty.den, dflt_kv]))
        have hp : prevK m i = some (m.getD (i - 1) kvd) := if_neg h0
        rw [hp] at k2
        by_cases hu : cmpB (split (m.getD i kvd).1).1 (split (m.getD (i - 1) kvd).1).1 = 0
        · have hu2 : (split (m.getD (i - 1) kvd).1).1 = (split (m.getD i kvd).1).1 := (cmpB_zero hu).symm
          refine br_go (tst_t (hu)) ?_
          conv => lhs; whnf
          try simp (maxSteps := 2000000) (disch := omega) only [NN, Ty.den, dflt_kv]
          repeat (refine br_go ?_ ?_; (focus (((repeat' first | exact rfl | exact ordB_st rfl | exact ordB_of rfl | apply band | apply tst_t | apply nt_t)  <;> (try dsimp only [Ty.den, dflt_kv]) <;> (try simp only [LL]) <;> (first | trivial | assumption | omega | (change (_ : Int) ≤ _; omega) | (change (_ : Int) < _; omega) | (change (_ : Nat) * 1 ≤ _; omega) | (change (_ : Nat) * 48 ≤ _; omega) | (change (_ : Nat) * 24 ≤ _; omega) | (change (_ : Nat) * 8 ≤ _; omega) | (change (_ : Nat) * 64 ≤ _; omega) | decide)); done)); (conv => lhs; whnf); (try simp (maxSteps := 2000000) (disch := omega) only [NN, Ty.den, dflt_kv]))
          by_cases hs : (split (m.getD (i - 1) kvd).1).2.1 ≤ old
          · have hb : behK old (some (m.getD (i - 1) kvd)) (m.getD i kvd) = true := decide_eq_true ⟨hu2, hs⟩
            rw [hb, Bool.true_or, if_pos rfl] at k2
            refine br_go (tst_t (hs)) ?_
            conv => lhs; whnf
            try simp (maxSteps := 2000000) (disch := omega) only [NN, Ty.den, dflt_kv]
            repeat (refine br_go ?_ ?_; (focus (((repeat' first | exact rfl | exact ordB_st rfl | exact ordB_of rfl | apply band | apply tst_t | apply nt_t)  <;> (try dsimp only [Ty.den, dflt_kv]) <;> (try simp only [LL]) <;> (first | trivial | assumption | omega | (change (_ : Int) ≤ _; omega) | (change (_ : Int) < _; omega) | (change (_ : Nat) * 1 ≤ _; omega) | (change (_ : Nat) * 48 ≤ _; omega) | (change (_ : Nat) * 24 ≤ _; omega) | (change (_ : Nat) * 8 ≤ _; omega) | (change (_ : Nat) * 64 ≤ _; omega) | decide)); done)); (conv => lhs; whnf); (try simp (maxSteps := 2000000) (disch := omega) only [NN, Ty.den, dflt_kv]))
            exact hK (i + 1, out) ⟨by show i + 1 ≤ _; omega, hkeep _ k2, by show out.length ≤ i + 1; omega⟩ (by show m.length - (i + 1) < m.length - i; omega)
          · have hb : behK old (some (m.getD (i - 1) kvd)) (m.getD i kvd) = false := decide_eq_false (fun h => hs h.2)
            rw [hb, Bool.false_or] at k2
            refine br_no (tst_f (hs)) ?_
            conv => lhs; whnf
            try simp (maxSteps := 2000000) (disch := omega) only [NN, Ty.den, dflt_kv]
            repeat (refine br_go ?_ ?_; (focus (((repeat' first | exact rfl | exact ordB_st rfl | exact ordB_of rfl | apply band | apply tst_t | apply nt_t)  <;> (try dsimp only [Ty.den, dflt_kv]) <;> (try simp only [LL]) <;> (first | trivial | assumption | omega | (change (_ : Int) ≤ _; omega) | (change (_ : Int) < _; omega) | (change (_ : Nat) * 1 ≤ _; omega) | (change (_ : Nat) * 48 ≤ _; omega) | (change (_ : Nat) * 24 ≤ _; omega) | (change (_ : Nat) * 8 ≤ _; omega) | (change (_ : Nat) * 64 ≤ _; omega) | decide)); done)); (conv => lhs; whnf); (try simp (maxSteps := 2000000) (disch := omega) only [NN, Ty.den, dflt_kv]))
            by_cases g1 : (split (m.getD i kvd).1).2.2.1 = 0
            · refine br_go (tst_t (g1)) ?_
              conv => lhs; whnf
              try simp (maxSteps := 2000000) (disch := omega) only [NN, Ty.den, dflt_kv]
              repeat (refine br_go ?_ ?_; (focus (((repeat' first | exact rfl | exact ordB_st rfl | exact ordB_of rfl | apply band | apply tst_t | apply nt_t)  <;> (try dsimp only [Ty.den, dflt_kv]) <;> (try simp only [LL]) <;> (first | trivial | assumption | omega | (change (_ : Int) ≤ _; omega) | (change (_ : Int) < _; omega) | (change (_ : Nat) * 1 ≤ _; omega) | (change (_ : Nat) * 48 ≤ _; omega) | (change (_ : Nat) * 24 ≤ _; omega) | (change (_ : Nat) * 8 ≤ _; omega) | (change (_ : Nat) * 64 ≤ _; omega) | decide)); done)); (conv => lhs; whnf); (try simp (maxSteps := 2000000) (disch := omega) only [NN, Ty.den, dflt_kv]))
              by_cases g2 : (split (m.getD i kvd).1).2.1 ≤ old
              · refine br_go (tst_t (g2)) ?_
                conv => lhs; whnf
                try simp (maxSteps := 2000000) (disch := omega) only [NN, Ty.den, dflt_kv]
                repeat (refine br_go ?_ ?_; (focus (((repeat' first | exact rfl | exact ordB_st rfl | exact ordB_of rfl | apply band | apply tst_t | apply nt_t)  <;> (try dsimp only [Ty.den, dflt_kv]) <;> (try simp only [LL]) <;> (first | trivial | assumption | omega | (change (_ : Int) ≤ _; omega) | (change (_ : Int) < _; omega) | (change (_ : Nat) * 1 ≤ _; omega) | (change (_ : Nat) * 48 ≤ _; omega) | (change (_ : Nat) * 24 ≤ _; omega) | (change (_ : Nat) * 8 ≤ _; omega) | (change (_ : Nat) * 64 ≤ _; omega) | decide)); done)); (conv => lhs; whnf); (try simp (maxSteps := 2000000) (disch := omega) only [NN, Ty.den, dflt_kv]))
                cases g3 : inB dp (split (m.getD i kvd).1).1 with
                | false =>
                  try simp (maxSteps := 2000000) (disch := omega) only [NN, Ty.den, dflt_kv, g3]
                  conv => lhs; whnf
                  try simp (maxSteps := 2000000) (disch := omega) only [NN, Ty.den, dflt_kv]
                  repeat (refine br_go ?_ ?_; (focus (((repeat' first | exact rfl | exact ordB_st rfl | exact ordB_of rfl | apply band | apply tst_t | apply nt_t)  <;> (try dsimp only [Ty.den, dflt_kv]) <;> (try simp only [LL]) <;> (first | trivial | assumption | omega | (change (_ : Int) ≤ _; omega) | (change (_ : Int) < _; omega) | (change (_ : Nat) * 1 ≤ _; omega) | (change (_ : Nat) * 48 ≤ _; omega) | (change (_ : Nat) * 24 ≤ _; omega) | (change (_ : Nat) * 8 ≤ _; omega) | (change (_ : Nat) * 64 ≤ _; omega) | decide)); done)); (conv => lhs; whnf); (try simp (maxSteps := 2000000) (disch := omega) only [NN, Ty.den, dflt_kv]))
                  have hg : goneK old dp (m.getD i kvd) = true := by unfold goneK; rw [decide_eq_true g1, decide_eq_true g2, g3]; rfl
                  rw [hg, if_pos rfl] at k2
                  exact hK (i + 1, out) ⟨by show i + 1 ≤ _; omega, hkeep _ k2, by show out.length ≤ i + 1; omega⟩ (by show m.length - (i + 1) < m.length - i; omega)
                | true =>
                  try simp (maxSteps := 2000000) (disch := omega) only [NN, Ty.den, dflt_kv, g3]
                  conv => lhs; whnf
                  try simp (maxSteps := 2000000) (disch := omega) only [NN, Ty.den, dflt_kv]
                  repeat (refine br_go ?_ ?_; (focus (((repeat' first | exact rfl | exact ordB_st rfl | exact ordB_of rfl | apply band | apply tst_t | apply nt_t)  <;> (try dsimp only [Ty.den, dflt_kv]) <;> (try simp only [LL]) <;> (first | trivial | assumption | omega | (change (_ : Int) ≤ _; omega) | (change (_ : Int) < _; omega) | (change (_ : Nat) * 1 ≤ _; omega) | (change (_ : Nat) * 48 ≤ _; omega) | (change (_ : Nat) * 24 ≤ _; omega) | (change (_ : Nat) * 8 ≤ _; omega) | (change (_ : Nat) * 64 ≤ _; omega) | decide)); done)); (conv => lhs; whnf); (try simp (maxSteps := 2000000) (disch := omega) only [NN, Ty.den, dflt_kv]))
                  have hg : goneK old dp (m.getD i kvd) = false := by unfold goneK; rw [g3]; simp
                  rw [hg, if_neg (by decide)] at k2
                  exact hK (i + 1, out ++ [m.getD i kvd]) ⟨by show i + 1 ≤ _; omega, hkeep _ (by rw [List.append_assoc]; exact k2), by show (out ++ [_]).length ≤ i + 1; rw [List.length_append, List.length_singleton]; omega⟩ (by show m.length - (i + 1) < m.length - i; omega)
              · refine br_no (tst_f (g2)) ?_
                conv => lhs; whnf
                try simp (maxSteps := 2000000) (disch := omega) only [NN, Ty.den, dflt_kv]
                repeat (refine br_go ?_ ?_; (focus (((repeat' first | exact rfl | exact ordB_st rfl | exact ordB_of rfl | apply band | apply tst_t | apply nt_t)  <;> (try dsimp only [Ty.den, dflt_kv]) <;> (try simp only [LL]) <;> (first | trivial | assumption | omega | (change (_ : Int) ≤ _; omega) | (change (_ : Int) < _; omega) | (change (_ : Nat) * 1 ≤ _; omega) | (change (_ : Nat) * 48 ≤ _; omega) | (change (_ : Nat) * 24 ≤ _; omega) | (change (_ : Nat) * 8 ≤ _; omega) | (change (_ : Nat) * 64 ≤ _; omega) | decide)); done)); (conv => lhs; whnf); (try simp (maxSteps := 2000000) (disch := omega) only [NN, Ty.den, dflt_kv]))
                have hg : goneK old dp (m.getD i kvd) = false := by unfold goneK; rw [decide_eq_false g2]; simp
                rw [hg, if_neg (by decide)] at k2
                exact hK (i + 1, out ++ [m.getD i kvd]) ⟨by show i + 1 ≤ _; omega, hkeep _ (by rw [List.append_assoc]; exact k2), by show (out ++ [_]).length ≤ i + 1; rw [List.length_append, List.length_singleton]; omega⟩ (by show m.length - (i + 1) < m.length - i; omega)
            · refine br_no (tst_f (g1)) ?_
              conv => lhs; whnf
              try simp (maxSteps := 2000000) (disch := omega) only [NN, Ty.den, dflt_kv]
              repeat (refine br_go ?_ ?_; (focus (((repeat' first | exact rfl | exact ordB_st rfl | exact ordB_of rfl | apply band | apply tst_t | apply nt_t)  <;> (try dsimp only [Ty.den, dflt_kv]) <;> (try simp only [LL]) <;> (first | trivial | assumption | omega | (change (_ : Int) ≤ _; omega) | (change (_ : Int) < _; omega) | (change (_ : Nat) * 1 ≤ _; omega) | (change (_ : Nat) * 48 ≤ _; omega) | (change (_ : Nat) * 24 ≤ _; omega) | (change (_ : Nat) * 8 ≤ _; omega) | (change (_ : Nat) * 64 ≤ _; omega) | decide)); done)); (conv => lhs; whnf); (try simp (maxSteps := 2000000) (disch := omega) only [NN, Ty.den, dflt_kv]))
              have hg : goneK old dp (m.getD i kvd) = false := by unfold goneK; rw [decide_eq_false g1]; simp
              rw [hg, if_neg (by decide)] at k2
              exact hK (i + 1, out ++ [m.getD i kvd]) ⟨by show i + 1 ≤ _; omega, hkeep _ (by rw [List.append_assoc]; exact k2), by show (out ++ [_]).length ≤ i + 1; rw [List.length_append, List.length_singleton]; omega⟩ (by show m.length - (i + 1) < m.length - i; omega)
        · have hb : behK old (some (m.getD (i - 1) kvd)) (m.getD i kvd) = false := decide_eq_false (fun h => hu (by rw [h.1]; exact cmpB_refl _))
          rw [hb, Bool.false_or] at k2
          refine br_no (tst_f (hu)) ?_
          conv => lhs; whnf
          try simp (maxSteps := 2000000) (disch := omega) only [NN, Ty.den, dflt_kv]
          repeat (refine br_go ?_ ?_; (focus (((repeat' first | exact rfl | exact ordB_st rfl | exact ordB_of rfl | apply band | apply tst_t | apply nt_t)  <;> (try dsimp only [Ty.den, dflt_kv]) <;> (try simp only [LL]) <;> (first | trivial | assumption | omega | (change (_ : Int) ≤ _; omega) | (change (_ : Int) < _; omega) | (change (_ : Nat) * 1 ≤ _; omega) | (change (_ : Nat) * 48 ≤ _; omega) | (change (_ : Nat) * 24 ≤ _; omega) | (change (_ : Nat) * 8 ≤ _; omega) | (change (_ : Nat) * 64 ≤ _; omega) | decide)); done)); (conv => lhs; whnf); (try simp (maxSteps := 2000000) (disch := omega) only [NN, Ty.den, dflt_kv]))
          by_cases g1 : (split (m.getD i kvd).1).2.2.1 = 0
          · refine br_go (tst_t (g1)) ?_
            conv => lhs; whnf
            try simp (maxSteps := 2000000) (disch := omega) only [NN, Ty.den, dflt_kv]
            repeat (refine br_go ?_ ?_; (focus (((repeat' first | exact rfl | exact ordB_st rfl | exact ordB_of rfl | apply band | apply tst_t | apply nt_t)  <;> (try dsimp only [Ty.den, dflt_kv]) <;> (try simp only [LL]) <;> (first | trivial | assumption | omega | (change (_ : Int) ≤ _; omega) | (change (_ : Int) < _; omega) | (change (_ : Nat) * 1 ≤ _; omega) | (change (_ : Nat) * 48 ≤ _; omega) | (change (_ : Nat) * 24 ≤ _; omega) | (change (_ : Nat) * 8 ≤ _; omega) | (change (_ : Nat) * 64 ≤ _; omega) | decide)); done)); (conv => lhs; whnf); (try simp (maxSteps := 2000000) (disch := omega) only [NN, Ty.den, dflt_kv]))
            by_cases g2 : (split (m.getD i kvd).1).2.1 ≤ old
            · refine br_go (tst_t (g2)) ?_
              conv => lhs; whnf
              try simp (maxSteps := 2000000) (disch := omega) only [NN, Ty.den, dflt_kv]
              repeat (refine br_go ?_ ?_; (focus (((repeat' first | exact rfl | exact ordB_st rfl | exact ordB_of rfl | apply band | apply tst_t | apply nt_t)  <;> (try dsimp only [Ty.den, dflt_kv]) <;> (try simp only [LL]) <;> (first | trivial | assumption | omega | (change (_ : Int) ≤ _; omega) | (change (_ : Int) < _; omega) | (change (_ : Nat) * 1 ≤ _; omega) | (change (_ : Nat) * 48 ≤ _; omega) | (change (_ : Nat) * 24 ≤ _; omega) | (change (_ : Nat) * 8 ≤ _; omega) | (change (_ : Nat) * 64 ≤ _; omega) | decide)); done)); (conv => lhs; whnf); (try simp (maxSteps := 2000000) (disch := omega) only [NN, Ty.den, dflt_kv]))
              cases g3 : inB dp (split (m.getD i kvd).1).1 with
              | false =>
                try simp (maxSteps := 2000000) (disch := omega) only [NN, Ty.den, dflt_kv, g3]
                conv => lhs; whnf
                try simp (maxSteps := 2000000) (disch := omega) only [NN, Ty.den, dflt_kv]
                repeat (refine br_go ?_ ?_; (focus (((repeat' first | exact rfl | exact ordB_st rfl | exact ordB_of rfl | apply band | apply tst_t | apply nt_t)  <;> (try dsimp only [Ty.den, dflt_kv]) <;> (try simp only [LL]) <;> (first | trivial | assumption | omega | (change (_ : Int) ≤ _; omega) | (change (_ : Int) < _; omega) | (change (_ : Nat) * 1 ≤ _; omega) | (change (_ : Nat) * 48 ≤ _; omega) | (change (_ : Nat) * 24 ≤ _; omega) | (change (_ : Nat) * 8 ≤ _; omega) | (change (_ : Nat) * 64 ≤ _; omega) | decide)); done)); (conv => lhs; whnf); (try simp (maxSteps := 2000000) (disch := omega) only [NN, Ty.den, dflt_kv]))
                have hg : goneK old dp (m.getD i kvd) = true := by unfold goneK; rw [decide_eq_true g1, decide_eq_true g2, g3]; rfl
                rw [hg, if_pos rfl] at k2
                exact hK (i + 1, out) ⟨by show i + 1 ≤ _; omega, hkeep _ k2, by show out.length ≤ i + 1; omega⟩ (by show m.length - (i + 1) < m.length - i; omega)
              | true =>
                try simp (maxSteps := 2000000) (disch := omega) only [NN, Ty.den, dflt_kv, g3]
                conv => lhs; whnf
                try simp (maxSteps := 2000000) (disch := omega) only [NN, Ty.den, dflt_kv]
                repeat (refine br_go ?_ ?_; (focus (((repeat' first | exact rfl | exact ordB_st rfl | exact ordB_of rfl | apply band | apply tst_t | apply nt_t)  <;> (try dsimp only [Ty.den, dflt_kv]) <;> (try simp only [LL]) <;> (first | trivial | assumption | omega | (change (_ : Int) ≤ _; omega) | (change (_ : Int) < _; omega) | (change (_ : Nat) * 1 ≤ _; omega) | (change (_ : Nat) * 48 ≤ _; omega) | (change (_ : Nat) * 24 ≤ _; omega) | (change (_ : Nat) * 8 ≤ _; omega) | (change (_ : Nat) * 64 ≤ _; omega) | decide)); done)); (conv => lhs; whnf); (try simp (maxSteps := 2000000) (disch := omega) only [NN, Ty.den, dflt_kv]))
                have hg : goneK old dp (m.getD i kvd) = false := by unfold goneK; rw [g3]; simp
                rw [hg, if_neg (by decide)] at k2
                exact hK (i + 1, out ++ [m.getD i kvd]) ⟨by show i + 1 ≤ _; omega, hkeep _ (by rw [List.append_assoc]; exact k2), by show (out ++ [_]).length ≤ i + 1; rw [List.length_append, List.length_singleton]; omega⟩ (by show m.length - (i + 1) < m.length - i; omega)
            · refine br_no (tst_f (g2)) ?_
              conv => lhs; whnf
              try simp (maxSteps := 2000000) (disch := omega) only [NN, Ty.den, dflt_kv]
              repeat (refine br_go ?_ ?_; (focus (((repeat' first | exact rfl | exact ordB_st rfl | exact ordB_of rfl | apply band | apply tst_t | apply nt_t)  <;> (try dsimp only [Ty.den, dflt_kv]) <;> (try simp only [LL]) <;> (first | trivial | assumption | omega | (change (_ : Int) ≤ _; omega) | (change (_ : Int) < _; omega) | (change (_ : Nat) * 1 ≤ _; omega) | (change (_ : Nat) * 48 ≤ _; omega) | (change (_ : Nat) * 24 ≤ _; omega) | (change (_ : Nat) * 8 ≤ _; omega) | (change (_ : Nat) * 64 ≤ _; omega) | decide)); done)); (conv => lhs; whnf); (try simp (maxSteps := 2000000) (disch := omega) only [NN, Ty.den, dflt_kv]))
              have hg : goneK old dp (m.getD i kvd) = false := by unfold goneK; rw [decide_eq_false g2]; simp
              rw [hg, if_neg (by decide)] at k2
              exact hK (i + 1, out ++ [m.getD i kvd]) ⟨by show i + 1 ≤ _; omega, hkeep _ (by rw [List.append_assoc]; exact k2), by show (out ++ [_]).length ≤ i + 1; rw [List.length_append, List.length_singleton]; omega⟩ (by show m.length - (i + 1) < m.length - i; omega)
          · refine br_no (tst_f (g1)) ?_
            conv => lhs; whnf
            try simp (maxSteps := 2000000) (disch := omega) only [NN, Ty.den, dflt_kv]
            repeat (refine br_go ?_ ?_; (focus (((repeat' first | exact rfl | exact ordB_st rfl | exact ordB_of rfl | apply band | apply tst_t | apply nt_t)  <;> (try dsimp only [Ty.den, dflt_kv]) <;> (try simp only [LL]) <;> (first | trivial | assumption | omega | (change (_ : Int) ≤ _; omega) | (change (_ : Int) < _; omega) | (change (_ : Nat) * 1 ≤ _; omega) | (change (_ : Nat) * 48 ≤ _; omega) | (change (_ : Nat) * 24 ≤ _; omega) | (change (_ : Nat) * 8 ≤ _; omega) | (change (_ : Nat) * 64 ≤ _; omega) | decide)); done)); (conv => lhs; whnf); (try simp (maxSteps := 2000000) (disch := omega) only [NN, Ty.den, dflt_kv]))
            have hg : goneK old dp (m.getD i kvd) = false := by unfold goneK; rw [decide_eq_false g1]; simp
            rw [hg, if_neg (by decide)] at k2
            exact hK (i + 1, out ++ [m.getD i kvd]) ⟨by show i + 1 ≤ _; omega, hkeep _ (by rw [List.append_assoc]; exact k2), by show (out ++ [_]).length ≤ i + 1; rw [List.length_append, List.length_singleton]; omega⟩ (by show m.length - (i + 1) < m.length - i; omega)
    · refine br_no (tst_f (by omega)) ?_
      conv => lhs; whnf
      try simp (maxSteps := 2000000) (disch := omega) only [NN, Ty.den, dflt_kv]
      repeat (refine br_go ?_ ?_; (focus (((repeat' first | exact rfl | exact ordB_st rfl | exact ordB_of rfl | apply band | apply tst_t | apply nt_t)  <;> (try dsimp only [Ty.den, dflt_kv]) <;> (try simp only [LL]) <;> (first | trivial | assumption | omega | (change (_ : Int) ≤ _; omega) | (change (_ : Int) < _; omega) | (change (_ : Nat) * 1 ≤ _; omega) | (change (_ : Nat) * 48 ≤ _; omega) | (change (_ : Nat) * 24 ≤ _; omega) | (change (_ : Nat) * 8 ≤ _; omega) | (change (_ : Nat) * 64 ≤ _; omega) | decide)); done)); (conv => lhs; whnf); (try simp (maxSteps := 2000000) (disch := omega) only [NN, Ty.den, dflt_kv]))
      rw [hkm]
      conv => lhs; whnf
      try simp (maxSteps := 2000000) (disch := omega) only [NN, Ty.den, dflt_kv]
      repeat (refine br_go ?_ ?_; (focus (((repeat' first | exact rfl | exact ordB_st rfl | exact ordB_of rfl | apply band | apply tst_t | apply nt_t)  <;> (try dsimp only [Ty.den, dflt_kv]) <;> (try simp only [LL]) <;> (first | trivial | assumption | omega | (change (_ : Int) ≤ _; omega) | (change (_ : Int) < _; omega) | (change (_ : Nat) * 1 ≤ _; omega) | (change (_ : Nat) * 48 ≤ _; omega) | (change (_ : Nat) * 24 ≤ _; omega) | (change (_ : Nat) * 8 ≤ _; omega) | (change (_ : Nat) * 64 ≤ _; omega) | decide)); done)); (conv => lhs; whnf); (try simp (maxSteps := 2000000) (disch := omega) only [NN, Ty.den, dflt_kv]))
      rw [List.drop_eq_nil_of_le (by omega), keepGo, List.append_nil] at k2
      rw [k2]
end Go.Proofs.Ytmpmmfbgdpfnpaa.Ev
/- Rows of bytes that are the same ones. -/
namespace Go.Proofs.Ytmpmmfbgdpfnpaa.Ev
open Go Go.RowKit
set_option linter.unusedVariables false
set_option linter.unusedSimpArgs false
set_option maxRecDepth 100000
set_option maxHeartbeats 8000000
abbrev bequalC : Ctx := ⟨rows, (fun  | _ => ([], []))⟩
theorem bequal_ok (T : Tab) : equalSp.Ok T bequalC F41 := by
  rintro ⟨(a : List Int), (b : List Int), _⟩ hf _
  obtain ⟨F, hF⟩ : ∃ F : Nat, F = 1 := ⟨_, rfl⟩
  refine ⟨F, 0, ?_⟩
  show evFn _ _ _ _ _ [vB a, vB b] [] _ = some (vT (a = b) : V)
  conv => lhs; whnf
  try simp (maxSteps := 2000000) (disch := omega) only [NN, Ty.den, dflt_kv]
  repeat (refine br_go ?_ ?_; (focus (((repeat' first | exact rfl | exact ordB_st rfl | exact ordB_of rfl | apply band | apply tst_t | apply nt_t)  <;> (try dsimp only [Ty.den, dflt_kv]) <;> (try simp only [LL]) <;> (first | trivial | assumption | omega | (change (_ : Int) ≤ _; omega) | (change (_ : Int) < _; omega) | (change (_ : Nat) * 1 ≤ _; omega) | (change (_ : Nat) * 48 ≤ _; omega) | (change (_ : Nat) * 24 ≤ _; omega) | (change (_ : Nat) * 8 ≤ _; omega) | (change (_ : Nat) * 64 ≤ _; omega) | decide)); done)); (conv => lhs; whnf); (try simp (maxSteps := 2000000) (disch := omega) only [NN, Ty.den, dflt_kv]))
end Go.Proofs.Ytmpmmfbgdpfnpaa.Ev
/- Lists merged, and what stays of them: by the program. -/
namespace Go.Proofs.Ytmpmmfbgdpfnpaa.Ev
open Go Go.RowKit
set_option linter.unusedVariables false
set_option linter.unusedSimpArgs false
set_option maxRecDepth 100000
set_option maxHeartbeats 8000000
theorem seq_le {a b : List Int} (h : order a b < 0) (hu : (split a).1 = (split b).1) : (split b).2.1 ≤ (split a).2.1 := by
  unfold order at h
  rw [hu, if_neg (by rw [cmpB_refl]; simp)] at h
  split at h
  · omega
  · split at h <;> omega
def lastV (m : List KV) : Nat → V
  | 0 => .own 7 by8 []
  | j + 1 => .d byl (split (m.getD j kvd).1).1
noncomputable def oldT (m : List KV) (old : Int) : Nat → Bool
  | 0 => false
  | j + 1 => tst ((split (m.getD j kvd).1).2.1 ≤ old)
abbrev mergeC : Ctx := ⟨rows, (fun | 0 => ([0, 4, 5, 18, 19, 20], [0, 4, 5]) | 1 => ([], [0, 4, 5, 18, 19, 20]) | 2 => ([14, 15, 36, 37, 38], [15]) | 3 => ([], [14, 15, 36, 37, 38]) | _ => ([], []))⟩
theorem merge_ok (T : Tab) (h1 : T 37 = risesSp.ent) (h2 : T 38 = mergedSp.ent) (h3 : T 40 = splitSp.ent) (h4 : T 41 = equalSp.ent) (h5 : T 42 = withinSp.ent) (h6 : T 43 = cloneSp.ent) (n1 : T 39 = none) : mgSp.Ok T mergeC F11 := by
  rw [on_top h1, on_top h2, on_top h3, on_top h4, on_top h5, on_top h6, off_top n1]
  rintro ⟨(l : List (List KV)), (old : Int), (dp : List KV), _⟩ hf hp
  have hf1 : Fits kvll l := hf.1
  obtain ⟨hl, ht⟩ : fewL l := tst_iff.1 hp
  have hw : fewL l := ⟨hl, ht⟩
  obtain ⟨F, hF⟩ : ∃ F : Nat, F = 500 := ⟨_, rfl⟩
  refine ⟨F, 1, ?_⟩
  show evFn _ _ _ _ _ [.d kvll l, vU old, vK dp] [] _ = some (.tup [.own 0 kv (mgS l old dp).1, vI (mgS l old dp).2] : V)
  conv => lhs; whnf
  try simp (maxSteps := 2000000) (disch := omega) only [NN, Ty.den, dflt_kv]
  unfold mgS
  have hsl := sortedS_len l
  have hsr : (sortedS l).2 = true → Rises (sortedS l).1 := by
    unfold sortedS mergeS
    split
    · split
      · rename_i h; exact fun _ => h
      · intro h; cases h
    · intro h; cases h
  refine loop_ruleK (α := Nat) (fun i => i ≤ l.length ∧ ∀ j, j < i → Rises (l.getD j [])) (fun i => l.length - i)
    (fun i => (V.d kvll l :: V.bad :: V.bad :: V.bad :: V.p 0 0 :: V.p 1 0 :: V.bad :: V.bad :: V.bad :: V.bad :: V.bad :: V.bad :: V.bad :: V.bad :: V.bad :: V.bad :: V.bad :: V.bad :: V.d kvll l :: vI l.length :: vI i :: V.bad :: V.bad :: V.bad :: V.bad :: V.bad :: V.bad :: V.bad :: V.bad :: V.bad :: V.bad :: V.bad :: V.bad :: V.bad :: V.bad :: V.bad :: V.bad :: V.bad :: V.bad :: V.bad :: V.bad :: V.bad :: V.bad :: V.bad :: V.bad :: V.bad :: V.bad :: V.bad :: V.bad :: V.bad :: V.bad :: V.bad :: V.bad :: V.bad :: V.bad :: V.bad :: V.bad :: []))
    (fun i => [.obj [vU old], .obj [vK dp], .fam 0, .gone])
    (fun _ => some (V.tup [.own 0 kv (if (sortedS l).2 = true then (keepGo old dp none (sortedS l).1, (0 : Int)) else ([], 101)).1, vI (if (sortedS l).2 = true then (keepGo old dp none (sortedS l).1, (0 : Int)) else ([], 101)).2])) ?_ F 0 ⟨Nat.zero_le _, fun j hj => absurd hj (by omega)⟩ (by show l.length - 0 < F; omega)
  rintro kka hka i K ⟨k1, k2⟩ hK
  conv => lhs; whnf
  try simp (maxSteps := 2000000) (disch := omega) only [NN, Ty.den, dflt_kv]
  by_cases hi : i < l.length
  · refine br_go (tst_t (by omega)) ?_
    conv => lhs; whnf
    try simp (maxSteps := 2000000) (disch := omega) only [NN, Ty.den, dflt_kv]
    repeat (refine br_go ?_ ?_; (focus (((repeat' first | exact rfl | exact ordB_st rfl | exact ordB_of rfl | apply band | apply tst_t | apply nt_t)  <;> (try dsimp only [Ty.den, dflt_kv]) <;> (try simp only [LL]) <;> (first | trivial | assumption | omega | (change (_ : Int) ≤ _; omega) | (change (_ : Int) < _; omega) | (change (_ : Nat) * 1 ≤ _; omega) | (change (_ : Nat) * 48 ≤ _; omega) | (change (_ : Nat) * 24 ≤ _; omega) | (change (_ : Nat) * 8 ≤ _; omega) | (change (_ : Nat) * 64 ≤ _; omega) | decide)); done)); (conv => lhs; whnf); (try simp (maxSteps := 2000000) (disch := omega) only [NN, Ty.den, dflt_kv]))
    by_cases hr : Rises (l.getD i [])
    · refine br_no (nt_f hr) ?_
      conv => lhs; whnf
      try simp (maxSteps := 2000000) (disch := omega) only [NN, Ty.den, dflt_kv]
      repeat (refine br_go ?_ ?_; (focus (((repeat' first | exact rfl | exact ordB_st rfl | exact ordB_of rfl | apply band | apply tst_t | apply nt_t)  <;> (try dsimp only [Ty.den, dflt_kv]) <;> (try simp only [LL]) <;> (first | trivial | assumption | omega | (change (_ : Int) ≤ _; omega) | (change (_ : Int) < _; omega) | (change (_ : Nat) * 1 ≤ _; omega) | (change (_ : Nat) * 48 ≤ _; omega) | (change (_ : Nat) * 24 ≤ _; omega) | (change (_ : Nat) * 8 ≤ _; omega) | (change (_ : Nat) * 64 ≤ _; omega) | decide)); done)); (conv => lhs; whnf); (try simp (maxSteps := 2000000) (disch := omega) only [NN, Ty.den, dflt_kv]))
      exact hK (i + 1) ⟨by omega, fun j hj => by
        by_cases e : j = i
        · subst e; exact hr
        · exact k2 j (by omega)⟩ (by omega)
    · refine br_go (nt_t hr) ?_
      conv => lhs; whnf
      try simp (maxSteps := 2000000) (disch := omega) only [NN, Ty.den, dflt_kv]
      repeat (refine br_go ?_ ?_; (focus (((repeat' first | exact rfl | exact ordB_st rfl | exact ordB_of rfl | apply band | apply tst_t | apply nt_t)  <;> (try dsimp only [Ty.den, dflt_kv]) <;> (try simp only [LL]) <;> (first | trivial | assumption | omega | (change (_ : Int) ≤ _; omega) | (change (_ : Int) < _; omega) | (change (_ : Nat) * 1 ≤ _; omega) | (change (_ : Nat) * 48 ≤ _; omega) | (change (_ : Nat) * 24 ≤ _; omega) | (change (_ : Nat) * 8 ≤ _; omega) | (change (_ : Nat) * 64 ≤ _; omega) | decide)); done)); (conv => lhs; whnf); (try simp (maxSteps := 2000000) (disch := omega) only [NN, Ty.den, dflt_kv]))
      rw [hka]
      conv => lhs; whnf
      try simp (maxSteps := 2000000) (disch := omega) only [NN, Ty.den, dflt_kv]
      repeat (refine br_go ?_ ?_; (focus (((repeat' first | exact rfl | exact ordB_st rfl | exact ordB_of rfl | apply band | apply tst_t | apply nt_t)  <;> (try dsimp only [Ty.den, dflt_kv]) <;> (try simp only [LL]) <;> (first | trivial | assumption | omega | (change (_ : Int) ≤ _; omega) | (change (_ : Int) < _; omega) | (change (_ : Nat) * 1 ≤ _; omega) | (change (_ : Nat) * 48 ≤ _; omega) | (change (_ : Nat) * 24 ≤ _; omega) | (change (_ : Nat) * 8 ≤ _; omega) | (change (_ : Nat) * 64 ≤ _; omega) | decide)); done)); (conv => lhs; whnf); (try simp (maxSteps := 2000000) (disch := omega) only [NN, Ty.den, dflt_kv]))
      have e : sortedS l = ([], false) := by
        unfold sortedS
        rw [if_neg (fun h => hr (allRise_mem h (by rw [getD_at hi]; exact List.getElem_mem _)))]
      rw [e, if_neg (by simp)]
  · refine br_no (tst_f (by omega)) ?_
    conv => lhs; whnf
    try simp (maxSteps := 2000000) (disch := omega) only [NN, Ty.den, dflt_kv]
    have har : allRise l = true := by
      refine List.all_eq_true.2 fun y hy => decide_eq_true ?_
      obtain ⟨j, hj, rfl⟩ := List.getElem_of_mem hy
      have := k2 j (by omega)
      rwa [getD_at hj] at this
    have es : sortedS l = mergeS l := by unfold sortedS; rw [if_pos har]
    rw [es] at hsl hsr ⊢
    repeat (refine br_go ?_ ?_; (focus (((repeat' first | exact rfl | exact ordB_st rfl | exact ordB_of rfl | apply band | apply tst_t | apply nt_t)  <;> (try dsimp only [Ty.den, dflt_kv]) <;> (try simp only [LL]) <;> (first | trivial | assumption | omega | (change (_ : Int) ≤ _; omega) | (change (_ : Int) < _; omega) | (change (_ : Nat) * 1 ≤ _; omega) | (change (_ : Nat) * 48 ≤ _; omega) | (change (_ : Nat) * 24 ≤ _; omega) | (change (_ : Nat) * 8 ≤ _; omega) | (change (_ : Nat) * 64 ≤ _; omega) | decide)); done)); (conv => lhs; whnf); (try simp (maxSteps := 2000000) (disch := omega) only [NN, Ty.den, dflt_kv]))
    rw [hka]
    conv => lhs; whnf
    try simp (maxSteps := 2000000) (disch := omega) only [NN, Ty.den, dflt_kv]
    refine br_go (band (tst_t hw) (tst_t har)) ?_
    conv => lhs; whnf
    try simp (maxSteps := 2000000) (disch := omega) only [NN, Ty.den, dflt_kv]
    repeat (refine br_go ?_ ?_; (focus (((repeat' first | exact rfl | exact ordB_st rfl | exact ordB_of rfl | apply band | apply tst_t | apply nt_t)  <;> (try dsimp only [Ty.den, dflt_kv]) <;> (try simp only [LL]) <;> (first | trivial | assumption | omega | (change (_ : Int) ≤ _; omega) | (change (_ : Int) < _; omega) | (change (_ : Nat) * 1 ≤ _; omega) | (change (_ : Nat) * 48 ≤ _; omega) | (change (_ : Nat) * 24 ≤ _; omega) | (change (_ : Nat) * 8 ≤ _; omega) | (change (_ : Nat) * 64 ≤ _; omega) | decide)); done)); (conv => lhs; whnf); (try simp (maxSteps := 2000000) (disch := omega) only [NN, Ty.den, dflt_kv]))
    generalize mergeS l = R at *
    obtain ⟨m, ok⟩ := R
    cases ok with
    | false =>
      rw [if_neg (by simp)]
      conv => lhs; whnf
      try simp (maxSteps := 2000000) (disch := omega) only [NN, Ty.den, dflt_kv]
      repeat (refine br_go ?_ ?_; (focus (((repeat' first | exact rfl | exact ordB_st rfl | exact ordB_of rfl | apply band | apply tst_t | apply nt_t)  <;> (try dsimp only [Ty.den, dflt_kv]) <;> (try simp only [LL]) <;> (first | trivial | assumption | omega | (change (_ : Int) ≤ _; omega) | (change (_ : Int) < _; omega) | (change (_ : Nat) * 1 ≤ _; omega) | (change (_ : Nat) * 48 ≤ _; omega) | (change (_ : Nat) * 24 ≤ _; omega) | (change (_ : Nat) * 8 ≤ _; omega) | (change (_ : Nat) * 64 ≤ _; omega) | decide)); done)); (conv => lhs; whnf); (try simp (maxSteps := 2000000) (disch := omega) only [NN, Ty.den, dflt_kv]))
    | true =>
      rw [if_pos rfl]
      conv => lhs; whnf
      try simp (maxSteps := 2000000) (disch := omega) only [NN, Ty.den, dflt_kv]
      repeat (refine br_go ?_ ?_; (focus (((repeat' first | exact rfl | exact ordB_st rfl | exact ordB_of rfl | apply band | apply tst_t | apply nt_t)  <;> (try dsimp only [Ty.den, dflt_kv]) <;> (try simp only [LL]) <;> (first | trivial | assumption | omega | (change (_ : Int) ≤ _; omega) | (change (_ : Int) < _; omega) | (change (_ : Nat) * 1 ≤ _; omega) | (change (_ : Nat) * 48 ≤ _; omega) | (change (_ : Nat) * 24 ≤ _; omega) | (change (_ : Nat) * 8 ≤ _; omega) | (change (_ : Nat) * 64 ≤ _; omega) | decide)); done)); (conv => lhs; whnf); (try simp (maxSteps := 2000000) (disch := omega) only [NN, Ty.den, dflt_kv]))
      have hsl : m.length ≤ l.flatten.length := hsl
      have hR : Rises m := hsr rfl
      refine loop_ruleK (α := Nat × List KV) (fun s => s.1 ≤ m.length ∧ s.2 ++ keepGo old dp (prevK m s.1) (m.drop s.1) = keepGo old dp none m ∧ s.2.length ≤ s.1) (fun s => m.length - s.1)
        (fun s => (V.bad :: V.bad :: V.bad :: V.bad :: V.bad :: V.bad :: V.bad :: V.bad :: V.bad :: V.bad :: V.bad :: V.bad :: V.bad :: V.bad :: V.fn 39 [] [V.p 8 0, V.p 6 0, V.p 0 0, V.p 1 0] :: V.own 9 kv s.2 :: V.bad :: V.bad :: V.bad :: V.bad :: V.bad :: V.bad :: V.bad :: V.bad :: V.bad :: V.bad :: V.bad :: V.bad :: V.bad :: V.bad :: V.bad :: V.bad :: V.bad :: V.bad :: V.bad :: V.bad :: V.own 4 kv m :: vI m.length :: vI s.1 :: V.bad :: V.bad :: V.bad :: V.bad :: V.bad :: V.bad :: V.bad :: V.bad :: V.bad :: V.bad :: V.bad :: V.bad :: V.bad :: V.bad :: V.bad :: V.bad :: V.bad :: V.bad :: []))
        (fun s => [.obj [vU old], .obj [vK dp], .fam 0, .gone, .fam m.length, .gone, .obj [lastV m s.1], .fam 0, .obj [.d .bo (oldT m old s.1)], .fam s.2.length, .gone])
        (fun _ => some (V.tup [.own 0 kv (keepGo old dp none m), vI 0])) ?_ F (0, []) ⟨Nat.zero_le _, rfl, Nat.le_refl _⟩ (by show m.length - 0 < F; omega)
      rintro kkm hkm ⟨i, out⟩ K2 ⟨k1, k2, k3⟩ hK2
      simp only at k1 k2 k3 hK2 ⊢
      by_cases hi : i < m.length
      · rw [drop_at (d := kvd) hi, keepGo] at k2
        have hpn : prevK m (i + 1) = some (m.getD i kvd) := by unfold prevK; rw [if_neg (by omega), Nat.add_sub_cancel]
        have hkeep : ∀ out', out' ++ keepGo old dp (some (m.getD i kvd)) (m.drop (i + 1)) = keepGo old dp none m → out' ++ keepGo old dp (prevK m (i + 1)) (m.drop (i + 1)) = keepGo old dp none m := fun out' h => by rw [hpn]; exact h
        cases i with
        | zero =>
          have hb : behK old (prevK m 0) (m.getD 0 kvd) = false := rfl
          rw [hb, Bool.false_or] at k2
          conv => lhs; whnf
          try simp (maxSteps := 2000000) (disch := omega) only [NN, Ty.den, dflt_kv]
          refine br_go (tst_t (by omega)) ?_
          conv => lhs; whnf
          try simp (maxSteps := 2000000) (disch := omega) only [NN, Ty.den, dflt_kv]
          repeat (refine br_go ?_ ?_; (focus (((repeat' first | exact rfl | exact ordB_st rfl | exact ordB_of rfl | apply band | apply tst_t | apply nt_t)  <;> (try dsimp only [Ty.den, dflt_kv]) <;> (try simp only [LL]) <;> (first | trivial | assumption | omega | (change (_ : Int) ≤ _; omega) | (change (_ : Int) < _; omega) | (change (_ : Nat) * 1 ≤ _; omega) | (change (_ : Nat) * 48 ≤ _; omega) | (change (_ : Nat) * 24 ≤ _; omega) | (change (_ : Nat) * 8 ≤ _; omega) | (change (_ : Nat) * 64 ≤ _; omega) | decide)); done)); (conv => lhs; whnf); (try simp (maxSteps := 2000000) (disch := omega) only [NN, Ty.den, dflt_kv]))
          by_cases g1 : (split (m.getD 0 kvd).1).2.2.1 = 0
          · refine br_go (tst_t (g1)) ?_
            conv => lhs; whnf
            try simp (maxSteps := 2000000) (disch := omega) only [NN, Ty.den, dflt_kv]
            repeat (refine br_go ?_ ?_; (focus (((repeat' first | exact rfl | exact ordB_st rfl | exact ordB_of rfl | apply band | apply tst_t | apply nt_t)  <;> (try dsimp only [Ty.den, dflt_kv]) <;> (try simp only [LL]) <;> (first | trivial | assumption | omega | (change (_ : Int) ≤ _; omega) | (change (_ : Int) < _; omega) | (change (_ : Nat) * 1 ≤ _; omega) | (change (_ : Nat) * 48 ≤ _; omega) | (change (_ : Nat) * 24 ≤ _; omega) | (change (_ : Nat) * 8 ≤ _; omega) | (change (_ : Nat) * 64 ≤ _; omega) | decide)); done)); (conv => lhs; whnf); (try simp (maxSteps := 2000000) (disch := omega) only [NN, Ty.den, dflt_kv]))
            by_cases g2 : (split (m.getD 0 kvd).1).2.1 ≤ old
            · refine br_go (tst_t (g2)) ?_
              conv => lhs; whnf
              try simp (maxSteps := 2000000) (disch := omega) only [NN, Ty.den, dflt_kv]
              repeat (refine br_go ?_ ?_; (focus (((repeat' first | exact rfl | exact ordB_st rfl | exact ordB_of rfl | apply band | apply tst_t | apply nt_t)  <;> (try dsimp only [Ty.den, dflt_kv]) <;> (try simp only [LL]) <;> (first | trivial | assumption | omega | (change (_ : Int) ≤ _; omega) | (change (_ : Int) < _; omega) | (change (_ : Nat) * 1 ≤ _; omega) | (change (_ : Nat) * 48 ≤ _; omega) | (change (_ : Nat) * 24 ≤ _; omega) | (change (_ : Nat) * 8 ≤ _; omega) | (change (_ : Nat) * 64 ≤ _; omega) | decide)); done)); (conv => lhs; whnf); (try simp (maxSteps := 2000000) (disch := omega) only [NN, Ty.den, dflt_kv]))
              cases g3 : inB dp (split (m.getD 0 kvd).1).1 with
              | false =>
                try simp (maxSteps := 2000000) (disch := omega) only [NN, Ty.den, dflt_kv, g3]
                conv => lhs; whnf
                try simp (maxSteps := 2000000) (disch := omega) only [NN, Ty.den, dflt_kv]
                repeat (refine br_go ?_ ?_; (focus (((repeat' first | exact rfl | exact ordB_st rfl | exact ordB_of rfl | apply band | apply tst_t | apply nt_t)  <;> (try dsimp only [Ty.den, dflt_kv]) <;> (try simp only [LL]) <;> (first | trivial | assumption | omega | (change (_ : Int) ≤ _; omega) | (change (_ : Int) < _; omega) | (change (_ : Nat) * 1 ≤ _; omega) | (change (_ : Nat) * 48 ≤ _; omega) | (change (_ : Nat) * 24 ≤ _; omega) | (change (_ : Nat) * 8 ≤ _; omega) | (change (_ : Nat) * 64 ≤ _; omega) | decide)); done)); (conv => lhs; whnf); (try simp (maxSteps := 2000000) (disch := omega) only [NN, Ty.den, dflt_kv]))
                have hg : goneK old dp (m.getD 0 kvd) = true := by unfold goneK; rw [decide_eq_true g1, decide_eq_true g2, g3]; rfl
                rw [hg, if_pos rfl] at k2
                exact hK2 (0 + 1, out) ⟨by show 0 + 1 ≤ _; omega, hkeep _ k2, by show List.length out ≤ 0 + 1; (try rw [List.length_append, List.length_singleton]); omega⟩ (by show m.length - (0 + 1) < m.length - 0; omega)
              | true =>
                try simp (maxSteps := 2000000) (disch := omega) only [NN, Ty.den, dflt_kv, g3]
                conv => lhs; whnf
                try simp (maxSteps := 2000000) (disch := omega) only [NN, Ty.den, dflt_kv]
                repeat (refine br_go ?_ ?_; (focus (((repeat' first | exact rfl | exact ordB_st rfl | exact ordB_of rfl | apply band | apply tst_t | apply nt_t)  <;> (try dsimp only [Ty.den, dflt_kv]) <;> (try simp only [LL]) <;> (first | trivial | assumption | omega | (change (_ : Int) ≤ _; omega) | (change (_ : Int) < _; omega) | (change (_ : Nat) * 1 ≤ _; omega) | (change (_ : Nat) * 48 ≤ _; omega) | (change (_ : Nat) * 24 ≤ _; omega) | (change (_ : Nat) * 8 ≤ _; omega) | (change (_ : Nat) * 64 ≤ _; omega) | decide)); done)); (conv => lhs; whnf); (try simp (maxSteps := 2000000) (disch := omega) only [NN, Ty.den, dflt_kv]))
                have hg : goneK old dp (m.getD 0 kvd) = false := by unfold goneK; rw [g3]; simp
                rw [hg, if_neg (by decide)] at k2
                exact hK2 (0 + 1, (out ++ [m.getD 0 kvd])) ⟨by show 0 + 1 ≤ _; omega, hkeep _ (by rw [List.append_assoc]; exact k2), by show List.length (out ++ [m.getD 0 kvd]) ≤ 0 + 1; (try rw [List.length_append, List.length_singleton]); omega⟩ (by show m.length - (0 + 1) < m.length - 0; omega)
            · refine br_no (tst_f (g2)) ?_
              conv => lhs; whnf
              try simp (maxSteps := 2000000) (disch := omega) only [NN, Ty.den, dflt_kv]
              repeat (refine br_go ?_ ?_; (focus (((repeat' first | exact rfl | exact ordB_st rfl | exact ordB_of rfl | apply band | apply tst_t | apply nt_t)  <;> (try dsimp only [Ty.den, dflt_kv]) <;> (try simp only [LL]) <;> (first | trivial | assumption | omega | (change (_ : Int) ≤ _; omega) | (change (_ : Int) < _; omega) | (change (_ : Nat) * 1 ≤ _; omega) | (change (_ : Nat) * 48 ≤ _; omega) | (change (_ : Nat) * 24 ≤ _; omega) | (change (_ : Nat) * 8 ≤ _; omega) | (change (_ : Nat) * 64 ≤ _; omega) | decide)); done)); (conv => lhs; whnf); (try simp (maxSteps := 2000000) (disch := omega) only [NN, Ty.den, dflt_kv]))
              have hg : goneK old dp (m.getD 0 kvd) = false := by unfold goneK; rw [decide_eq_false g2]; simp
              rw [hg, if_neg (by decide)] at k2
              exact hK2 (0 + 1, (out ++ [m.getD 0 kvd])) ⟨by show 0 + 1 ≤ _; omega, hkeep _ (by rw [List.append_assoc]; exact k2), by show List.length (out ++ [m.getD 0 kvd]) ≤ 0 + 1; (try rw [List.length_append, List.length_singleton]); omega⟩ (by show m.length - (0 + 1) < m.length - 0; omega)
          · refine br_no (tst_f (g1)) ?_
            conv => lhs; whnf
            try simp (maxSteps := 2000000) (disch := omega) only [NN, Ty.den, dflt_kv]
            repeat (refine br_go ?_ ?_; (focus (((repeat' first | exact rfl | exact ordB_st rfl | exact ordB_of rfl | apply band | apply tst_t | apply nt_t)  <;> (try dsimp only [Ty.den, dflt_kv]) <;> (try simp only [LL]) <;> (first | trivial | assumption | omega | (change (_ : Int) ≤ _; omega) | (change (_ : Int) < _; omega) | (change (_ : Nat) * 1 ≤ _; omega) | (change (_ : Nat) * 48 ≤ _; omega) | (change (_ : Nat) * 24 ≤ _; omega) | (change (_ : Nat) * 8 ≤ _; omega) | (change (_ : Nat) * 64 ≤ _; omega) | decide)); done)); (conv => lhs; whnf); (try simp (maxSteps := 2000000) (disch := omega) only [NN, Ty.den, dflt_kv]))
            have hg : goneK old dp (m.getD 0 kvd) = false := by unfold goneK; rw [decide_eq_false g1]; simp
            rw [hg, if_neg (by decide)] at k2
            exact hK2 (0 + 1, (out ++ [m.getD 0 kvd])) ⟨by show 0 + 1 ≤ _; omega, hkeep _ (by rw [List.append_assoc]; exact k2), by show List.length (out ++ [m.getD 0 kvd]) ≤ 0 + 1; (try rw [List.length_append, List.length_singleton]); omega⟩ (by show m.length - (0 + 1) < m.length - 0; omega)
        | succ j =>
          have hord : order (m.getD j kvd).1 (m.getD (j + 1) kvd).1 < 0 := by
            rw [getD_at (by omega), getD_at hi]
            exact List.pairwise_iff_getElem.1 ((rises_iff m).1 hR).2 j (j + 1) (by omega) hi (by omega)
          have hp : prevK m (j + 1) = some (m.getD j kvd) := rfl
          rw [hp] at k2
          conv => lhs; whnf
          try simp (maxSteps := 2000000) (disch := omega) only [NN, Ty.den, dflt_kv]
          refine br_go (tst_t (by omega)) ?_
          conv => lhs; whnf
          try simp (maxSteps := 2000000) (disch := omega) only [NN, Ty.den, dflt_kv]
          repeat (refine br_go ?_ ?_; (focus (((repeat' first | exact rfl | exact ordB_st rfl | exact ordB_of rfl | apply band | apply tst_t | apply nt_t)  <;> (try dsimp only [Ty.den, dflt_kv]) <;> (try simp only [LL]) <;> (first | trivial | assumption | omega | (change (_ : Int) ≤ _; omega) | (change (_ : Int) < _; omega) | (change (_ : Nat) * 1 ≤ _; omega) | (change (_ : Nat) * 48 ≤ _; omega) | (change (_ : Nat) * 24 ≤ _; omega) | (change (_ : Nat) * 8 ≤ _; omega) | (change (_ : Nat) * 64 ≤ _; omega) | decide)); done)); (conv => lhs; whnf); (try simp (maxSteps := 2000000) (disch := omega) only [NN, Ty.den, dflt_kv]))
          by_cases hs : (split (m.getD j kvd).1).2.1 ≤ old
          · refine br_go (tst_t (hs)) ?_
            conv => lhs; whnf
            try simp (maxSteps := 2000000) (disch := omega) only [NN, Ty.den, dflt_kv]
            repeat (refine br_go ?_ ?_; (focus (((repeat' first | exact rfl | exact ordB_st rfl | exact ordB_of rfl | apply band | apply tst_t | apply nt_t)  <;> (try dsimp only [Ty.den, dflt_kv]) <;> (try simp only [LL]) <;> (first | trivial | assumption | omega | (change (_ : Int) ≤ _; omega) | (change (_ : Int) < _; omega) | (change (_ : Nat) * 1 ≤ _; omega) | (change (_ : Nat) * 48 ≤ _; omega) | (change (_ : Nat) * 24 ≤ _; omega) | (change (_ : Nat) * 8 ≤ _; omega) | (change (_ : Nat) * 64 ≤ _; omega) | decide)); done)); (conv => lhs; whnf); (try simp (maxSteps := 2000000) (disch := omega) only [NN, Ty.den, dflt_kv]))
            by_cases hu : (split (m.getD (j + 1) kvd).1).1 = (split (m.getD j kvd).1).1
            · have hle := seq_le hord hu.symm
              have hb : behK old (some (m.getD j kvd)) (m.getD (j + 1) kvd) = true := decide_eq_true ⟨hu.symm, hs⟩
              rw [hb, Bool.true_or, if_pos rfl] at k2
              refine br_go (tst_t (hu)) ?_
              conv => lhs; whnf
              try simp (maxSteps := 2000000) (disch := omega) only [NN, Ty.den, dflt_kv]
              repeat (refine br_go ?_ ?_; (focus (((repeat' first | exact rfl | exact ordB_st rfl | exact ordB_of rfl | apply band | apply tst_t | apply nt_t)  <;> (try dsimp only [Ty.den, dflt_kv]) <;> (try simp only [LL]) <;> (first | trivial | assumption | omega | (change (_ : Int) ≤ _; omega) | (change (_ : Int) < _; omega) | (change (_ : Nat) * 1 ≤ _; omega) | (change (_ : Nat) * 48 ≤ _; omega) | (change (_ : Nat) * 24 ≤ _; omega) | (change (_ : Nat) * 8 ≤ _; omega) | (change (_ : Nat) * 64 ≤ _; omega) | decide)); done)); (conv => lhs; whnf); (try simp (maxSteps := 2000000) (disch := omega) only [NN, Ty.den, dflt_kv]))
              refine br_no (nt_f hu) ?_
              conv => lhs; whnf
              try simp (maxSteps := 2000000) (disch := omega) only [NN, Ty.den, dflt_kv]
              repeat (refine br_go ?_ ?_; (focus (((repeat' first | exact rfl | exact ordB_st rfl | exact ordB_of rfl | apply band | apply tst_t | apply nt_t)  <;> (try dsimp only [Ty.den, dflt_kv]) <;> (try simp only [LL]) <;> (first | trivial | assumption | omega | (change (_ : Int) ≤ _; omega) | (change (_ : Int) < _; omega) | (change (_ : Nat) * 1 ≤ _; omega) | (change (_ : Nat) * 48 ≤ _; omega) | (change (_ : Nat) * 24 ≤ _; omega) | (change (_ : Nat) * 8 ≤ _; omega) | (change (_ : Nat) * 64 ≤ _; omega) | decide)); done)); (conv => lhs; whnf); (try simp (maxSteps := 2000000) (disch := omega) only [NN, Ty.den, dflt_kv]))
              have hx := hK2 (j + 1 + 1, out) ⟨by show j + 1 + 1 ≤ _; omega, hkeep _ k2, by show out.length ≤ j + 1 + 1; omega⟩ (by show m.length - (j + 1 + 1) < m.length - (j + 1); omega)
              have e : oldT m old (j + 1 + 1) = true := tst_t (by show (split (m.getD (j + 1) kvd).1).2.1 ≤ old; omega)
              dsimp only at hx
              rw [e] at hx
              exact hx
            · have hb : behK old (some (m.getD j kvd)) (m.getD (j + 1) kvd) = false := decide_eq_false (fun h => hu h.1.symm)
              rw [hb, Bool.false_or] at k2
              refine br_no (tst_f (hu)) ?_
              conv => lhs; whnf
              try simp (maxSteps := 2000000) (disch := omega) only [NN, Ty.den, dflt_kv]
              repeat (refine br_go ?_ ?_; (focus (((repeat' first | exact rfl | exact ordB_st rfl | exact ordB_of rfl | apply band | apply tst_t | apply nt_t)  <;> (try dsimp only [Ty.den, dflt_kv]) <;> (try simp only [LL]) <;> (first | trivial | assumption | omega | (change (_ : Int) ≤ _; omega) | (change (_ : Int) < _; omega) | (change (_ : Nat) * 1 ≤ _; omega) | (change (_ : Nat) * 48 ≤ _; omega) | (change (_ : Nat) * 24 ≤ _; omega) | (change (_ : Nat) * 8 ≤ _; omega) | (change (_ : Nat) * 64 ≤ _; omega) | decide)); done)); (conv => lhs; whnf); (try simp (maxSteps := 2000000) (disch := omega) only [NN, Ty.den, dflt_kv]))
              by_cases g1 : (split (m.getD (j + 1) kvd).1).2.2.1 = 0
              · refine br_go (tst_t (g1)) ?_
                conv => lhs; whnf
                try simp (maxSteps := 2000000) (disch := omega) only [NN, Ty.den, dflt_kv]
                repeat (refine br_go ?_ ?_; (focus (((repeat' first | exact rfl | exact ordB_st rfl | exact ordB_of rfl | apply band | apply tst_t | apply nt_t)  <;> (try dsimp only [Ty.den, dflt_kv]) <;> (try simp only [LL]) <;> (first | trivial | assumption | omega | (change (_ : Int) ≤ _; omega) | (change (_ : Int) < _; omega) | (change (_ : Nat) * 1 ≤ _; omega) | (change (_ : Nat) * 48 ≤ _; omega) | (change (_ : Nat) * 24 ≤ _; omega) | (change (_ : Nat) * 8 ≤ _; omega) | (change (_ : Nat) * 64 ≤ _; omega) | decide)); done)); (conv => lhs; whnf); (try simp (maxSteps := 2000000) (disch := omega) only [NN, Ty.den, dflt_kv]))
                by_cases g2 : (split (m.getD (j + 1) kvd).1).2.1 ≤ old
                · refine br_go (tst_t (g2)) ?_
                  conv => lhs; whnf
                  try simp (maxSteps := 2000000) (disch := omega) only [NN, Ty.den, dflt_kv]
                  repeat (refine br_go ?_ ?_; (focus (((repeat' first | exact rfl | exact ordB_st rfl | exact ordB_of rfl | apply band | apply tst_t | apply nt_t)  <;> (try dsimp only [Ty.den, dflt_kv]) <;> (try simp only [LL]) <;> (first | trivial | assumption | omega | (change (_ : Int) ≤ _; omega) | (change (_ : Int) < _; omega) | (change (_ : Nat) * 1 ≤ _; omega) | (change (_ : Nat) * 48 ≤ _; omega) | (change (_ : Nat) * 24 ≤ _; omega) | (change (_ : Nat) * 8 ≤ _; omega) | (change (_ : Nat) * 64 ≤ _; omega) | decide)); done)); (conv => lhs; whnf); (try simp (maxSteps := 2000000) (disch := omega) only [NN, Ty.den, dflt_kv]))
                  cases g3 : inB dp (split (m.getD (j + 1) kvd).1).1 with
                  | false =>
                    try simp (maxSteps := 2000000) (disch := omega) only [NN, Ty.den, dflt_kv, g3]
                    conv => lhs; whnf
                    try simp (maxSteps := 2000000) (disch := omega) only [NN, Ty.den, dflt_kv]
                    repeat (refine br_go ?_ ?_; (focus (((repeat' first | exact rfl | exact ordB_st rfl | exact ordB_of rfl | apply band | apply tst_t | apply nt_t)  <;> (try dsimp only [Ty.den, dflt_kv]) <;> (try simp only [LL]) <;> (first | trivial | assumption | omega | (change (_ : Int) ≤ _; omega) | (change (_ : Int) < _; omega) | (change (_ : Nat) * 1 ≤ _; omega) | (change (_ : Nat) * 48 ≤ _; omega) | (change (_ : Nat) * 24 ≤ _; omega) | (change (_ : Nat) * 8 ≤ _; omega) | (change (_ : Nat) * 64 ≤ _; omega) | decide)); done)); (conv => lhs; whnf); (try simp (maxSteps := 2000000) (disch := omega) only [NN, Ty.den, dflt_kv]))
                    have hg : goneK old dp (m.getD (j + 1) kvd) = true := by unfold goneK; rw [decide_eq_true g1, decide_eq_true g2, g3]; rfl
                    rw [hg, if_pos rfl] at k2
                    exact hK2 ((j + 1) + 1, out) ⟨by show (j + 1) + 1 ≤ _; omega, hkeep _ k2, by show List.length out ≤ (j + 1) + 1; (try rw [List.length_append, List.length_singleton]); omega⟩ (by show m.length - ((j + 1) + 1) < m.length - (j + 1); omega)
                  | true =>
                    try simp (maxSteps := 2000000) (disch := omega) only [NN, Ty.den, dflt_kv, g3]
                    conv => lhs; whnf
                    try simp (maxSteps := 2000000) (disch := omega) only [NN, Ty.den, dflt_kv]
                    repeat (refine br_go ?_ ?_; (focus (((repeat' first | exact rfl | exact ordB_st rfl | exact ordB_of rfl | apply band | apply tst_t | apply nt_t)  <;> (try dsimp only [Ty.den, dflt_kv]) <;> (try simp only [LL]) <;> (first | trivial | assumption | omega | (change (_ : Int) ≤ _; omega) | (change (_ : Int) < _; omega) | (change (_ : Nat) * 1 ≤ _; omega) | (change (_ : Nat) * 48 ≤ _; omega) | (change (_ : Nat) * 24 ≤ _; omega) | (change (_ : Nat) * 8 ≤ _; omega) | (change (_ : Nat) * 64 ≤ _; omega) | decide)); done)); (conv => lhs; whnf); (try simp (maxSteps := 2000000) (disch := omega) only [NN, Ty.den, dflt_kv]))
                    have hg : goneK old dp (m.getD (j + 1) kvd) = false := by unfold goneK; rw [g3]; simp
                    rw [hg, if_neg (by decide)] at k2
                    exact hK2 ((j + 1) + 1, (out ++ [m.getD (j + 1) kvd])) ⟨by show (j + 1) + 1 ≤ _; omega, hkeep _ (by rw [List.append_assoc]; exact k2), by show List.length (out ++ [m.getD (j + 1) kvd]) ≤ (j + 1) + 1; (try rw [List.length_append, List.length_singleton]); omega⟩ (by show m.length - ((j + 1) + 1) < m.length - (j + 1); omega)
                · refine br_no (tst_f (g2)) ?_
                  conv => lhs; whnf
                  try simp (maxSteps := 2000000) (disch := omega) only [NN, Ty.den, dflt_kv]
                  repeat (refine br_go ?_ ?_; (focus (((repeat' first | exact rfl | exact ordB_st rfl | exact ordB_of rfl | apply band | apply tst_t | apply nt_t)  <;> (try dsimp only [Ty.den, dflt_kv]) <;> (try simp only [LL]) <;> (first | trivial | assumption | omega | (change (_ : Int) ≤ _; omega) | (change (_ : Int) < _; omega) | (change (_ : Nat) * 1 ≤ _; omega) | (change (_ : Nat) * 48 ≤ _; omega) | (change (_ : Nat) * 24 ≤ _; omega) | (change (_ : Nat) * 8 ≤ _; omega) | (change (_ : Nat) * 64 ≤ _; omega) | decide)); done)); (conv => lhs; whnf); (try simp (maxSteps := 2000000) (disch := omega) only [NN, Ty.den, dflt_kv]))
                  have hg : goneK old dp (m.getD (j + 1) kvd) = false := by unfold goneK; rw [decide_eq_false g2]; simp
                  rw [hg, if_neg (by decide)] at k2
                  exact hK2 ((j + 1) + 1, (out ++ [m.getD (j + 1) kvd])) ⟨by show (j + 1) + 1 ≤ _; omega, hkeep _ (by rw [List.append_assoc]; exact k2), by show List.length (out ++ [m.getD (j + 1) kvd]) ≤ (j + 1) + 1; (try rw [List.length_append, List.length_singleton]); omega⟩ (by show m.length - ((j + 1) + 1) < m.length - (j + 1); omega)
              · refine br_no (tst_f (g1)) ?_
                conv => lhs; whnf
                try simp (maxSteps := 2000000) (disch := omega) only [NN, Ty.den, dflt_kv]
                repeat (refine br_go ?_ ?_; (focus (((repeat' first | exact rfl | exact ordB_st rfl | exact ordB_of rfl | apply band | apply tst_t | apply nt_t)  <;> (try dsimp only [Ty.den, dflt_kv]) <;> (try simp only [LL]) <;> (first | trivial | assumption | omega | (change (_ : Int) ≤ _; omega) | (change (_ : Int) < _; omega) | (change (_ : Nat) * 1 ≤ _; omega) | (change (_ : Nat) * 48 ≤ _; omega) | (change (_ : Nat) * 24 ≤ _; omega) | (change (_ : Nat) * 8 ≤ _; omega) | (change (_ : Nat) * 64 ≤ _; omega) | decide)); done)); (conv => lhs; whnf); (try simp (maxSteps := 2000000) (disch := omega) only [NN, Ty.den, dflt_kv]))
                have hg : goneK old dp (m.getD (j + 1) kvd) = false := by unfold goneK; rw [decide_eq_false g1]; simp
                rw [hg, if_neg (by decide)] at k2
                exact hK2 ((j + 1) + 1, (out ++ [m.getD (j + 1) kvd])) ⟨by show (j + 1) + 1 ≤ _; omega, hkeep _ (by rw [List.append_assoc]; exact k2), by show List.length (out ++ [m.getD (j + 1) kvd]) ≤ (j + 1) + 1; (try rw [List.length_append, List.length_singleton]); omega⟩ (by show m.length - ((j + 1) + 1) < m.length - (j + 1); omega)
          · have hb : behK old (some (m.getD j kvd)) (m.getD (j + 1) kvd) = false := decide_eq_false (fun h => hs h.2)
            rw [hb, Bool.false_or] at k2
            refine br_no (tst_f (hs)) ?_
            conv => lhs; whnf
            try simp (maxSteps := 2000000) (disch := omega) only [NN, Ty.den, dflt_kv]
            repeat (refine br_go ?_ ?_; (focus (((repeat' first | exact rfl | exact ordB_st rfl | exact ordB_of rfl | apply band | apply tst_t | apply nt_t)  <;> (try dsimp only [Ty.den, dflt_kv]) <;> (try simp only [LL]) <;> (first | trivial | assumption | omega | (change (_ : Int) ≤ _; omega) | (change (_ : Int) < _; omega) | (change (_ : Nat) * 1 ≤ _; omega) | (change (_ : Nat) * 48 ≤ _; omega) | (change (_ : Nat) * 24 ≤ _; omega) | (change (_ : Nat) * 8 ≤ _; omega) | (change (_ : Nat) * 64 ≤ _; omega) | decide)); done)); (conv => lhs; whnf); (try simp (maxSteps := 2000000) (disch := omega) only [NN, Ty.den, dflt_kv]))
            by_cases g1 : (split (m.getD (j + 1) kvd).1).2.2.1 = 0
            · refine br_go (tst_t (g1)) ?_
              conv => lhs; whnf
              try simp (maxSteps := 2000000) (disch := omega) only [NN, Ty.den, dflt_kv]
              repeat (refine br_go ?_ ?_; (focus (((repeat' first | exact rfl | exact ordB_st rfl | exact ordB_of rfl | apply band | apply tst_t | apply nt_t)  <;> (try dsimp only [Ty.den, dflt_kv]) <;> (try simp only [LL]) <;> (first | trivial | assumption | omega | (change (_ : Int) ≤ _; omega) | (change (_ : Int) < _; omega) | (change (_ : Nat) * 1 ≤ _; omega) | (change (_ : Nat) * 48 ≤ _; omega) | (change (_ : Nat) * 24 ≤ _; omega) | (change (_ : Nat) * 8 ≤ _; omega) | (change (_ : Nat) * 64 ≤ _; omega) | decide)); done)); (conv => lhs; whnf); (try simp (maxSteps := 2000000) (disch := omega) only [NN, Ty.den, dflt_kv]))
              by_cases g2 : (split (m.getD (j + 1) kvd).1).2.1 ≤ old
              · refine br_go (tst_t (g2)) ?_
                conv => lhs; whnf
                try simp (maxSteps := 2000000) (disch := omega) only [NN, Ty.den, dflt_kv]
                repeat (refine br_go ?_ ?_; (focus (((repeat' first | exact rfl | exact ordB_st rfl | exact ordB_of rfl | apply band | apply tst_t | apply nt_t)  <;> (try dsimp only [Ty.den, dflt_kv]) <;> (try simp only [LL]) <;> (first | trivial | assumption | omega | (change (_ : Int) ≤ _; omega) | (change (_ : Int) < _; omega) | (change (_ : Nat) * 1 ≤ _; omega) | (change (_ : Nat) * 48 ≤ _; omega) | (change (_ : Nat) * 24 ≤ _; omega) | (change (_ : Nat) * 8 ≤ _; omega) | (change (_ : Nat) * 64 ≤ _; omega) | decide)); done)); (conv => lhs; whnf); (try simp (maxSteps := 2000000) (disch := omega) only [NN, Ty.den, dflt_kv]))
                cases g3 : inB dp (split (m.getD (j + 1) kvd).1).1 with
                | false =>
                  try simp (maxSteps := 2000000) (disch := omega) only [NN, Ty.den, dflt_kv, g3]
                  conv => lhs; whnf
                  try simp (maxSteps := 2000000) (disch := omega) only [NN, Ty.den, dflt_kv]
                  repeat (refine br_go ?_ ?_; (focus (((repeat' first | exact rfl | exact ordB_st rfl | exact ordB_of rfl | apply band | apply tst_t | apply nt_t)  <;> (try dsimp only [Ty.den, dflt_kv]) <;> (try simp only [LL]) <;> (first | trivial | assumption | omega | (change (_ : Int) ≤ _; omega) | (change (_ : Int) < _; omega) | (change (_ : Nat) * 1 ≤ _; omega) | (change (_ : Nat) * 48 ≤ _; omega) | (change (_ : Nat) * 24 ≤ _; omega) | (change (_ : Nat) * 8 ≤ _; omega) | (change (_ : Nat) * 64 ≤ _; omega) | decide)); done)); (conv => lhs; whnf); (try simp (maxSteps := 2000000) (disch := omega) only [NN, Ty.den, dflt_kv]))
                  have hg : goneK old dp (m.getD (j + 1) kvd) = true := by unfold goneK; rw [decide_eq_true g1, decide_eq_true g2, g3]; rfl
                  rw [hg, if_pos rfl] at k2
                  exact hK2 ((j + 1) + 1, out) ⟨by show (j + 1) + 1 ≤ _; omega, hkeep _ k2, by show List.length out ≤ (j + 1) + 1; (try rw [List.length_append, List.length_singleton]); omega⟩ (by show m.length - ((j + 1) + 1) < m.length - (j + 1); omega)
                | true =>
                  try simp (maxSteps := 2000000) (disch := omega) only [NN, Ty.den, dflt_kv, g3]
                  conv => lhs; whnf
                  try simp (maxSteps := 2000000) (disch := omega) only [NN, Ty.den, dflt_kv]
                  repeat (refine br_go ?_ ?_; (focus (((repeat' first | exact rfl | exact ordB_st rfl | exact ordB_of rfl | apply band | apply tst_t | apply nt_t)  <;> (try dsimp only [Ty.den, dflt_kv]) <;> (try simp only [LL]) <;> (first | trivial | assumption | omega | (change (_ : Int) ≤ _; omega) | (change (_ : Int) < _; omega) | (change (_ : Nat) * 1 ≤ _; omega) | (change (_ : Nat) * 48 ≤ _; omega) | (change (_ : Nat) * 24 ≤ _; omega) | (change (_ : Nat) * 8 ≤ _; omega) | (change (_ : Nat) * 64 ≤ _; omega) | decide)); done)); (conv => lhs; whnf); (try simp (maxSteps := 2000000) (disch := omega) only [NN, Ty.den, dflt_kv]))
                  have hg : goneK old dp (m.getD (j + 1) kvd) = false := by unfold goneK; rw [g3]; simp
                  rw [hg, if_neg (by decide)] at k2
                  exact hK2 ((j + 1) + 1, (out ++ [m.getD (j + 1) kvd])) ⟨by show (j + 1) + 1 ≤ _; omega, hkeep _ (by rw [List.append_assoc]; exact k2), by show List.length (out ++ [m.getD (j + 1) kvd]) ≤ (j + 1) + 1; (try rw [List.length_append, List.length_singleton]); omega⟩ (by show m.length - ((j + 1) + 1) < m.length - (j + 1); omega)
              · refine br_no (tst_f (g2)) ?_
                conv => lhs; whnf
                try simp (maxSteps := 2000000) (disch := omega) only [NN, Ty.den, dflt_kv]
                repeat (refine br_go ?_ ?_; (focus (((repeat' first | exact rfl | exact ordB_st rfl | exact ordB_of rfl | apply band | apply tst_t | apply nt_t)  <;> (try dsimp only [Ty.den, dflt_kv]) <;> (try simp only [LL]) <;> (first | trivial | assumption | omega | (change (_ : Int) ≤ _; omega) | (change (_ : Int) < _; omega) | (change (_ : Nat) * 1 ≤ _; omega) | (change (_ : Nat) * 48 ≤ _; omega) | (change (_ : Nat) * 24 ≤ _; omega) | (change (_ : Nat) * 8 ≤ _; omega) | (change (_ : Nat) * 64 ≤ _; omega) | decide)); done)); (conv => lhs; whnf); (try simp (maxSteps := 2000000) (disch := omega) only [NN, Ty.den, dflt_kv]))
                have hg : goneK old dp (m.getD (j + 1) kvd) = false := by unfold goneK; rw [decide_eq_false g2]; simp
                rw [hg, if_neg (by decide)] at k2
                exact hK2 ((j + 1) + 1, (out ++ [m.getD (j + 1) kvd])) ⟨by show (j + 1) + 1 ≤ _; omega, hkeep _ (by rw [List.append_assoc]; exact k2), by show List.length (out ++ [m.getD (j + 1) kvd]) ≤ (j + 1) + 1; (try rw [List.length_append, List.length_singleton]); omega⟩ (by show m.length - ((j + 1) + 1) < m.length - (j + 1); omega)
            · refine br_no (tst_f (g1)) ?_
              conv => lhs; whnf
              try simp (maxSteps := 2000000) (disch := omega) only [NN, Ty.den, dflt_kv]
              repeat (refine br_go ?_ ?_; (focus (((repeat' first | exact rfl | exact ordB_st rfl | exact ordB_of rfl | apply band | apply tst_t | apply nt_t)  <;> (try dsimp only [Ty.den, dflt_kv]) <;> (try simp only [LL]) <;> (first | trivial | assumption | omega | (change (_ : Int) ≤ _; omega) | (change (_ : Int) < _; omega) | (change (_ : Nat) * 1 ≤ _; omega) | (change (_ : Nat) * 48 ≤ _; omega) | (change (_ : Nat) * 24 ≤ _; omega) | (change (_ : Nat) * 8 ≤ _; omega) | (change (_ : Nat) * 64 ≤ _; omega) | decide)); done)); (conv => lhs; whnf); (try simp (maxSteps := 2000000) (disch := omega) only [NN, Ty.den, dflt_kv]))
              have hg : goneK old dp (m.getD (j + 1) kvd) = false := by unfold goneK; rw [decide_eq_false g1]; simp
              rw [hg, if_neg (by decide)] at k2
              exact hK2 ((j + 1) + 1, (out ++ [m.getD (j + 1) kvd])) ⟨by show (j + 1) + 1 ≤ _; omega, hkeep _ (by rw [List.append_assoc]; exact k2), by show List.length (out ++ [m.getD (j + 1) kvd]) ≤ (j + 1) + 1; (try rw [List.length_append, List.length_singleton]); omega⟩ (by show m.length - ((j + 1) + 1) < m.length - (j + 1); omega)
      · have hlast : ∃ i', i' = i := ⟨_, rfl⟩
        rw [List.drop_eq_nil_of_le (by omega), keepGo, List.append_nil] at k2
        cases i with
        | zero =>
          conv => lhs; whnf
          try simp (maxSteps := 2000000) (disch := omega) only [NN, Ty.den, dflt_kv]
          refine br_no (tst_f (by omega)) ?_
          conv => lhs; whnf
          try simp (maxSteps := 2000000) (disch := omega) only [NN, Ty.den, dflt_kv]
          repeat (refine br_go ?_ ?_; (focus (((repeat' first | exact rfl | exact ordB_st rfl | exact ordB_of rfl | apply band | apply tst_t | apply nt_t)  <;> (try dsimp only [Ty.den, dflt_kv]) <;> (try simp only [LL]) <;> (first | trivial | assumption | omega | (change (_ : Int) ≤ _; omega) | (change (_ : Int) < _; omega) | (change (_ : Nat) * 1 ≤ _; omega) | (change (_ : Nat) * 48 ≤ _; omega) | (change (_ : Nat) * 24 ≤ _; omega) | (change (_ : Nat) * 8 ≤ _; omega) | (change (_ : Nat) * 64 ≤ _; omega) | decide)); done)); (conv => lhs; whnf); (try simp (maxSteps := 2000000) (disch := omega) only [NN, Ty.den, dflt_kv]))
          rw [hkm]
          conv => lhs; whnf
          try simp (maxSteps := 2000000) (disch := omega) only [NN, Ty.den, dflt_kv]
          repeat (refine br_go ?_ ?_; (focus (((repeat' first | exact rfl | exact ordB_st rfl | exact ordB_of rfl | apply band | apply tst_t | apply nt_t)  <;> (try dsimp only [Ty.den, dflt_kv]) <;> (try simp only [LL]) <;> (first | trivial | assumption | omega | (change (_ : Int) ≤ _; omega) | (change (_ : Int) < _; omega) | (change (_ : Nat) * 1 ≤ _; omega) | (change (_ : Nat) * 48 ≤ _; omega) | (change (_ : Nat) * 24 ≤ _; omega) | (change (_ : Nat) * 8 ≤ _; omega) | (change (_ : Nat) * 64 ≤ _; omega) | decide)); done)); (conv => lhs; whnf); (try simp (maxSteps := 2000000) (disch := omega) only [NN, Ty.den, dflt_kv]))
          rw [k2]
        | succ j =>
          conv => lhs; whnf
          try simp (maxSteps := 2000000) (disch := omega) only [NN, Ty.den, dflt_kv]
          refine br_no (tst_f (by omega)) ?_
          conv => lhs; whnf
          try simp (maxSteps := 2000000) (disch := omega) only [NN, Ty.den, dflt_kv]
          repeat (refine br_go ?_ ?_; (focus (((repeat' first | exact rfl | exact ordB_st rfl | exact ordB_of rfl | apply band | apply tst_t | apply nt_t)  <;> (try dsimp only [Ty.den, dflt_kv]) <;> (try simp only [LL]) <;> (first | trivial | assumption | omega | (change (_ : Int) ≤ _; omega) | (change (_ : Int) < _; omega) | (change (_ : Nat) * 1 ≤ _; omega) | (change (_ : Nat) * 48 ≤ _; omega) | (change (_ : Nat) * 24 ≤ _; omega) | (change (_ : Nat) * 8 ≤ _; omega) | (change (_ : Nat) * 64 ≤ _; omega) | decide)); done)); (conv => lhs; whnf); (try simp (maxSteps := 2000000) (disch := omega) only [NN, Ty.den, dflt_kv]))
          rw [hkm]
          conv => lhs; whnf
          try simp (maxSteps := 2000000) (disch := omega) only [NN, Ty.den, dflt_kv]
          repeat (refine br_go ?_ ?_; (focus (((repeat' first | exact rfl | exact ordB_st rfl | exact ordB_of rfl | apply band | apply tst_t | apply nt_t)  <;> (try dsimp only [Ty.den, dflt_kv]) <;> (try simp only [LL]) <;> (first | trivial | assumption | omega | (change (_ : Int) ≤ _; omega) | (change (_ : Int) < _; omega) | (change (_ : Nat) * 1 ≤ _; omega) | (change (_ : Nat) * 48 ≤ _; omega) | (change (_ : Nat) * 24 ≤ _; omega) | (change (_ : Nat) * 8 ≤ _; omega) | (change (_ : Nat) * 64 ≤ _; omega) | decide)); done)); (conv => lhs; whnf); (try simp (maxSteps := 2000000) (disch := omega) only [NN, Ty.den, dflt_kv]))
          rw [k2]
end Go.Proofs.Ytmpmmfbgdpfnpaa.Ev
/- bytes.Clone: of nil nothing, of all else a copy. -/
namespace Go.Proofs.Ytmpmmfbgdpfnpaa.Ev
open Go Go.RowKit
set_option linter.unusedVariables false
set_option maxRecDepth 100000
abbrev cloneC : Ctx := ⟨rows, (fun  | _ => ([], []))⟩
theorem clone_nil : evFn cloneC tab0 noCall 1 F43 [.nils] [] (fun v S => exportV S v) = some (.own 0 (.it .u8) ([] : List Int)) := by
  conv => lhs; whnf
  refine br_go (tst_t rfl) ?_
  rfl
theorem clone_nn (l : List Int) (hl : List.length l ≤ 140737488355328) : evFn cloneC tab0 noCall 1 F43 [.nn (.it .u8) l] [] (fun v S => exportV S v) = some (.own 0 (.it .u8) l) := by
  conv => lhs; whnf
  refine br_go (band (band rfl (tst_t rfl)) (tst_t ?_)) ?_
  · show (0 + List.length l) * 1 ≤ 140737488355328
    omega
  conv => lhs; whnf
  refine br_go (tst_t rfl) ?_
  rfl
theorem clone_far (l : List Int) : FarRes Try.prog 43 [.d (.li (.it .u8)) l] (.own 0 (.it .u8) l) := by
  intro m w us R hl hr hR
  cases us with
  | nil => simp [RepVs] at hr
  | cons u us =>
    cases us with
    | cons _ _ => simp [RepVs] at hr
    | nil =>
      have hd : RepV (Env.of m) (.d (.li (.it .u8)) l) u := by simpa [RepVs] using hr
      obtain ⟨a, c, hu, h1, h2, h3, h4⟩ := rep_li_iff.1 hd
      simp only [List.cons.injEq, and_true] at hu
      subst hu
      cases a with
      | none =>
        have hl0 : l = [] := List.eq_nil_of_length_eq_zero h4.1
        have hc : c = 0 := h4.2
        subst hl0; subst hc
        exact far_fn (rows_ok _) (tabFar_ok tab0_far) noCall_ok mixed 1 at43 clone_nil m w _ R hl (by simp [RepVs, RepV]) hR
      | some ad =>
        refine far_fn (rows_ok _) (tabFar_ok tab0_far) noCall_ok mixed 1 at43 (clone_nn l h2) m w _ R hl ?_ hR
        simp only [RepVs, and_true, RepV] at hd ⊢
        exact ⟨hd, _, _, _, rfl⟩
end Go.Proofs.Ytmpmmfbgdpfnpaa.Ev
/- The law's known answer holds: run on given data. -/
namespace Go.Proofs.Ytmpmmfbgdpfnpaa.Ev
open Go Go.RowKit
set_option linter.unusedVariables false
set_option maxRecDepth 100000
set_option maxHeartbeats 8000000
noncomputable def TK0 : Tab := tabAdd tab0 43 cloneSp.ts cloneSp.F
noncomputable def TK : Tab := tabAdd TK0 76 cmpBSp.ts cmpBSp.F
theorem farRes_one (a b : Tst) {P : Program} {g : FuncId} {xs : List V} {v : V} (h : FarRes (tI := a) P g xs v) : FarRes (tI := b) P g xs v := by rw [Tst.one b a]; exact h
theorem tabFar_one (a b : Tst) {P : Program} {T : Tab} (h : TabFar (tI := a) P T) : TabFar (tI := b) P T := by rw [Tst.one b a]; exact h
theorem tk0_far : TabFar Try.prog TK0 := add_far cloneSp tab0_far at43 (by kernel_rfl) (by kernel_rfl) (fun x _ => clone_far x.1)
theorem tk_far : TabFar Try.prog TK := add_ext cmpBSp tk0_far (fun x _ => compare_ext x)
def noSwap (g : FuncId) : Bool := Nat.beq g 109
noncomputable abbrev TA : Tab := autoTabX (tI := fastT) noSwap TK 100 9
--example : (evFn (tI := fastT) (ctxOf 38) TA (inlH (tI := fastT) ctxOf TA 100 fnOf 9) 100 F38 [.d (.li kvl) [[([97,0,5,0,0,0,0,0,0], [], ())], [([97,0,3,0,0,0,0,0,0], [], ())]]] [] (fun v S => exportV (tI := fastT) S v)).isSome = true := by kernel_rfl
theorem known_ev : evFn (tI := fastT) (ctxOf 9) TA (inlH (tI := fastT) ctxOf TA 100 fnOf 9) 100 F9 [] [] (fun v S => exportV (tI := fastT) S v) = some (.d .bo true) := by kernel_rfl
theorem auto_ok : TabOK Try.prog TA := tabFar_ok (tI := fastT) (autoTabX_far (tI := fastT) (tabFar_one slowT fastT tk_far) 100 9)
theorem known_far : FarRes Try.prog 9 [] (.d .bo true) :=
  farRes_one fastT slowT (far_fn (tI := fastT) (rows_ok _) auto_ok (inl_ok (tI := fastT) (fun _ => rows_ok _) auto_ok mixed fnsOK 9) mixed 100 at9 known_ev)
def knownSp : Sp := ⟨[], fun _ => true, fun _ => .d .bo true⟩
end Go.Proofs.Ytmpmmfbgdpfnpaa.Ev
/- What a list of entries tells of a key at a moment, by the document; and the document's keys. -/
namespace Go.Proofs.Ytmpmmfbgdpfnpaa.Ev
open Go Go.RowKit
set_option linter.unusedVariables false
set_option linter.unusedSimpArgs false
set_option maxRecDepth 100000
set_option maxHeartbeats 8000000
--safe fixedL_length
/-- is it an entry of this key, of this moment or before? -/
def seenK (u : List Int) (q : Int) (x : KV) : Prop := (split x.1).2.2.2 = 0 ∧ cmpB (split x.1).1 u = 0 ∧ (split x.1).2.1 ≤ q
instance (u : List Int) (q : Int) (x : KV) : Decidable (seenK u q x) := by unfold seenK; infer_instance
def toldK (x : KV) : List Int × Bool := if (split x.1).2.2.1 = 1 then (x.2.1, true) else ([], false)
def viewS : List KV → List Int → Int → List Int × Bool
  | [], _, _ => ([], false)
  | x :: l, u, q => if seenK u q x then toldK x else viewS l u q
def viewSp : Sp := ⟨[kvl, byl, u64], fun _ => true, fun x => .tup [.d byl (viewS x.1 x.2.1 x.2.2.1).1, .d .bo (viewS x.1 x.2.1 x.2.2.1).2]⟩
abbrev viewC : Ctx := ⟨rows, (fun | 0 => ([0, 1, 2, 8], []) | 1 => ([], [0, 1, 2, 8]) | _ => ([], []))⟩
theorem view_ok (T : Tab) (h1 : T 16 = rsplitSp.ent) (h2 : T 17 = cmpBSp.ent) : viewSp.OkW T viewC F19 := by
  rw [on_top h1, on_top h2]
  rintro ⟨(l : List KV), (u : List Int), (q : Int), _⟩ hf _
  have hl : l.length ≤ 140737488355328 := (fits_kvl.1 hf.1).1
  obtain ⟨F, hF⟩ : ∃ F : Nat, F = l.length + 1 := ⟨_, rfl⟩
  refine ⟨F, 0, ?_⟩
  show evFn _ _ _ _ _ [vK l, vB u, vU q] [] _ = some (.tup [.d byl (viewS l u q).1, .d .bo (viewS l u q).2] : V)
  conv => lhs; whnf
  try simp (maxSteps := 2000000) (disch := omega) only [NN, Ty.den, dflt_kv]
  refine (loop_rule (α := Nat) (fun i => i ≤ l.length) (fun i => l.length - i)
    (fun i => (vK l :: vB u :: vU q :: V.bad :: V.bad :: V.bad :: V.bad :: V.bad :: vI i :: V.bad :: V.bad :: V.bad :: V.bad :: V.bad :: V.bad :: V.bad :: V.bad :: V.bad :: V.bad :: V.bad :: V.bad :: V.bad :: V.bad :: V.bad :: V.bad :: V.bad :: V.bad :: V.bad :: V.bad :: V.bad :: V.bad :: V.bad :: V.bad :: V.bad :: V.bad :: V.bad :: V.bad :: V.bad :: V.bad :: V.bad :: V.bad :: V.bad :: V.bad :: V.bad :: V.bad :: V.bad :: V.bad :: V.bad :: V.bad :: V.bad :: [])) (fun i => [.fam 0])
    (fun i => some (V.tup [.d byl (viewS (l.drop i) u q).1, .d .bo (viewS (l.drop i) u q).2])) ?_ F 0 (by omega) (by omega))
  rintro i K hi2 hK
  conv => lhs; whnf
  try simp (maxSteps := 2000000) (disch := omega) only [NN, Ty.den, dflt_kv]
  by_cases hi : i < l.length
  · refine br_go (tst_t (by omega)) ?_
    conv => lhs; whnf
    try simp (maxSteps := 2000000) (disch := omega) only [NN, Ty.den, dflt_kv]
    repeat (refine br_go ?_ ?_; (focus (((repeat' first | exact rfl | exact ordB_st rfl | exact ordB_of rfl | apply band | apply tst_t | apply nt_t)  <;> (try dsimp only [Ty.den, dflt_kv]) <;> (try simp only [LL, fixedL_length]) <;> (first | trivial | assumption | omega | (change (_ : Int) ≤ _; omega) | (change (_ : Int) < _; omega) | (change (_ : Nat) * 1 ≤ _; omega) | (change (_ : Nat) * 48 ≤ _; omega) | (change (_ : Nat) * 24 ≤ _; omega) | (change (_ : Nat) * 8 ≤ _; omega) | (change (_ : Nat) * 64 ≤ _; omega) | decide)); done)); (conv => lhs; whnf); (try simp (maxSteps := 2000000) (disch := omega) only [NN, Ty.den, dflt_kv]))
    rw [drop_at (d := kvd) hi, viewS]
    by_cases c1 : (split (l.getD i kvd).1).2.2.2 = 0
    · refine br_go (tst_t (c1)) ?_
      conv => lhs; whnf
      try simp (maxSteps := 2000000) (disch := omega) only [NN, Ty.den, dflt_kv]
      repeat (refine br_go ?_ ?_; (focus (((repeat' first | exact rfl | exact ordB_st rfl | exact ordB_of rfl | apply band | apply tst_t | apply nt_t)  <;> (try dsimp only [Ty.den, dflt_kv]) <;> (try simp only [LL, fixedL_length]) <;> (first | trivial | assumption | omega | (change (_ : Int) ≤ _; omega) | (change (_ : Int) < _; omega) | (change (_ : Nat) * 1 ≤ _; omega) | (change (_ : Nat) * 48 ≤ _; omega) | (change (_ : Nat) * 24 ≤ _; omega) | (change (_ : Nat) * 8 ≤ _; omega) | (change (_ : Nat) * 64 ≤ _; omega) | decide)); done)); (conv => lhs; whnf); (try simp (maxSteps := 2000000) (disch := omega) only [NN, Ty.den, dflt_kv]))
      by_cases c2 : cmpB (split (l.getD i kvd).1).1 u = 0
      · refine br_go (tst_t (c2)) ?_
        conv => lhs; whnf
        try simp (maxSteps := 2000000) (disch := omega) only [NN, Ty.den, dflt_kv]
        repeat (refine br_go ?_ ?_; (focus (((repeat' first | exact rfl | exact ordB_st rfl | exact ordB_of rfl | apply band | apply tst_t | apply nt_t)  <;> (try dsimp only [Ty.den, dflt_kv]) <;> (try simp only [LL, fixedL_length]) <;> (first | trivial | assumption | omega | (change (_ : Int) ≤ _; omega) | (change (_ : Int) < _; omega) | (change (_ : Nat) * 1 ≤ _; omega) | (change (_ : Nat) * 48 ≤ _; omega) | (change (_ : Nat) * 24 ≤ _; omega) | (change (_ : Nat) * 8 ≤ _; omega) | (change (_ : Nat) * 64 ≤ _; omega) | decide)); done)); (conv => lhs; whnf); (try simp (maxSteps := 2000000) (disch := omega) only [NN, Ty.den, dflt_kv]))
        by_cases c3 : (split (l.getD i kvd).1).2.1 ≤ q
        · refine br_go (tst_t (c3)) ?_
          conv => lhs; whnf
          try simp (maxSteps := 2000000) (disch := omega) only [NN, Ty.den, dflt_kv]
          rw [if_pos ⟨c1, c2, c3⟩]
          unfold toldK
          repeat (refine br_go ?_ ?_; (focus (((repeat' first | exact rfl | exact ordB_st rfl | exact ordB_of rfl | apply band | apply tst_t | apply nt_t)  <;> (try dsimp only [Ty.den, dflt_kv]) <;> (try simp only [LL, fixedL_length]) <;> (first | trivial | assumption | omega | (change (_ : Int) ≤ _; omega) | (change (_ : Int) < _; omega) | (change (_ : Nat) * 1 ≤ _; omega) | (change (_ : Nat) * 48 ≤ _; omega) | (change (_ : Nat) * 24 ≤ _; omega) | (change (_ : Nat) * 8 ≤ _; omega) | (change (_ : Nat) * 64 ≤ _; omega) | decide)); done)); (conv => lhs; whnf); (try simp (maxSteps := 2000000) (disch := omega) only [NN, Ty.den, dflt_kv]))
          by_cases c4 : (split (l.getD i kvd).1).2.2.1 = 1
          · refine br_go (tst_t (c4)) ?_
            conv => lhs; whnf
            try simp (maxSteps := 2000000) (disch := omega) only [NN, Ty.den, dflt_kv]
            repeat (refine br_go ?_ ?_; (focus (((repeat' first | exact rfl | exact ordB_st rfl | exact ordB_of rfl | apply band | apply tst_t | apply nt_t)  <;> (try dsimp only [Ty.den, dflt_kv]) <;> (try simp only [LL, fixedL_length]) <;> (first | trivial | assumption | omega | (change (_ : Int) ≤ _; omega) | (change (_ : Int) < _; omega) | (change (_ : Nat) * 1 ≤ _; omega) | (change (_ : Nat) * 48 ≤ _; omega) | (change (_ : Nat) * 24 ≤ _; omega) | (change (_ : Nat) * 8 ≤ _; omega) | (change (_ : Nat) * 64 ≤ _; omega) | decide)); done)); (conv => lhs; whnf); (try simp (maxSteps := 2000000) (disch := omega) only [NN, Ty.den, dflt_kv]))
            rw [if_pos c4]
          · refine br_no (tst_f (c4)) ?_
            conv => lhs; whnf
            try simp (maxSteps := 2000000) (disch := omega) only [NN, Ty.den, dflt_kv]
            repeat (refine br_go ?_ ?_; (focus (((repeat' first | exact rfl | exact ordB_st rfl | exact ordB_of rfl | apply band | apply tst_t | apply nt_t)  <;> (try dsimp only [Ty.den, dflt_kv]) <;> (try simp only [LL, fixedL_length]) <;> (first | trivial | assumption | omega | (change (_ : Int) ≤ _; omega) | (change (_ : Int) < _; omega) | (change (_ : Nat) * 1 ≤ _; omega) | (change (_ : Nat) * 48 ≤ _; omega) | (change (_ : Nat) * 24 ≤ _; omega) | (change (_ : Nat) * 8 ≤ _; omega) | (change (_ : Nat) * 64 ≤ _; omega) | decide)); done)); (conv => lhs; whnf); (try simp (maxSteps := 2000000) (disch := omega) only [NN, Ty.den, dflt_kv]))
            rw [if_neg c4]
        · refine br_no (tst_f (c3)) ?_
          conv => lhs; whnf
          try simp (maxSteps := 2000000) (disch := omega) only [NN, Ty.den, dflt_kv]
          rw [if_neg (fun h => by unfold seenK at h; omega)]
          repeat (refine br_go ?_ ?_; (focus (((repeat' first | exact rfl | exact ordB_st rfl | exact ordB_of rfl | apply band | apply tst_t | apply nt_t)  <;> (try dsimp only [Ty.den, dflt_kv]) <;> (try simp only [LL, fixedL_length]) <;> (first | trivial | assumption | omega | (change (_ : Int) ≤ _; omega) | (change (_ : Int) < _; omega) | (change (_ : Nat) * 1 ≤ _; omega) | (change (_ : Nat) * 48 ≤ _; omega) | (change (_ : Nat) * 24 ≤ _; omega) | (change (_ : Nat) * 8 ≤ _; omega) | (change (_ : Nat) * 64 ≤ _; omega) | decide)); done)); (conv => lhs; whnf); (try simp (maxSteps := 2000000) (disch := omega) only [NN, Ty.den, dflt_kv]))
          exact hK (i + 1) (by show i + 1 ≤ _; omega) (by show l.length - (i + 1) < l.length - i; omega)
      · refine br_no (tst_f (c2)) ?_
        conv => lhs; whnf
        try simp (maxSteps := 2000000) (disch := omega) only [NN, Ty.den, dflt_kv]
        rw [if_neg (fun h => by unfold seenK at h; omega)]
        repeat (refine br_go ?_ ?_; (focus (((repeat' first | exact rfl | exact ordB_st rfl | exact ordB_of rfl | apply band | apply tst_t | apply nt_t)  <;> (try dsimp only [Ty.den, dflt_kv]) <;> (try simp only [LL, fixedL_length]) <;> (first | trivial | assumption | omega | (change (_ : Int) ≤ _; omega) | (change (_ : Int) < _; omega) | (change (_ : Nat) * 1 ≤ _; omega) | (change (_ : Nat) * 48 ≤ _; omega) | (change (_ : Nat) * 24 ≤ _; omega) | (change (_ : Nat) * 8 ≤ _; omega) | (change (_ : Nat) * 64 ≤ _; omega) | decide)); done)); (conv => lhs; whnf); (try simp (maxSteps := 2000000) (disch := omega) only [NN, Ty.den, dflt_kv]))
        exact hK (i + 1) (by show i + 1 ≤ _; omega) (by show l.length - (i + 1) < l.length - i; omega)
    · refine br_no (tst_f (c1)) ?_
      conv => lhs; whnf
      try simp (maxSteps := 2000000) (disch := omega) only [NN, Ty.den, dflt_kv]
      rw [if_neg (fun h => by unfold seenK at h; omega)]
      repeat (refine br_go ?_ ?_; (focus (((repeat' first | exact rfl | exact ordB_st rfl | exact ordB_of rfl | apply band | apply tst_t | apply nt_t)  <;> (try dsimp only [Ty.den, dflt_kv]) <;> (try simp only [LL, fixedL_length]) <;> (first | trivial | assumption | omega | (change (_ : Int) ≤ _; omega) | (change (_ : Int) < _; omega) | (change (_ : Nat) * 1 ≤ _; omega) | (change (_ : Nat) * 48 ≤ _; omega) | (change (_ : Nat) * 24 ≤ _; omega) | (change (_ : Nat) * 8 ≤ _; omega) | (change (_ : Nat) * 64 ≤ _; omega) | decide)); done)); (conv => lhs; whnf); (try simp (maxSteps := 2000000) (disch := omega) only [NN, Ty.den, dflt_kv]))
      exact hK (i + 1) (by show i + 1 ≤ _; omega) (by show l.length - (i + 1) < l.length - i; omega)
  · refine br_no (tst_f (by omega)) ?_
    conv => lhs; whnf
    try simp (maxSteps := 2000000) (disch := omega) only [NN, Ty.den, dflt_kv]
    repeat (refine br_go ?_ ?_; (focus (((repeat' first | exact rfl | exact ordB_st rfl | exact ordB_of rfl | apply band | apply tst_t | apply nt_t)  <;> (try dsimp only [Ty.den, dflt_kv]) <;> (try simp only [LL, fixedL_length]) <;> (first | trivial | assumption | omega | (change (_ : Int) ≤ _; omega) | (change (_ : Int) < _; omega) | (change (_ : Nat) * 1 ≤ _; omega) | (change (_ : Nat) * 48 ≤ _; omega) | (change (_ : Nat) * 24 ≤ _; omega) | (change (_ : Nat) * 8 ≤ _; omega) | (change (_ : Nat) * 64 ≤ _; omega) | decide)); done)); (conv => lhs; whnf); (try simp (maxSteps := 2000000) (disch := omega) only [NN, Ty.den, dflt_kv]))
    rw [List.drop_of_length_le (by omega), viewS]
def rkeySp : Sp := ⟨[byl, u64, i64], fun _ => true, fun x => .tup [.d byl (key x.1 x.2.1 x.2.2.1).1, .d i64 (key x.1 x.2.1 x.2.2.1).2]⟩
abbrev rkeyC : Ctx := ⟨rows, (fun  | _ => ([], []))⟩
theorem rkey_ok (T : Tab) (h1 : T 46 = fixedSp.ent) : rkeySp.OkW T rkeyC F18 := by
  rw [on_top h1]
  rintro ⟨(l : List Int), (a : Int), (b : Int), _⟩ hf _
  have hl : l.length ≤ 140737488355328 := (fits_by.1 hf.1).1
  have ha : 0 ≤ a ∧ a ≤ 18446744073709551615 := fits_u64.1 hf.2.1
  obtain ⟨F, hF⟩ : ∃ F : Nat, F = 1 := ⟨_, rfl⟩
  refine ⟨F, 0, ?_⟩
  show evFn _ _ _ _ _ [vB l, vU a, vI b] [] _ = some (.tup [.d byl (key l a b).1, .d i64 (key l a b).2] : V)
  conv => lhs; whnf
  try simp (maxSteps := 2000000) (disch := omega) only [NN, Ty.den, dflt_kv]
  by_cases c1 : (l.length : Int) > 128
  · refine br_go (tst_t (c1)) ?_
    conv => lhs; whnf
    try simp (maxSteps := 2000000) (disch := omega) only [NN, Ty.den, dflt_kv]
    have es : key l a b = ([], 23) := if_neg (fun h => by unfold Right at h; omega)
    rw [es]
    repeat (refine br_go ?_ ?_; (focus (((repeat' first | exact rfl | exact ordB_st rfl | exact ordB_of rfl | apply band | apply tst_t | apply nt_t)  <;> (try dsimp only [Ty.den, dflt_kv]) <;> (try simp only [LL, fixedL_length]) <;> (first | trivial | assumption | omega | (change (_ : Int) ≤ _; omega) | (change (_ : Int) < _; omega) | (change (_ : Nat) * 1 ≤ _; omega) | (change (_ : Nat) * 48 ≤ _; omega) | (change (_ : Nat) * 24 ≤ _; omega) | (change (_ : Nat) * 8 ≤ _; omega) | (change (_ : Nat) * 64 ≤ _; omega) | decide)); done)); (conv => lhs; whnf); (try simp (maxSteps := 2000000) (disch := omega) only [NN, Ty.den, dflt_kv]))
  · refine br_no (tst_f (c1)) ?_
    conv => lhs; whnf
    try simp (maxSteps := 2000000) (disch := omega) only [NN, Ty.den, dflt_kv]
    by_cases c2 : a > 72057594037927935
    · refine br_go (tst_t (c2)) ?_
      conv => lhs; whnf
      try simp (maxSteps := 2000000) (disch := omega) only [NN, Ty.den, dflt_kv]
      have es : key l a b = ([], 23) := if_neg (fun h => by unfold Right at h; omega)
      rw [es]
      repeat (refine br_go ?_ ?_; (focus (((repeat' first | exact rfl | exact ordB_st rfl | exact ordB_of rfl | apply band | apply tst_t | apply nt_t)  <;> (try dsimp only [Ty.den, dflt_kv]) <;> (try simp only [LL, fixedL_length]) <;> (first | trivial | assumption | omega | (change (_ : Int) ≤ _; omega) | (change (_ : Int) < _; omega) | (change (_ : Nat) * 1 ≤ _; omega) | (change (_ : Nat) * 48 ≤ _; omega) | (change (_ : Nat) * 24 ≤ _; omega) | (change (_ : Nat) * 8 ≤ _; omega) | (change (_ : Nat) * 64 ≤ _; omega) | decide)); done)); (conv => lhs; whnf); (try simp (maxSteps := 2000000) (disch := omega) only [NN, Ty.den, dflt_kv]))
    · refine br_no (tst_f (c2)) ?_
      conv => lhs; whnf
      try simp (maxSteps := 2000000) (disch := omega) only [NN, Ty.den, dflt_kv]
      by_cases c3 : b < 0
      · refine br_go (tst_t (c3)) ?_
        conv => lhs; whnf
        try simp (maxSteps := 2000000) (disch := omega) only [NN, Ty.den, dflt_kv]
        have es : key l a b = ([], 23) := if_neg (fun h => by unfold Right at h; omega)
        rw [es]
        repeat (refine br_go ?_ ?_; (focus (((repeat' first | exact rfl | exact ordB_st rfl | exact ordB_of rfl | apply band | apply tst_t | apply nt_t)  <;> (try dsimp only [Ty.den, dflt_kv]) <;> (try simp only [LL, fixedL_length]) <;> (first | trivial | assumption | omega | (change (_ : Int) ≤ _; omega) | (change (_ : Int) < _; omega) | (change (_ : Nat) * 1 ≤ _; omega) | (change (_ : Nat) * 48 ≤ _; omega) | (change (_ : Nat) * 24 ≤ _; omega) | (change (_ : Nat) * 8 ≤ _; omega) | (change (_ : Nat) * 64 ≤ _; omega) | decide)); done)); (conv => lhs; whnf); (try simp (maxSteps := 2000000) (disch := omega) only [NN, Ty.den, dflt_kv]))
      · refine br_no (tst_f (c3)) ?_
        conv => lhs; whnf
        try simp (maxSteps := 2000000) (disch := omega) only [NN, Ty.den, dflt_kv]
        by_cases c4 : b > 1
        · refine br_go (tst_t (c4)) ?_
          conv => lhs; whnf
          try simp (maxSteps := 2000000) (disch := omega) only [NN, Ty.den, dflt_kv]
          have es : key l a b = ([], 23) := if_neg (fun h => by unfold Right at h; omega)
          rw [es]
          repeat (refine br_go ?_ ?_; (focus (((repeat' first | exact rfl | exact ordB_st rfl | exact ordB_of rfl | apply band | apply tst_t | apply nt_t)  <;> (try dsimp only [Ty.den, dflt_kv]) <;> (try simp only [LL, fixedL_length]) <;> (first | trivial | assumption | omega | (change (_ : Int) ≤ _; omega) | (change (_ : Int) < _; omega) | (change (_ : Nat) * 1 ≤ _; omega) | (change (_ : Nat) * 48 ≤ _; omega) | (change (_ : Nat) * 24 ≤ _; omega) | (change (_ : Nat) * 8 ≤ _; omega) | (change (_ : Nat) * 64 ≤ _; omega) | decide)); done)); (conv => lhs; whnf); (try simp (maxSteps := 2000000) (disch := omega) only [NN, Ty.den, dflt_kv]))
        · refine br_no (tst_f (c4)) ?_
          conv => lhs; whnf
          try simp (maxSteps := 2000000) (disch := omega) only [NN, Ty.den, dflt_kv]
          have es : key l a b = (l ++ fixedL (256 * a + b) 8, 0) := by
            rw [Int.mul_comm 256 a]
            exact if_pos (by unfold Right; omega)
          rw [es]
          repeat (refine br_go ?_ ?_; (focus (((repeat' first | exact rfl | exact ordB_st rfl | exact ordB_of rfl | apply band | apply tst_t | apply nt_t)  <;> (try dsimp only [Ty.den, dflt_kv]) <;> (try simp only [LL, fixedL_length]) <;> (first | trivial | assumption | omega | (change (_ : Int) ≤ _; omega) | (change (_ : Int) < _; omega) | (change (_ : Nat) * 1 ≤ _; omega) | (change (_ : Nat) * 48 ≤ _; omega) | (change (_ : Nat) * 24 ≤ _; omega) | (change (_ : Nat) * 8 ≤ _; omega) | (change (_ : Nat) * 64 ≤ _; omega) | decide)); done)); (conv => lhs; whnf); (try simp (maxSteps := 2000000) (disch := omega) only [NN, Ty.den, dflt_kv]))
end Go.Proofs.Ytmpmmfbgdpfnpaa.Ev
/- Merging changes no view. -/
namespace Go.Proofs.Ytmpmmfbgdpfnpaa.Ev
open Go Go.RowKit
set_option linter.unusedVariables false
set_option linter.unusedSimpArgs false
/-- order goes by users, then by moments back -/
theorem order_users {a b : List Int} (h : order a b < 0) : cmpB (split a).1 (split b).1 < 0 ∨ ((split a).1 = (split b).1 ∧ (split b).2.1 ≤ (split a).2.1) := by
  unfold order at h
  split at h
  · exact .inl h
  · rename_i e
    refine .inr ⟨cmpB_zero (Decidable.of_not_not e), ?_⟩
    split at h
    · omega
    · split at h <;> omega
/-- behind an entry that ends all that is told of u -/
theorem keep_none {old q : Int} {u : List Int} {dp : List KV} : ∀ {l : List KV} {w : KV}, (w :: l).Pairwise (fun x y => order x.1 y.1 < 0) → (((split w.1).1 = u ∧ (split w.1).2.1 ≤ old) ∨ cmpB u (split w.1).1 < 0) → viewS (keepGo old dp (some w) l) u q = ([], false)
  | [], _, _, _ => by rw [keepGo, viewS]
  | x :: l, w, hs, h => by
    rw [List.pairwise_cons] at hs
    have hx := order_users (hs.1 x List.mem_cons_self)
    have hn : ((split x.1).1 = u ∧ (split x.1).2.1 ≤ old ∧ behK old (some w) x = true) ∨ cmpB u (split x.1).1 < 0 := by
      rcases h with ⟨e, h⟩ | h
      · rcases hx with hx | ⟨hx, hy⟩
        · exact .inr (by rw [← e]; exact hx)
        · exact .inl ⟨by rw [← hx]; exact e, by omega, decide_eq_true ⟨hx, h⟩⟩
      · rcases hx with hx | ⟨hx, hy⟩
        · have := cmpB_trans (Int.le_of_lt h) (Int.le_of_lt hx)
          exact .inr (by omega)
        · exact .inr (by rw [← hx]; exact h)
    rcases hn with ⟨h1, h2, h3⟩ | h1
    · rw [keepGo, h3, Bool.true_or, if_pos rfl]
      exact keep_none hs.2 (.inl ⟨h1, h2⟩)
    · have := keep_none (q := q) (old := old) (dp := dp) hs.2 (.inr h1)
      rw [keepGo]
      split
      · exact this
      · rw [viewS, if_neg]
        · exact this
        · rintro ⟨_, h, _⟩
          have := cmpB_neg u (split x.1).1
          omega
theorem keep_view {old q : Int} {u : List Int} {dp e : List KV} (hq : old ≤ q) (he : inB dp u = true ∨ e = []) : ∀ {l : List KV} {p : Option KV}, (∀ x ∈ l, (split x.1).2.2.2 = 0) → l.Pairwise (fun x y => order x.1 y.1 < 0) → (∀ w, p = some w → (split w.1).2.2.2 = 0 ∧ ¬ seenK u q w) → viewS (keepGo old dp p l ++ e) u q = viewS (l ++ e) u q
  | [], p, _, _, _ => by rw [keepGo]
  | x :: l, p, ho, hs, hp => by
    have ih := keep_view (q := q) (dp := dp) hq he (l := l) (p := some x) (fun y hy => ho y (List.mem_cons_of_mem _ hy)) (List.pairwise_cons.1 hs).2
    rw [keepGo, List.cons_append, viewS]
    by_cases h : seenK u q x
    · rw [if_pos h]
      have hu := cmpB_zero h.2.1
      have hb : behK old p x = false := by
        cases p with
        | none => rfl
        | some w =>
          refine decide_eq_false fun ⟨a, b⟩ => ?_
          obtain ⟨w1, w2⟩ := hp w rfl
          exact w2 ⟨w1, by rw [a]; exact h.2.1, by omega⟩
      rw [hb, Bool.false_or]
      by_cases hg : goneK old dp x = true
      · rw [if_pos hg]
        unfold goneK at hg
        simp only [Bool.and_eq_true, decide_eq_true_eq, Bool.not_eq_true'] at hg
        obtain ⟨g1, g2, g3⟩ := hg
        rw [hu] at g3
        have e0 : e = [] := he.resolve_left (by rw [g3]; decide)
        rw [e0, List.append_nil, keep_none hs (.inl ⟨hu, g2⟩)]
        unfold toldK
        rw [if_neg (by omega)]
      · rw [if_neg hg, List.cons_append, viewS, if_pos h]
    · rw [if_neg h]
      have ih := ih (fun w hw => by cases hw; exact ⟨ho x List.mem_cons_self, h⟩)
      split
      · exact ih
      · rw [List.cons_append, viewS, if_neg h]
        exact ih
/-- what is merged tells no other view from the oldest moment on -/
theorem merge_view {l : List (List KV)} {old q : Int} {u : List Int} {dp e : List KV} (hok : (sortedS l).2 = true) (hq : old ≤ q) (he : inB dp u = true ∨ e = []) : viewS ((mgS l old dp).1 ++ e) u q = viewS ((sortedS l).1 ++ e) u q := by
  have hr : Rises (sortedS l).1 := by
    revert hok
    unfold sortedS mergeS
    split
    · split
      · intro _; assumption
      · intro h; cases h
    · intro h; cases h
  have h := (rises_iff _).1 hr
  unfold mgS
  rw [if_pos hok]
  exact keep_view hq he h.1 h.2 (fun w hw => by cases hw)
end Go.Proofs.Ytmpmmfbgdpfnpaa.Ev
/- The contracts that the laws of merging need, in a table. -/
namespace Go.Proofs.Ytmpmmfbgdpfnpaa.Ev
open Go Go.RowKit
set_option linter.unusedVariables false
set_option maxRecDepth 100000
set_option maxHeartbeats 8000000
noncomputable def T0 : Tab := tab0
theorem T0_far : TabFar Try.prog T0 := tab0_far
noncomputable def T1 : Tab := tabAdd T0 43 cloneSp.ts cloneSp.F
theorem T1_far : TabFar Try.prog T1 := add_far cloneSp T0_far at43 (by kernel_rfl) (by kernel_rfl) (fun x _ => clone_far x.1)
noncomputable def T2 : Tab := tabAdd T1 76 cmpBSp.ts cmpBSp.F
theorem T2_far : TabFar Try.prog T2 := add_ext cmpBSp T1_far (fun x _ => compare_ext x)
noncomputable def T3 : Tab := tabAdd T2 87 fixedSp.ts fixedSp.F
theorem T3_far : TabFar Try.prog T3 := add_ok fixedSp T2_far (rows_ok _) at87 (by kernel_rfl) (by kernel_rfl) (fixed_ok _)
noncomputable def T4 : Tab := tabAdd T3 77 fixed8Sp.ts fixed8Sp.F
theorem T4_far : TabFar Try.prog T4 := add_ok fixed8Sp T3_far (rows_ok _) at77 (by kernel_rfl) (by kernel_rfl) (fixed8_ok _ rfl)
noncomputable def T5 : Tab := tabAdd T4 80 unfixedSp.ts unfixedSp.F
theorem T5_far : TabFar Try.prog T5 := add_ok unfixedSp T4_far (rows_ok _) at80 (by kernel_rfl) (by kernel_rfl) (unfixed_ok _)
noncomputable def T6 : Tab := tabAdd T5 65 unfixed8Sp.ts unfixed8Sp.F
theorem T6_far : TabFar Try.prog T6 := add_ok unfixed8Sp T5_far (rows_ok _) at65 (by kernel_rfl) (by kernel_rfl) (unfixed8_ok _ rfl)
noncomputable def T7 : Tab := tabAdd T6 66 rightSp.ts rightSp.F
theorem T7_far : TabFar Try.prog T7 := add_ok rightSp T6_far (rows_ok _) at66 (by kernel_rfl) (by kernel_rfl) (right_ok _)
noncomputable def T8 : Tab := tabAdd T7 40 splitSp.ts splitSp.F
theorem T8_far : TabFar Try.prog T8 := add_ok splitSp T7_far (rows_ok _) at40 (by kernel_rfl) (by kernel_rfl) (split_ok _ rfl rfl rfl)
noncomputable def T9 : Tab := tabAdd T8 85 nanUSp.ts nanUSp.F
theorem T9_far : TabFar Try.prog T9 := add_ok nanUSp T8_far (rows_ok _) at85 (by kernel_rfl) (by kernel_rfl) (nanU_ok _)
noncomputable def T10 : Tab := tabAdd T9 86 nanISp.ts nanISp.F
theorem T10_far : TabFar Try.prog T10 := add_ok nanISp T9_far (rows_ok _) at86 (by kernel_rfl) (by kernel_rfl) (nanI_ok _)
noncomputable def T11 : Tab := tabAdd T10 74 cmpUSp.ts cmpUSp.F
theorem T11_far : TabFar Try.prog T11 := add_ok cmpUSp T10_far (rows_ok _) at74 (by kernel_rfl) (by kernel_rfl) (cmpU_ok _ rfl)
noncomputable def T12 : Tab := tabAdd T11 75 cmpISp.ts cmpISp.F
theorem T12_far : TabFar Try.prog T12 := add_ok cmpISp T11_far (rows_ok _) at75 (by kernel_rfl) (by kernel_rfl) (cmpI_ok _ rfl)
noncomputable def T13 : Tab := tabAdd T12 58 cmpBSp.ts cmpBSp.F
theorem T13_far : TabFar Try.prog T13 := add_ok cmpBSp T12_far (rows_ok _) at58 (by kernel_rfl) (by kernel_rfl) (bcompare_ok _ rfl)
noncomputable def T14 : Tab := tabAdd T13 56 compareSp.ts compareSp.F
theorem T14_far : TabFar Try.prog T14 := add_ok compareSp T13_far (rows_ok _) at56 (by kernel_rfl) (by kernel_rfl) (compare_ok _ rfl rfl rfl rfl)
noncomputable def T15 : Tab := tabAdd T14 41 equalSp.ts equalSp.F
theorem T15_far : TabFar Try.prog T15 := add_ok equalSp T14_far (rows_ok _) at41 (by kernel_rfl) (by kernel_rfl) (bequal_ok _)
noncomputable def T16 : Tab := tabAdd T15 46 fixedSp.ts fixedSp.F
theorem T16_far : TabFar Try.prog T16 := add_ok fixedSp T15_far (rows_ok _) at46 (by kernel_rfl) (by kernel_rfl) (rfixed_ok _)
noncomputable def T17 : Tab := tabAdd T16 45 runfixedSp.ts runfixedSp.F
theorem T17_far : TabFar Try.prog T17 := add_ok runfixedSp T16_far (rows_ok _) at45 (by kernel_rfl) (by kernel_rfl) (runfixed_ok _)
noncomputable def T18 : Tab := tabAdd T17 16 rsplitSp.ts rsplitSp.F
theorem T18_far : TabFar Try.prog T18 := add_okW rsplitSp T17_far (rows_ok _) at16 (by kernel_rfl) (by kernel_rfl) (rsplit_ok _ rfl)
noncomputable def T19 : Tab := tabAdd T18 47 isSp.ts isSp.F
theorem T19_far : TabFar Try.prog T19 := add_ok isSp T18_far (rows_ok _) at47 (by kernel_rfl) (by kernel_rfl) (is_ok _ rfl)
noncomputable def T20 : Tab := tabAdd T19 17 cmpBSp.ts cmpBSp.F
theorem T20_far : TabFar Try.prog T20 := add_ok cmpBSp T19_far (rows_ok _) at17 (by kernel_rfl) (by kernel_rfl) (rbytes_ok _)
noncomputable def T21 : Tab := tabAdd T20 44 orderSp.ts orderSp.F
theorem T21_far : TabFar Try.prog T21 := add_ok orderSp T20_far (rows_ok _) at44 (by kernel_rfl) (by kernel_rfl) (order_ok _ rfl rfl)
noncomputable def T22 : Tab := tabAdd T21 21 risesSp.ts risesSp.F
theorem T22_far : TabFar Try.prog T22 := add_ok risesSp T21_far (rows_ok _) at21 (by kernel_rfl) (by kernel_rfl) (rises_ok _ rfl rfl)
noncomputable def T23 : Tab := tabAdd T22 20 hbytesSp.ts hbytesSp.F
theorem T23_far : TabFar Try.prog T23 := add_ok hbytesSp T22_far (rows_ok _) at20 (by kernel_rfl) (by kernel_rfl) (hbytes_ok _)
noncomputable def T24 : Tab := tabAdd T23 13 kvsSp.ts kvsSp.F
theorem T24_far : TabFar Try.prog T24 := add_ok kvsSp T23_far (rows_ok _) at13 (by kernel_rfl) (by kernel_rfl) (kvs_ok _)
noncomputable def T25 : Tab := tabAdd T24 37 risesSp.ts risesSp.F
theorem T25_far : TabFar Try.prog T25 := add_ok risesSp T24_far (rows_ok _) at37 (by kernel_rfl) (by kernel_rfl) (crises_ok _ rfl)
noncomputable def T26 : Tab := tabAdd T25 42 withinSp.ts withinSp.F
theorem T26_far : TabFar Try.prog T26 := add_ok withinSp T25_far (rows_ok _) at42 (by kernel_rfl) (by kernel_rfl) (within_ok _ rfl)
noncomputable def T27 : Tab := tabAdd T26 15 inSp.ts inSp.F
theorem T27_far : TabFar Try.prog T27 := add_ok inSp T26_far (rows_ok _) at15 (by kernel_rfl) (by kernel_rfl) (rin_ok _ rfl)
noncomputable def T28 : Tab := tabAdd T27 62 lenQSp.ts lenQSp.F
theorem T28_far : TabFar Try.prog T28 := add_ok lenQSp T27_far (rows_ok _) at62 (by kernel_rfl) (by kernel_rfl) (lenQ_ok _)
noncomputable def T29 : Tab := tabAdd T28 106 lessSp.ts lessSp.F
theorem T29_far : TabFar Try.prog T29 := add_ok lessSp T28_far (rows_ok _) at106 (by kernel_rfl) (by kernel_rfl) (less_ok _ rfl)
noncomputable def T30 : Tab := tabAdd T29 38 mergedSp.ts mergedSp.F
theorem T30_far : TabFar Try.prog T30 := add_ok mergedSp T29_far (rows_ok _) at38 (by kernel_rfl) (by kernel_rfl) (merged_ok _ rfl rfl rfl rfl rfl rfl rfl rfl rfl rfl rfl)
noncomputable def T31 : Tab := tabAdd T30 18 rkeySp.ts rkeySp.F
theorem T31_far : TabFar Try.prog T31 := add_okW rkeySp T30_far (rows_ok _) at18 (by kernel_rfl) (by kernel_rfl) (rkey_ok _ rfl)
noncomputable def T32 : Tab := tabAdd T31 19 viewSp.ts viewSp.F
theorem T32_far : TabFar Try.prog T32 := add_okW viewSp T31_far (rows_ok _) at19 (by kernel_rfl) (by kernel_rfl) (view_ok _ rfl rfl)
noncomputable def T33 : Tab := tabAdd T32 14 sortedSp.ts sortedSp.F
theorem T33_far : TabFar Try.prog T33 := add_ok sortedSp T32_far (rows_ok _) at14 (by kernel_rfl) (by kernel_rfl) (sorted_ok _ rfl rfl)
noncomputable def T34 : Tab := tabAdd T33 12 mgSp.ts mgSp.F
theorem T34_far : TabFar Try.prog T34 := add_ok mgSp T33_far (rows_ok _) at12 (by kernel_rfl) (by kernel_rfl) (rmerge_ok _ rfl rfl rfl rfl)
noncomputable def T35 : Tab := tabAdd T34 11 mgSp.ts mgSp.F
theorem T35_far : TabFar Try.prog T35 := add_ok mgSp T34_far (rows_ok _) at11 (by kernel_rfl) (by kernel_rfl) (merge_ok _ rfl rfl rfl rfl rfl rfl rfl)
noncomputable def T36 : Tab := tabAdd T35 10 few10Sp.ts few10Sp.F
theorem T36_far : TabFar Try.prog T36 := add_ok few10Sp T35_far (rows_ok _) at10 (by kernel_rfl) (by kernel_rfl) (few10_ok _)
noncomputable def T37 : Tab := tabAdd T36 9 knownSp.ts knownSp.F
theorem T37_far : TabFar Try.prog T37 := add_far knownSp T36_far at9 (by kernel_rfl) (by kernel_rfl) (fun x _ => known_far)
noncomputable def TB : Tab := T37
theorem TB_far : TabFar Try.prog TB := T37_far
end Go.Proofs.Ytmpmmfbgdpfnpaa.Ev
/- Merging in two goes is merging at once. -/
namespace Go.Proofs.Ytmpmmfbgdpfnpaa.Ev
open Go Go.RowKit
set_option linter.unusedVariables false
set_option linter.unusedSimpArgs false
abbrev Srt (L : List KV) : Prop := L.Pairwise (fun x y => order x.1 y.1 < 0)
theorem ord_self (a : List Int) : order a a = 0 := by have := order_neg a a; omega
theorem ord_lt_trans {a b c : List Int} (h1 : order a b < 0) (h2 : order b c < 0) : order a c < 0 := by
  have h := order_trans (Int.le_of_lt h1) (Int.le_of_lt h2)
  refine Decidable.by_contra fun hn => ?_
  have h0 : order c a ≤ 0 := by have := order_neg a c; omega
  have := order_trans h0 (Int.le_of_lt h1)
  have := order_neg b c
  omega
theorem keepGo_sub (old : Int) (dp : List KV) : ∀ (l : List KV) (p : Option KV), (keepGo old dp p l).Sublist l
  | [], p => by rw [keepGo]; exact List.Sublist.refl _
  | x :: l, p => by
    rw [keepGo]
    have := keepGo_sub old dp l (some x)
    split
    · exact this.cons x
    · exact this.cons_cons x
def dropP (old : Int) (L : List KV) (x : KV) : Prop := ∃ y ∈ L, order y.1 x.1 < 0 ∧ (split y.1).1 = (split x.1).1 ∧ (split y.1).2.1 ≤ old
def keepP (old : Int) (dp L : List KV) (x : KV) : Prop := ¬ dropP old L x ∧ goneK old dp x = false
theorem beh_iff {old : Int} {p : Option KV} {pre l : List KV} {x : KV} (hs : Srt (pre ++ x :: l)) (hp : match p with | none => pre = [] | some w => ∃ q, pre = q ++ [w]) : behK old p x = true ↔ dropP old (pre ++ x :: l) x := by
  have hs' := List.pairwise_append.1 hs
  have h2 := List.pairwise_cons.1 hs'.2.1
  constructor
  · intro h
    cases p with
    | none => cases h
    | some w =>
      obtain ⟨q, hq⟩ := hp
      have h : (split w.1).1 = (split x.1).1 ∧ (split w.1).2.1 ≤ old := of_decide_eq_true h
      have hw : w ∈ pre := by rw [hq]; simp
      exact ⟨w, List.mem_append_left _ hw, hs'.2.2 w hw x List.mem_cons_self, h⟩
  · rintro ⟨y, hy, ho, hu, hm⟩
    have hy : y ∈ pre := by
      rcases List.mem_append.1 hy with h | h
      · exact h
      · exfalso
        rcases List.mem_cons.1 h with h | h
        · rw [h, ord_self] at ho; omega
        · have := h2.1 y h
          have := order_neg x.1 y.1
          omega
    cases p with
    | none => rw [hp] at hy; cases hy
    | some w =>
      obtain ⟨q, hq⟩ := hp
      have hw : w ∈ pre := by rw [hq]; simp
      have hwx := order_users (hs'.2.2 w hw x List.mem_cons_self)
      refine decide_eq_true ?_
      rw [hq] at hy
      rcases List.mem_append.1 hy with h | h
      · have hyw : order y.1 w.1 < 0 := by
          have := hs'.1
          rw [hq] at this
          exact (List.pairwise_append.1 this).2.2 y h w (by simp)
        have hyw := order_users hyw
        have hc : cmpB (split y.1).1 (split x.1).1 = 0 := by rw [hu]; exact cmpB_refl _
        rcases hyw with h1 | ⟨h1, h1'⟩
        · exfalso
          rcases hwx with h3 | ⟨h3, _⟩
          · have := cmpB_trans (Int.le_of_lt h1) (Int.le_of_lt h3)
            have := this.2 hc
            omega
          · rw [h3, hc] at h1; omega
        · exact ⟨by rw [← h1]; exact hu, by omega⟩
      · have : y = w := by simpa using h
        subst this
        exact ⟨hu, hm⟩
theorem mem_keep {old : Int} {dp : List KV} {z : KV} : ∀ {l pre : List KV} {p : Option KV}, Srt (pre ++ l) → (match p with | none => pre = [] | some w => ∃ q, pre = q ++ [w]) → (z ∈ keepGo old dp p l ↔ z ∈ l ∧ keepP old dp (pre ++ l) z)
  | [], pre, p, _, _ => by rw [keepGo]; simp
  | x :: l, pre, p, hs, hp => by
    have e : (pre ++ [x]) ++ l = pre ++ x :: l := by simp
    have ih := mem_keep (old := old) (dp := dp) (z := z) (l := l) (pre := pre ++ [x]) (p := some x) (by rw [e]; exact hs) ⟨pre, rfl⟩
    rw [e] at ih
    have hb := beh_iff (old := old) hs hp
    rw [keepGo]
    by_cases hk : keepP old dp (pre ++ x :: l) x
    · have : ¬ ((behK old p x || goneK old dp x) = true) := by
        rw [hk.2, Bool.or_false, hb]
        exact hk.1
      rw [if_neg this, List.mem_cons, List.mem_cons, ih]
      constructor
      · rintro (h | h)
        · rw [h]; exact ⟨.inl rfl, hk⟩
        · exact ⟨.inr h.1, h.2⟩
      · rintro ⟨h | h, h2⟩
        · exact .inl h
        · exact .inr ⟨h, h2⟩
    · have : (behK old p x || goneK old dp x) = true := by
        refine Decidable.by_contra fun hn => hk ?_
        simp only [Bool.or_eq_true, not_or, Bool.not_eq_true] at hn
        refine ⟨fun h => ?_, hn.2⟩
        rw [hb.2 h] at hn
        cases hn.1
      rw [if_pos this, List.mem_cons, ih]
      constructor
      · rintro ⟨h1, h2⟩; exact ⟨.inr h1, h2⟩
      · rintro ⟨h | h, h2⟩
        · rw [h] at h2; exact absurd h2 hk
        · exact ⟨h, h2⟩
theorem mem_keep0 {old : Int} {dp L : List KV} {z : KV} (hs : Srt L) : z ∈ keepGo old dp none L ↔ z ∈ L ∧ keepP old dp L z := mem_keep (pre := []) hs rfl
theorem first_of {Q : KV → Prop} : ∀ {L : List KV}, Srt L → (∃ y ∈ L, Q y) → ∃ y ∈ L, Q y ∧ ∀ z ∈ L, order z.1 y.1 < 0 → ¬ Q z
  | [], _, ⟨y, h, _⟩ => by cases h
  | x :: l, hs, ⟨y, hy, hq⟩ => by
    have h2 := List.pairwise_cons.1 hs
    by_cases hx : Q x
    · refine ⟨x, List.mem_cons_self, hx, fun z hz ho => ?_⟩
      exfalso
      rcases List.mem_cons.1 hz with h | h
      · rw [h, ord_self] at ho; omega
      · have := h2.1 z h
        have := order_neg x.1 z.1
        omega
    · have hy : y ∈ l := by
        rcases List.mem_cons.1 hy with h | h
        · rw [h] at hq; exact absurd hq hx
        · exact h
      obtain ⟨w, w1, w2, w3⟩ := first_of h2.2 ⟨y, hy, hq⟩
      refine ⟨w, List.mem_cons_of_mem _ w1, w2, fun z hz ho => ?_⟩
      rcases List.mem_cons.1 hz with h | h
      · rw [h]; exact hx
      · exact w3 z h ho
theorem srt_nodup {L : List KV} (h : Srt L) : L.Nodup := h.imp fun {a b} h e => by subst e; rw [ord_self] at h; omega
theorem srt_ext {s t : List KV} (hs : Srt s) (ht : Srt t) (h : ∀ x, x ∈ s ↔ x ∈ t) : s = t :=
  sorted_uniq ((List.perm_ext_iff_of_nodup (srt_nodup hs) (srt_nodup ht)).2 h) (hs.imp fun h => Int.le_of_lt h) ht
theorem stages {old : Int} {dp below A A1 A2 P2 : List KV} (hA : Srt A) (hA1 : Srt A1) (hA2 : Srt A2) (mA : ∀ x, x ∈ A ↔ x ∈ A1 ∨ x ∈ P2) (m2 : ∀ x, x ∈ A2 ↔ x ∈ keepGo old below none A1 ∨ x ∈ P2) (hb : ∀ u, inB below u = true ↔ (inB dp u = true ∨ ∃ x ∈ P2, (split x.1).1 = u)) : keepGo old dp none A2 = keepGo old dp none A := by
  have sub2 : ∀ x, x ∈ A2 → x ∈ A := fun x hx => by
    rcases (m2 x).1 hx with h | h
    · exact (mA x).2 (.inl ((keepGo_sub ..).subset h))
    · exact (mA x).2 (.inr h)
  have gone_of : ∀ x, goneK old below x = true → goneK old dp x = true ∧ ∀ y ∈ P2, (split y.1).1 ≠ (split x.1).1 := fun x h => by
    unfold goneK at h ⊢
    simp only [Bool.and_eq_true, decide_eq_true_eq, Bool.not_eq_true'] at h ⊢
    have hn : ¬ (inB below (split x.1).1 = true) := by rw [h.2.2]; decide
    rw [hb, not_or] at hn
    exact ⟨⟨h.1, h.2.1, by simpa using hn.1⟩, fun y hy e => hn.2 ⟨y, hy, e⟩⟩
  refine srt_ext (hA2.sublist (keepGo_sub ..)) (hA.sublist (keepGo_sub ..)) fun x => ?_
  rw [mem_keep0 hA2, mem_keep0 hA]
  constructor
  · rintro ⟨h1, h2, h3⟩
    refine ⟨sub2 x h1, fun hd => ?_, h3⟩
    have hd' : ∃ y ∈ A, (order y.1 x.1 < 0 ∧ (split y.1).1 = (split x.1).1 ∧ (split y.1).2.1 ≤ old) := hd
    obtain ⟨y, y1, ⟨y2, y3, y4⟩, y5⟩ := first_of hA hd'
    have hy2 : y ∉ A2 := fun h => h2 ⟨y, h, y2, y3, y4⟩
    have hy2 : ¬ (y ∈ keepGo old below none A1 ∨ y ∈ P2) := fun h => hy2 ((m2 y).2 h)
    rw [not_or] at hy2
    have hyA1 : y ∈ A1 := ((mA y).1 y1).resolve_right hy2.2
    have hyk := hy2.1
    rw [mem_keep0 hA1] at hyk
    have hnd : ¬ dropP old A1 y := fun ⟨z, z1, z2, z3, z4⟩ => y5 z ((mA z).2 (.inl z1)) z2 ⟨ord_lt_trans z2 y2, z3.trans y3, z4⟩
    have hg : goneK old below y = true := by
      refine Decidable.by_contra fun hn => hyk ⟨hyA1, hnd, by simpa using hn⟩
    obtain ⟨_, hno⟩ := gone_of y hg
    have hx2 : x ∉ P2 := fun h => hno x h y3.symm
    have hxk := ((m2 x).1 h1).resolve_right hx2
    rw [mem_keep0 hA1] at hxk
    exact hxk.2.1 ⟨y, hyA1, y2, y3, y4⟩
  · rintro ⟨h1, h2, h3⟩
    refine ⟨(m2 x).2 ?_, fun ⟨y, y1, y2⟩ => h2 ⟨y, sub2 y y1, y2⟩, h3⟩
    rcases (mA x).1 h1 with h | h
    · refine .inl ((mem_keep0 hA1).2 ⟨h, fun ⟨y, y1, y2⟩ => h2 ⟨y, (mA y).2 (.inl y1), y2⟩, ?_⟩)
      cases hg : goneK old below x with
      | false => rfl
      | true => rw [(gone_of x hg).1] at h3; cases h3
    · exact .inr h
theorem sortd_ok {X : List (List KV)} (h : (sortedS X).2 = true) : allRise X = true ∧ Srt (sortedS X).1 ∧ (sortedS X).1.Perm X.flatten ∧ ∀ x ∈ X.flatten, (split x.1).2.2.2 = 0 := by
  by_cases h1 : allRise X = true
  · by_cases h2 : Rises (sortK X.flatten)
    · have e : sortedS X = (sortK X.flatten, true) := by unfold sortedS mergeS; rw [if_pos h1, if_pos h2]
      rw [e]
      have h3 := (rises_iff _).1 h2
      exact ⟨h1, h3.2, sortK_perm _, fun x hx => h3.1 x ((sortK_perm _).mem_iff.2 hx)⟩
    · have e : sortedS X = ([], false) := by unfold sortedS mergeS; rw [if_pos h1, if_neg h2]
      rw [e] at h; cases h
  · have e : sortedS X = ([], false) := if_neg h1
    rw [e] at h; cases h
theorem sorted_of {X : List (List KV)} (hr : allRise X = true) (ho : ∀ x ∈ X.flatten, (split x.1).2.2.2 = 0) (hd : X.flatten.Pairwise (fun a b => order a.1 b.1 ≠ 0)) : (sortedS X).2 = true := by
  have h2 : Rises (sortK X.flatten) := by
    rw [rises_iff]
    refine ⟨fun x hx => ho x ((sortK_perm _).mem_iff.1 hx), ?_⟩
    have h3 : (sortK X.flatten).Pairwise (fun a b => order a.1 b.1 ≠ 0) := ((sortK_perm _).pairwise_iff (fun {a b} h => by have := order_neg a.1 b.1; omega)).2 hd
    exact ((sortK_sorted X.flatten).and h3).imp fun h => by omega
  unfold sortedS mergeS
  rw [if_pos hr, if_pos h2]
theorem srt_ne {L : List KV} (h : Srt L) : L.Pairwise (fun a b => order a.1 b.1 ≠ 0) := h.imp fun h => by omega
theorem perm_ne {L M : List KV} (h : L.Perm M) (hd : M.Pairwise (fun a b => order a.1 b.1 ≠ 0)) : L.Pairwise (fun a b => order a.1 b.1 ≠ 0) := (h.pairwise_iff (fun {a b} h => by have := order_neg a.1 b.1; omega)).2 hd
theorem mgS_ok {X : List (List KV)} (old : Int) (dp : List KV) (h : (sortedS X).2 = true) : mgS X old dp = (keepGo old dp none (sortedS X).1, 0) := if_pos h
/-- lists merged in two goes -/
theorem stage2 {l : List (List KV)} {old : Int} {dp below : List KV} {c : Nat} (h : (sortedS l).2 = true) (hb : ∀ u, inB below u = true ↔ (inB dp u = true ∨ ∃ x ∈ (l.drop c).flatten, (split x.1).1 = u)) :
    (mgS (l.take c) old below).2 = 0 ∧ (mgS ((mgS (l.take c) old below).1 :: l.drop c) old dp).2 = 0 ∧ (mgS ((mgS (l.take c) old below).1 :: l.drop c) old dp).1 = (mgS l old dp).1 := by
  obtain ⟨s1, s2, s3, s4⟩ := sortd_ok h
  have ef : (l.take c).flatten ++ (l.drop c).flatten = l.flatten := by rw [← List.flatten_append, List.take_append_drop]
  have hne : ((l.take c).flatten ++ (l.drop c).flatten).Pairwise (fun a b => order a.1 b.1 ≠ 0) := by
    rw [ef]; exact perm_ne s3.symm (srt_ne s2)
  have hall : ∀ x ∈ l, Rises x := fun x hx => allRise_mem s1 hx
  have a1 : (sortedS (l.take c)).2 = true := sorted_of (List.all_eq_true.2 fun x hx => decide_eq_true (hall x (List.mem_of_mem_take hx))) (fun x hx => s4 x (by rw [← ef]; exact List.mem_append_left _ hx)) (List.pairwise_append.1 hne).1
  obtain ⟨t1, t2, t3, t4⟩ := sortd_ok a1
  rw [mgS_ok old below a1]
  show (0 : Int) = 0 ∧ (mgS (keepGo old below none (sortedS (l.take c)).1 :: l.drop c) old dp).2 = 0 ∧ (mgS (keepGo old below none (sortedS (l.take c)).1 :: l.drop c) old dp).1 = (mgS l old dp).1
  have hsub := keepGo_sub old below (sortedS (l.take c)).1 none
  have a2 : (sortedS (keepGo old below none (sortedS (l.take c)).1 :: l.drop c)).2 = true := by
    refine sorted_of (List.all_eq_true.2 fun x hx => decide_eq_true ?_) (fun x hx => ?_) ?_
    · rcases List.mem_cons.1 hx with hx | hx
      · rw [hx, rises_iff]
        exact ⟨fun y hy => t4 y (t3.mem_iff.1 (hsub.subset hy)), t2.sublist hsub⟩
      · exact hall x (List.mem_of_mem_drop hx)
    · rw [List.flatten_cons] at hx
      rcases List.mem_append.1 hx with hx | hx
      · exact t4 x (t3.mem_iff.1 (hsub.subset hx))
      · exact s4 x (by rw [← ef]; exact List.mem_append_right _ hx)
    · rw [List.flatten_cons]
      have : ((sortedS (l.take c)).1 ++ (l.drop c).flatten).Pairwise (fun a b => order a.1 b.1 ≠ 0) := perm_ne (t3.append_right _) hne
      exact this.sublist (hsub.append_right _)
  obtain ⟨u1, u2, u3, u4⟩ := sortd_ok a2
  rw [mgS_ok old dp a2, mgS_ok old dp h]
  refine ⟨rfl, rfl, ?_⟩
  refine stages (A1 := (sortedS (l.take c)).1) (P2 := (l.drop c).flatten) s2 t2 u2 (fun x => ?_) (fun x => ?_) hb
  · rw [s3.mem_iff, ← ef, List.mem_append, t3.mem_iff]
  · rw [u3.mem_iff, List.flatten_cons, List.mem_append]
/-- the spans of single users -/
def spansU (P : List KV) : List KV := P.map fun x => (x.1.take (x.1.length - 8), x.1.take (x.1.length - 8), ())
theorem split_good {a : List Int} (h : (split a).2.2.2 = 0) : (8 ≤ a.length ∧ a.length ≤ 136) ∧ (split a).1 = a.take (a.length - 8) := by
  unfold split at h ⊢
  split at h
  · cases h
  · split at h
    · cases h
    · rename_i h1 h2
      rw [if_neg h1, if_neg h2]
      exact ⟨⟨by omega, by omega⟩, rfl⟩
theorem inB_spans {dp P : List KV} (ho : ∀ x ∈ P, (split x.1).2.2.2 = 0) (u : List Int) : inB (dp ++ spansU P) u = true ↔ (inB dp u = true ∨ ∃ x ∈ P, (split x.1).1 = u) := by
  unfold inB spansU
  rw [List.any_append, Bool.or_eq_true, List.any_map]
  refine or_congr Iff.rfl ?_
  rw [List.any_eq_true]
  refine exists_congr fun x => and_congr_right fun hx => ?_
  have h := split_good (ho x hx)
  simp only [Function.comp, Bool.and_eq_true, decide_eq_true_eq]
  rw [← h.2]
  constructor
  · rintro ⟨h1, h2⟩
    have := cmpB_neg (split x.1).1 u
    exact cmpB_zero (by omega)
  · intro e
    rw [e]
    exact ⟨Int.le_of_eq (cmpB_refl _), Int.le_of_eq (cmpB_refl _)⟩
theorem spansU_len (P : List KV) : (spansU P).length = P.length := List.length_map ..
theorem spansU_app (P Q : List KV) : spansU (P ++ Q) = spansU P ++ spansU Q := List.map_append ..
theorem spansU_cons (x : KV) (Q : List KV) : spansU (x :: Q) = [(x.1.take (x.1.length - 8), x.1.take (x.1.length - 8), ())] ++ spansU Q := rfl
end Go.Proofs.Ytmpmmfbgdpfnpaa.Ev
