/- A region whose order is left open: every order that its edges allow comes to what the walker tells. -/
import Derived.Test.YtdhbelpejaobdaaEvS
namespace Go.Proofs.Ytdhbelpejaobdaa.Ev
open Go Go.RowKit
set_option linter.unusedVariables false
set_option linter.unusedSimpArgs false

section
variable {P : Program} {C : Ctx} {tab : Tab} {all : Array Oper} {idOf : Nat → Nat} {tOf : Nat → Touch}

inductive RunF [tI : Tst] (P : Program) (C : Ctx) (tab : Tab) (all : Array Oper) (idOf : Nat → Nat) (tOf : Nat → Touch) : List Nat → List V → List Ent → List V → List Ent → Prop
  | nil (sl : List V) (S : List Ent) : RunF P C tab all idOf tOf [] sl S sl S
  | cons (i : Nat) (is : List Nat) (sl sl1 sl' : List V) (S S1 S' : List Ent) (h : Step P C tab all i (idOf i) sl S (tOf i) sl1 S1) (r : RunF P C tab all idOf tOf is sl1 S1 sl' S') : RunF P C tab all idOf tOf (i :: is) sl S sl' S'

theorem Run.toF [tI : Tst] : ∀ {n i : Nat} {sl sl' : List V} {S S' : List Ent} {ts : List Touch}, Run P C tab all idOf (List.range' i n) sl S ts sl' S' → (∀ k, k < n → tOf (i + k) = ts.getD k .all) → RunF P C tab all idOf tOf (List.range' i n) sl S sl' S'
  | 0, _, _, _, _, _, _, .nil _ _, _ => .nil _ _
  | n + 1, i, _, _, _, _, _, .cons _ _ _ _ _ _ _ _ _ _ h r, ht => by
    rw [List.range'_succ]
    refine .cons i _ _ _ _ _ _ _ ?_ (Run.toF r fun k hk => ?_)
    · have := ht 0 (by omega)
      simp only [Nat.add_zero, List.getD_cons_zero] at this
      rw [this]; exact h
    · have := ht (k + 1) (by omega)
      rw [show i + 1 + k = i + (k + 1) from by omega, this]; simp

/-- nothing of one is looked at by the other -/
def Indep (C : Ctx) (all : Array Oper) (idOf : Nat → Nat) (tOf : Nat → Touch) (j i : Nat) : Prop :=
  ∀ oj oi, all[j]? = some oj → all[i]? = some oi → apartAt all oj oi = true ∧ (tOf j).apart (tOf i) = true ∧ (tOf j).off (idOf i) (idOf i + need C oi) = true ∧ (tOf i).off (idOf j) (idOf j + need C oj) = true

theorem RunF.front [tI : Tst] (hap : Apart C all idOf) {i : Nat} : ∀ {c1 c2 : List Nat} {sl sl' : List V} {S S' : List Ent}, RunF P C tab all idOf tOf (c1 ++ i :: c2) sl S sl' S' → (∀ j ∈ c1, j ≠ i ∧ Indep C all idOf tOf j i) → RunF P C tab all idOf tOf (i :: (c1 ++ c2)) sl S sl' S'
  | [], _, _, _, _, _, h, _ => h
  | j :: c1, c2, _, _, _, _, .cons _ _ _ _ _ _ _ _ hj r, hI => by
    have r' := RunF.front hap r fun k hk => hI k (List.mem_cons_of_mem _ hk)
    obtain ⟨hne, hind⟩ := hI j (List.mem_cons_self ..)
    cases r' with
    | cons _ _ _ _ _ _ _ _ hi r2 =>
      obtain ⟨oi, hoi⟩ := hi.idx
      obtain ⟨oj, hoj⟩ := hj.idx
      obtain ⟨k1, k2, k3, k4⟩ := hind oj oi hoj hoi
      obtain ⟨sl3, S3, s1, s2⟩ := Step.swap hoi hoj k1 k2 (hap i j oi oj (Ne.symm hne) hoi hoj) k3 k4 hj hi
      exact .cons _ _ _ _ _ _ _ _ s1 (.cons _ _ _ _ _ _ _ _ s2 r2)

/-! #### what is ahead of what -/
theorem mem_foldl_anc (acc : List (List Nat)) : ∀ (es : List Edge) (s : List Nat) (x : Nat), x ∈ es.foldl (fun s e => if Region.binds .any e then e.on :: (acc.getD e.on [] ++ s) else s) s → x ∈ s ∨ ∃ e ∈ es, Region.binds .any e = true ∧ (x = e.on ∨ x ∈ acc.getD e.on [])
  | [], s, x, h => .inl h
  | e :: es, s, x, h => by
    rw [List.foldl_cons] at h
    rcases mem_foldl_anc acc es _ x h with h | ⟨e', h1, h2⟩
    · split at h
      · rename_i hb
        rcases List.mem_cons.1 h with rfl | h
        · exact .inr ⟨e, List.mem_cons_self .., hb, .inl rfl⟩
        · rcases List.mem_append.1 h with h | h
          · exact .inr ⟨e, List.mem_cons_self .., hb, .inr h⟩
          · exact .inl h
      · exact .inl h
    · exact .inr ⟨e', List.mem_cons_of_mem _ h1, h2⟩
theorem ancs_spec [tI : Tst] : ∀ (os : List Oper) (acc : List (List Nat)), (∀ i, i < acc.length → (ancs os acc).getD i [] = acc.getD i []) ∧
    ∀ k o, os[k]? = some o → ∀ x, x ∈ (ancs os acc).getD (acc.length + k) [] → ∃ e ∈ o.after.toList, Region.binds .any e = true ∧ (x = e.on ∨ (e.on < acc.length + k → x ∈ (ancs os acc).getD e.on []))
  | [], acc => ⟨fun _ _ => rfl, by simp⟩
  | o :: os, acc => by
    obtain ⟨h1, h2⟩ := ancs_spec os (acc ++ [o.after.toList.foldl (fun s e => if Region.binds .any e then e.on :: (acc.getD e.on [] ++ s) else s) []])
    simp only [List.length_append, List.length_singleton] at h1 h2
    have hold : ∀ i, i < acc.length → (ancs (o :: os) acc).getD i [] = acc.getD i [] := by
      intro i hi
      rw [ancs, h1 i (by omega), List.getD_eq_getElem?_getD, List.getElem?_append_left hi, ← List.getD_eq_getElem?_getD]
    refine ⟨hold, ?_⟩
    intro k o' ho x hx
    cases k with
    | zero =>
      simp only [List.getElem?_cons_zero, Option.some.injEq] at ho; subst ho
      rw [Nat.add_zero, ancs, h1 _ (by omega), List.getD_eq_getElem?_getD, List.getElem?_append_right (Nat.le_refl _), Nat.sub_self] at hx
      simp only [List.getElem?_cons_zero, Option.getD_some] at hx
      rcases mem_foldl_anc acc _ _ x hx with h | ⟨e, he, hb, h⟩
      · simp at h
      · refine ⟨e, he, hb, ?_⟩
        rcases h with h | h
        · exact .inl h
        · by_cases hlt : e.on < acc.length
          · right; intro _; rw [hold _ hlt]; exact h
          · rw [List.getD_eq_getElem?_getD, List.getElem?_eq_none (by omega)] at h; simp at h
    | succ k =>
      rw [ancs, show acc.length + (k + 1) = acc.length + 1 + k from by omega] at hx
      obtain ⟨e, he, hb, h⟩ := h2 k o' (by simpa using ho) x hx
      refine ⟨e, he, hb, ?_⟩
      rcases h with h | h
      · exact .inl h
      · right; intro hlt; rw [ancs]; exact h (by omega)

theorem Act.tmps_ready {md : Region.Mode} {listed : Array Bool} {i : Nat} (h : i ∈ Region.ready md all listed) : i < all.size ∧ listed.getD i true = false ∧ ∃ o, all[i]? = some o ∧ ∀ e ∈ o.after.toList, Region.binds md e = true → listed.getD e.on false = true := by
  simp only [Region.ready, List.mem_filter, List.mem_range, Bool.and_eq_true, Bool.not_eq_true'] at h
  obtain ⟨h1, h2, h3⟩ := h
  refine ⟨h1, h2, ?_⟩
  cases ho : all[i]? with
  | none => rw [ho] at h3; simp at h3
  | some o =>
    refine ⟨o, rfl, fun e he hb => ?_⟩
    rw [ho] at h3
    simp only [Option.map_some, Option.getD_some, Array.all_eq_true_iff_forall_mem] at h3
    have := h3 e (by simpa using he)
    simpa [hb] using this

def Closed (all : Array Oper) (listed : Array Bool) : Prop := ∀ x o, all[x]? = some o → listed.getD x false = true → ∀ e ∈ o.after.toList, Region.binds .any e = true → listed.getD e.on false = true
def Backward (all : Array Oper) : Prop := ∀ x o, all[x]? = some o → ∀ e ∈ o.after.toList, Region.binds .any e = true → e.on < x

theorem anc_listed [tI : Tst] (hb : Backward all) {listed : Array Bool} (hcl : Closed all listed) : ∀ (i : Nat) (o : Oper), all[i]? = some o → (∀ e ∈ o.after.toList, Region.binds .any e = true → listed.getD e.on false = true) → ∀ x ∈ (ancs all.toList []).getD i [], listed.getD x false = true := by
  intro i
  induction i using Nat.strongRecOn with
  | _ i ih =>
    intro o ho hpre x hx
    obtain ⟨e, he, hbd, h⟩ := (ancs_spec all.toList []).2 i o (by simpa using ho) x (by simpa using hx)
    have hlt := hb i o ho e he hbd
    have hl := hpre e he hbd
    rcases h with rfl | h
    · exact hl
    · have hlt' : e.on < all.size := by
        have := (Array.getElem?_eq_some_iff.1 ho).1
        omega
      have hoe : all[e.on]? = some all[e.on] := by simp [hlt']
      exact ih e.on hlt _ hoe (hcl e.on _ hoe hl) x (h (by simpa using hlt))

/-- what is unlisted, in order -/
def rest (all : Array Oper) (listed : Array Bool) : List Nat := (List.range all.size).filter fun i => !listed.getD i true
theorem mem_rest {listed : Array Bool} {i : Nat} : i ∈ rest all listed ↔ i < all.size ∧ listed.getD i true = false := by simp [rest]
theorem rest_sorted (listed : Array Bool) : (rest all listed).Pairwise (· < ·) := by
  unfold rest
  exact List.Pairwise.filter _ List.pairwise_lt_range
theorem rest_nodup [tI : Tst] (listed : Array Bool) : (rest all listed).Nodup := (rest_sorted listed).imp fun h => Nat.ne_of_lt h

theorem rest_split [tI : Tst] {listed : Array Bool} {i : Nat} (hs : listed.size = all.size) (hi : i ∈ rest all listed) : ∃ c1 c2, rest all listed = c1 ++ i :: c2 ∧ rest all (listed.setIfInBounds i true) = c1 ++ c2 ∧ ∀ j ∈ c1, j < i := by
  obtain ⟨c1, c2, h⟩ := List.append_of_mem hi
  have hsort := rest_sorted (all := all) listed
  rw [h, List.pairwise_append] at hsort
  obtain ⟨s1, s2, s3⟩ := hsort
  refine ⟨c1, c2, h, ?_, fun j hj => s3 j hj i (List.mem_cons_self ..)⟩
  have hlt := (mem_rest.1 hi).1
  have : rest all (listed.setIfInBounds i true) = (rest all listed).filter fun j => decide (j ≠ i) := by
    unfold rest
    rw [List.filter_filter]
    apply List.filter_congr
    intro j hj
    have hj := List.mem_range.1 hj
    by_cases e : j = i
    · subst e; simp [Array.getD, hs, hj]
    · have : (listed.setIfInBounds i true).getD j true = listed.getD j true := by
        simp only [Array.getD_eq_getD_getElem?, Array.getElem?_setIfInBounds_ne (Ne.symm e)]
      rw [this]; simp [e]
  rw [this, h, List.filter_append, List.filter_cons]
  have n1 : ∀ j ∈ c1, j ≠ i := fun j hj => Nat.ne_of_lt (s3 j hj i (List.mem_cons_self ..))
  have n2 : ∀ j ∈ c2, j ≠ i := by
    intro j hj
    rw [List.pairwise_cons] at s2
    exact Nat.ne_of_gt (s2.1 j hj)
  rw [List.filter_eq_self.2 (by simpa using n1), List.filter_eq_self.2 (by simpa using n2)]
  simp

theorem RunF.any [tI : Tst] (hC : RowsOK P C) (hT : TabOK P tab) (hap : Apart C all idOf) {N : Nat} (hN : ∀ i, N ≤ idOf i) (hb : Backward all) (hind : ∀ j i, j < i → i < all.size → j ∈ (ancs all.toList []).getD i [] ∨ Indep C all idOf tOf j i)
    {Q : Exit → Act → World → Prop} {w0 : World} {base : Nat} : ∀ (fuel : Nat) (listed : Array Bool) {sl sl' : List V} {S S' : List Ent}, listed.size = all.size → (rest all listed).length ≤ fuel → Closed all listed → RunF P C tab all idOf tOf (rest all listed) sl S sl' S' →
    ∀ {E : Env} {w : World} {a : Act}, Sim base w0 E S w → SimA E sl a → Fresh C all idOf (rest all listed) E S → (∀ E' a' w', E.Le E' → (∀ x, E'.live x → E.live x ∨ N ≤ x) → Sim base w0 E' S' w' → SimA E' sl' a' → Q .normal a' w') → wpAny P .any all Q fuel listed a w := by
  have noReady : ∀ {listed : Array Bool}, listed.size = all.size → Region.ready .any all listed = [] → rest all listed = [] := by
    intro listed hs hr
    cases hrest : rest all listed with
    | nil => rfl
    | cons i l =>
      exfalso
      have hi : i ∈ rest all listed := by rw [hrest]; exact List.mem_cons_self ..
      obtain ⟨hlt, hli⟩ := mem_rest.1 hi
      have hsort := rest_sorted (all := all) listed
      rw [hrest, List.pairwise_cons] at hsort
      have : i ∈ Region.ready .any all listed := by
        simp only [Region.ready, List.mem_filter, List.mem_range, Bool.and_eq_true, Bool.not_eq_true']
        refine ⟨hlt, hli, ?_⟩
        have ho : all[i]? = some all[i] := by simp [hlt]
        rw [ho]
        simp only [Option.map_some, Option.getD_some, Array.all_eq_true_iff_forall_mem]
        intro e he
        by_cases hbd : Region.binds .any e = true
        · have hel := hb i _ ho e (by simpa using he) hbd
          have : listed.getD e.on false = true := by
            have hin : e.on < listed.size := by omega
            cases hc : listed.getD e.on true with
            | true => simp [Array.getD, hin] at hc ⊢; exact hc
            | false =>
              have := mem_rest.2 ⟨(by omega : e.on < all.size), hc⟩
              rw [hrest] at this
              rcases List.mem_cons.1 this with h | h
              · omega
              · have := hsort.1 _ h; omega
          simp [this]
        · simp [hbd]
      rw [hr] at this
      simp at this
  intro fuel
  induction fuel with
  | zero =>
    intro listed sl sl' S S' hs hl hcl hrun E w a sim ha hf hQ
    have hnil : rest all listed = [] := List.eq_nil_of_length_eq_zero (by omega)
    rw [hnil] at hrun
    cases hrun with
    | nil =>
      refine ⟨?_, hQ E a w (Env.Le.refl E) (fun _ l => .inl l) sim ha⟩
      cases hr : Region.ready .any all listed with
      | nil => rfl
      | cons i l =>
        have hi : i ∈ Region.ready .any all listed := by rw [hr]; exact List.mem_cons_self ..
        obtain ⟨h1, h2, -⟩ := Act.tmps_ready hi
        have := mem_rest.2 ⟨h1, h2⟩
        rw [hnil] at this
        simp at this
  | succ fuel ih =>
    intro listed sl sl' S S' hs hl hcl hrun E w a sim ha hf hQ
    refine ⟨fun hr => ?_, fun i hi => ?_⟩
    · rw [noReady hs hr] at hrun
      cases hrun with
      | nil => exact hQ E a w (Env.Le.refl E) (fun _ l => .inl l) sim ha
    · obtain ⟨h1, h2, o, ho, hpre⟩ := Act.tmps_ready hi
      have hir := mem_rest.2 ⟨h1, h2⟩
      obtain ⟨c1, c2, e1, e2, e3⟩ := rest_split hs hir
      have hnd := rest_nodup (all := all) listed
      rw [e1] at hrun hf hnd
      have hfront := RunF.front hap hrun (fun j hj => by
        refine ⟨Nat.ne_of_lt (e3 j hj), ?_⟩
        rcases hind j i (e3 j hj) h1 with h | h
        · exfalso
          have hjl := anc_listed hb hcl i o ho hpre j h
          have hjr : j ∈ rest all listed := by rw [e1]; exact List.mem_append_left _ hj
          obtain ⟨k1, k2⟩ := mem_rest.1 hjr
          have hin : j < listed.size := by omega
          simp [Array.getD, hin] at hjl k2
          rw [hjl] at k2
          simp at k2
        · exact h)
      cases hfront with
      | cons _ _ _ sl1 _ _ S1 _ hst r =>
        have hni : i ∉ c1 ++ c2 := by
          rw [List.nodup_append] at hnd
          obtain ⟨n1, n2, n3⟩ := hnd
          rw [List.nodup_cons] at n2
          intro hm
          rcases List.mem_append.1 hm with hm | hm
          · exact n3 i hm i (List.mem_cons_self ..) rfl
          · exact n2.1 hm
        have hf' : Fresh C all idOf (i :: (c1 ++ c2)) E S := by
          intro j hj
          refine hf j ?_
          rcases List.mem_cons.1 hj with rfl | hj
          · simp
          · rcases List.mem_append.1 hj with hj | hj <;> simp [hj]
        refine hst.wp hC hT sim ha (hf' i (List.mem_cons_self ..)) ?_
        intro E' a' w' k1 k2 k3 k4
        refine ih (listed.setIfInBounds i true) (by simpa using hs) (by rw [e2]; rw [e1] at hl; simp at hl ⊢; omega) ?_ (by rw [e2]; exact r) k2 k3 (by rw [e2]; exact hf'.step hap hni (hst.len hT) hst.idx k4) (fun E2 a2 w2 l1 l0 l2 l3 => hQ E2 a2 w2 (k1.trans l1) (fun x l => (l0 x l).elim (fun l => (k4 o ho x l).imp_right fun h => Nat.le_trans (hN i) h.1) .inr) l2 l3)
        intro x ox hox hlx e he hbd
        have mono : ∀ y, listed.getD y false = true → (listed.setIfInBounds i true).getD y false = true := by
          intro y hy
          by_cases hyi : y = i
          · subst hyi; simp [Array.getD, hs, h1]
          · simp only [Array.getD_eq_getD_getElem?, Array.getElem?_setIfInBounds_ne (Ne.symm hyi)] at hy ⊢; exact hy
        by_cases hxi : x = i
        · subst hxi
          rw [ho] at hox
          simp only [Option.some.injEq] at hox; subst hox
          exact mono _ (hpre e he hbd)
        · simp only [Array.getD_eq_getD_getElem?, Array.getElem?_setIfInBounds_ne (Ne.symm hxi)] at hlx
          exact mono _ (hcl x ox hox (by rw [Array.getD_eq_getD_getElem?]; exact hlx) e he hbd)
end
end Go.Proofs.Ytdhbelpejaobdaa.Ev
