/- The walker's way through code is the machine's: regions, blocks, loops. -/
import Derived.Test.YtdhbelpejaobdaaEvT
import Derived.LoopN
namespace Go.Proofs.Ytdhbelpejaobdaa.Ev
open Go Go.RowKit
set_option linter.unusedVariables false
set_option linter.unusedSimpArgs false

/-! ### what a round leaves behind -/
def Env.cut (E : Env) (n : Nat) : Env := { E with live := fun o => E.live o ∧ o < n }
theorem Env.le_cut {E0 E : Env} {n : Nat} (h : E0.Le E) (hn : ∀ o, E0.live o → o < n) : E0.Le (E.cut n) :=
  ⟨h.m, fun o l => ⟨h.live o l, hn o l⟩, h.blk, h.sz, h.len, h.plc, h.m0⟩
theorem scrubs_rep {E : Env} {n : Nat} : ∀ {vs : List V} {us : List Value}, RepVs E vs us → RepVs (E.cut n) (scrub.scrubs n vs) us
  | [], [], _ => by simp [scrub.scrubs, RepVs]
  | c :: cs, u :: us, h => by
    simp only [RepVs] at h
    have h2 := scrubs_rep (n := n) h.2
    have h1 := h.1
    cases c with
    | own o t xs =>
      simp only [scrub.scrubs, RepVs]
      refine ⟨?_, h2⟩
      split
      · simp only [RepV, Env.cut] at h1 ⊢; rename_i ho; exact ⟨h1.1, ⟨h1.2.1, ho⟩, h1.2.2⟩
      · simp only [RepV, Env.cut] at h1 ⊢; exact h1.1
    | p o a =>
      simp only [scrub.scrubs, RepVs]
      refine ⟨?_, h2⟩
      split
      · simp only [RepV, Env.cut] at h1 ⊢; rename_i ho; exact ⟨⟨h1.1, ho⟩, h1.2⟩
      · simp [RepV]
    | d t x => simp only [scrub.scrubs, RepVs]; refine ⟨?_, h2⟩; simp only [RepV, Env.cut] at h1 ⊢; exact h1
    | _ => simp only [scrub.scrubs, RepVs]; exact ⟨by simp [RepV], h2⟩
  | [], _ :: _, h => by simp [RepVs] at h
  | _ :: _, [], h => by simp [RepVs] at h
theorem scrub_rep [tI : Tst] {E : Env} {n : Nat} {v : V} {u : Value} (h : RepV E v u) : RepV (E.cut n) (scrub n v) u := by
  cases v with
  | own o t xs =>
    simp only [scrub]
    split
    · simp only [RepV, Env.cut] at h ⊢; rename_i ho; exact ⟨h.1, ⟨h.2.1, ho⟩, h.2.2⟩
    · simp only [RepV, Env.cut] at h ⊢; exact h.1
  | p o a =>
    simp only [scrub]
    split
    · simp only [RepV, Env.cut] at h ⊢; rename_i ho; exact ⟨⟨h.1, ho⟩, h.2⟩
    · simp [RepV]
  | sr o a l c s =>
    simp only [scrub]
    split
    · simp only [RepV, Env.cut] at h ⊢; rename_i ho; exact ⟨⟨h.1, ho⟩, h.2⟩
    · simp [RepV]
  | pr o i s =>
    simp only [scrub]
    split
    · simp only [RepV, Env.cut] at h ⊢; rename_i ho; exact ⟨⟨h.1, ho⟩, h.2⟩
    · simp [RepV]
  | agg cs =>
    simp only [scrub, RepV] at h ⊢
    obtain ⟨us, h1, h2, h3⟩ := h
    exact ⟨us, h1, scrubs_rep h2, h3⟩
  | fn f fs cs =>
    simp only [scrub, RepV] at h ⊢
    obtain ⟨zs, us, h1, h2, h3⟩ := h
    exact ⟨zs, us, h1, scrubs_rep h2, scrubs_rep h3⟩
  | tup _ => simp [scrub, RepV]
  | ifc _ _ => simp [scrub, RepV]
  | bad => simp [scrub, RepV]
  | un => simpa [scrub, RepV] using h
  | nils => simpa [scrub, RepV] using h
  | d t x => simpa [scrub, RepV, Env.cut] using h
  | nn t x => simpa [scrub, RepV, Env.cut] using h
  | ro t x => simpa [scrub, RepV, Env.cut] using h
def pickL (n : Nat) (live : List Nat) : Nat → List V → List V
  | _, [] => []
  | i, v :: vs => (if live.contains i then scrub n v else .bad) :: pickL n live (i + 1) vs
theorem pickK_eq [tI : Tst] {R : Type} (n : Nat) (live : List Nat) : ∀ (vs : List V) (i : Nat) (k : List V → Option R), pickK n live i vs k = k (pickL n live i vs)
  | [], _, _ => rfl
  | v :: vs, i, k => by
    rw [pickK, pickL]
    split
    · rw [pickK_eq n live vs]; rw [forceV_eq]
    · rw [pickK_eq n live vs]
theorem pickL_rep [tI : Tst] {E : Env} {n : Nat} {live : List Nat} : ∀ {vs : List V} {us : List Value} (i : Nat), RepVs E vs us → RepVs (E.cut n) (pickL n live i vs) us
  | [], [], _, _ => by simp [pickL, RepVs]
  | c :: cs, u :: us, i, h => by
    simp only [RepVs] at h
    simp only [pickL, RepVs]
    refine ⟨?_, pickL_rep _ h.2⟩
    split
    · exact scrub_rep h.1
    · simp [RepV]
  | [], _ :: _, _, h => by simp [RepVs] at h
  | _ :: _, [], _, h => by simp [RepVs] at h
def scrubE (n : Nat) : Ent → Ent
  | .obj cs => .obj (cs.map (scrub n))
  | e => e
theorem scrubsK_eq [tI : Tst] {R : Type} (n : Nat) : ∀ (vs : List V) (k : List V → Option R), scrubsK n vs k = k (vs.map (scrub n))
  | [], _ => rfl
  | v :: vs, k => by rw [scrubsK, scrubsK_eq n vs, forceV_eq]; rfl
theorem truncGo_eq [tI : Tst] {R : Type} (m : Nat) : ∀ (j : Nat) (S : List Ent) (k : List Ent → Option R), truncK.go m j S k = k ((S.take j).map (scrubE m))
  | 0, _, _ => by simp [truncK.go]
  | _ + 1, [], _ => by simp [truncK.go]
  | j + 1, e :: es, k => by
    rw [truncK.go, truncGo_eq m j es]
    cases e <;> simp [scrubE, scrubsK_eq]
def truncL (n : Nat) (S : List Ent) : List Ent := (S.take n).map (scrubE n)
theorem truncK_eq [tI : Tst] {R : Type} (n : Nat) (S : List Ent) (k : List Ent → Option R) : truncK n S k = k (truncL n S) := truncGo_eq n n S k
theorem truncL_len {n : Nat} {S : List Ent} (h : n ≤ S.length) : (truncL n S).length = n := by simp [truncL]; omega
theorem ent_trunc [tI : Tst] (n : Nat) (S : List Ent) (o : Nat) : ent (truncL n S) o = if o < n then scrubE n (ent S o) else .gone := by
  simp only [ent_eq, truncL, List.getD_eq_getElem?_getD, List.getElem?_map, List.getElem?_take]
  by_cases h : o < n
  · simp only [h, if_true]
    cases S[o]? <;> rfl
  · simp [h]
theorem mapScrub_rep [tI : Tst] {E : Env} {n : Nat} : ∀ {vs : List V} {us : List Value}, RepVs E vs us → RepVs (E.cut n) (vs.map (scrub n)) us
  | [], [], _ => by simp [RepVs]
  | c :: cs, u :: us, h => by
    simp only [RepVs, List.map_cons] at h ⊢
    exact ⟨scrub_rep h.1, mapScrub_rep h.2⟩
  | [], _ :: _, h => by simp [RepVs] at h
  | _ :: _, [], h => by simp [RepVs] at h
theorem owns_scrub (E : Env) (n o : Nat) (e : Ent) : owns (E.cut n) o (scrubE n e) = owns E o e := by cases e <;> rfl
theorem Sim.cut [tI : Tst] {base : Nat} {w0 w : World} {E : Env} {S : List Ent} (sim : Sim base w0 E S w) (n : Nat) (hn : n ≤ S.length) : Sim base w0 (E.cut n) (truncL n S) w where
  below := sim.below
  base_le := sim.base_le
  mem := sim.mem
  old := sim.old
  lt o l := by rw [truncL_len hn]; exact l.2
  ents o := by
    rw [ent_trunc]
    split
    · rename_i ho
      have h := sim.ents o
      cases he : ent S o with
      | gone => trivial
      | obj cs =>
        rw [he] at h
        obtain ⟨h1, h2, us, t, h3, h4, h5, h6⟩ := h
        exact ⟨⟨h1, ho⟩, h2, us, t, h3, mapScrub_rep h4, h5, h6⟩
      | row t xs =>
        rw [he] at h
        obtain ⟨h1, h2⟩ := h
        exact ⟨⟨h1, ho⟩, h2⟩
      | fam k =>
        rw [he] at h
        obtain ⟨h1, h2, h3⟩ := h
        exact ⟨⟨h1, ho⟩, h2, h3⟩
      | lit k =>
        rw [he] at h
        obtain ⟨⟨h1, h2, h3⟩, h4⟩ := h
        exact ⟨⟨⟨h1, ho⟩, h2, h3⟩, h4⟩
    · trivial
  apart o o' B hne h1 h2 := by
    have key : ∀ o, owns (E.cut n) o (ent (truncL n S) o) = some B → owns E o (ent S o) = some B := by
      intro o h
      rw [ent_trunc] at h
      split at h
      · rwa [owns_scrub] at h
      · simp [owns] at h
    exact sim.apart o o' B hne (key o h1) (key o' h2)
theorem SimA.pick [tI : Tst] {E : Env} {sl : List V} {a : Act} (h : SimA E sl a) (n : Nat) (live : List Nat) : SimA (E.cut n) (pickL n live 0 sl) a := ⟨h.defers, pickL_rep 0 h.rep⟩

/-! ### a region -/
theorem repK_eq {R : Type} : ∀ (n : Nat) (es : List Ent) (k : List Ent → R), repK n es k = k (List.replicate n .gone ++ es)
  | 0, es, k => by simp [repK]
  | n + 1, es, k => by
    rw [repK, repK_eq n]
    congr 1
    rw [show Ent.gone :: es = [.gone] ++ es from rfl, ← List.append_assoc, List.replicate_succ']
theorem growK_eq [tI : Tst] {R : Type} : ∀ (S : List Ent) (n : Nat) (k : List Ent → R), growK S n k = k (S ++ List.replicate n .gone)
  | [], n, k => by rw [growK, repK_eq]; simp
  | e :: es, n, k => by rw [growK, growK_eq es]; rfl
theorem foldl_add : ∀ (l : List Nat) (a : Nat), l.foldl (· + ·) a = a + l.foldl (· + ·) 0
  | [], a => by simp
  | x :: l, a => by rw [List.foldl_cons, List.foldl_cons, foldl_add l (a + x), foldl_add l (0 + x)]; omega
theorem reserve_cons [tI : Tst] (C : Ctx) (o : Oper) (os : List Oper) : reserve C (o :: os) = need C o + reserve C os := by
  simp only [reserve, List.map_cons, List.foldl_cons]
  rw [foldl_add]; omega
theorem idAt_step (C : Ctx) {all : Array Oper} (n i : Nat) {o : Oper} (h : all[i]? = some o) : idAt C all n (i + 1) = idAt C all n i + need C o := by simp [idAt, h]
theorem idAt_le (C : Ctx) (all : Array Oper) (n : Nat) {i j : Nat} (h : i ≤ j) : idAt C all n i ≤ idAt C all n j := by
  induction h with
  | refl => exact Nat.le_refl _
  | step _ ih => exact Nat.le_trans ih (by rw [idAt]; omega)
theorem idAt_end [tI : Tst] (C : Ctx) (all : Array Oper) (n : Nat) : ∀ (os : List Oper) (i : Nat), os = all.toList.drop i → idAt C all n i + reserve C os = idAt C all n (i + os.length)
  | [], i, _ => by simp [reserve]
  | o :: os, i, h => by
    have ho : all[i]? = some o := by
      have : (all.toList.drop i)[0]? = some o := by rw [← h]; rfl
      rw [List.getElem?_drop] at this
      simpa using this
    have hos' : os = all.toList.drop (i + 1) := by
      have := congrArg (List.drop 1) h
      simpa [List.drop_drop] using this
    rw [reserve_cons, ← Nat.add_assoc, ← idAt_step C n i ho, idAt_end C all n os (i + 1) hos', List.length_cons]
    congr 1; omega
theorem apart_idAt [tI : Tst] (C : Ctx) (all : Array Oper) (n : Nat) : Apart C all (idAt C all n) := by
  intro i i' o o' hne ho ho' x h1 h2 h3
  rw [← idAt_step C n i ho] at h2
  rw [← idAt_step C n i' ho'] at h3
  rcases Nat.lt_or_gt_of_ne hne with h | h
  · have := idAt_le C all n (i := i + 1) (j := i') h; omega
  · have := idAt_le C all n (i := i' + 1) (j := i) h; omega
theorem fresh_idAt [tI : Tst] {C : Ctx} {all : Array Oper} {base : Nat} {w0 w : World} {E : Env} {S : List Ent} (sim : Sim base w0 E S w) :
    Fresh C all (idAt C all S.length) (List.range' 0 all.size) E (S ++ List.replicate (reserve C all.toList) .gone) := by
  intro i hi o ho j h1 h2
  have h0 : S.length ≤ idAt C all S.length i := idAt_le C all S.length (Nat.zero_le i)
  refine ⟨fun l => ?_, ?_⟩
  · have := sim.lt j l; omega
  · rw [← idAt_step C _ i ho] at h2
    have hlt : i < all.size := (Array.getElem?_eq_some_iff.1 ho).1
    have h3 := idAt_le C all S.length (i := i + 1) (j := all.size) hlt
    have h4 := idAt_end C all S.length all.toList 0 rfl
    simp only [idAt, Nat.zero_add, Array.length_toList] at h4
    simp only [List.length_append, List.length_replicate]
    omega
theorem Sim.grow [tI : Tst] {base : Nat} {w0 w : World} {E : Env} {S : List Ent} (sim : Sim base w0 E S w) (n : Nat) : Sim base w0 E (S ++ List.replicate n .gone) w := by
  have he : ∀ o, ent (S ++ List.replicate n .gone) o = ent S o := fun o => ent_app S _ o (fun e h => List.eq_of_mem_replicate h)
  refine ⟨sim.below, sim.base_le, sim.mem, fun o => by rw [he]; exact sim.ents o, fun o o' B hne h1 h2 => ?_, fun o l => ?_, sim.old⟩
  · rw [he] at h1 h2; exact sim.apart o o' B hne h1 h2
  · have := sim.lt o l; simp only [List.length_append]; omega
theorem Sim.drew {base : Nat} {w0 w : World} {E : Env} {S : List Ent} (sim : Sim base w0 E S w) : Sim base w0 E S { w with drawn := w.drawn + 1 } :=
  ⟨sim.below.trans ⟨rfl, rfl, rfl, Nat.le_refl _, fun _ _ => rfl⟩, sim.base_le, sim.mem, sim.ents, sim.apart, sim.lt, sim.old⟩

def Ex.to : Ex → Exit
  | .normal => .normal | .exit id => .exit id | .ret => .ret

/-- what code comes to, in whatever world -/
def CodeRes (P : Program) (c : Code) (sl : List V) (S : List Ent) (e : Ex) (sl' : List V) (S' : List Ent) : Prop :=
  S.length ≤ S'.length ∧ ∀ (base : Nat) (w0 : World) (E : Env) (w : World) (a : Act) (Q : Exit → Act → World → Prop), Sim base w0 E S w → SimA E sl a →
    (∀ E' a' w', E.Le E' → (∀ x, E'.live x → E.live x ∨ S.length ≤ x) → Sim base w0 E' S' w' → SimA E' sl' a' → Q e.to a' w') → c.wp P Q a w

section
variable {R : Type} {P : Program} {C : Ctx} {tab : Tab} {call : CallH R} {fuel : Nat}
theorem Run.slen [tI : Tst] {all : Array Oper} {idOf : Nat → Nat} (hT : TabOK P tab) : ∀ {is : List Nat} {sl sl' : List V} {S S' : List Ent} {ts : List Touch}, Run P C tab all idOf is sl S ts sl' S' → S'.length = S.length
  | [], _, _, _, _, _, .nil _ _ => rfl
  | _ :: _, _, _, _, _, _, .cons _ _ _ _ _ _ _ _ _ _ h r => (Run.slen hT r).trans (h.len hT)

theorem ordOK_back {C : Ctx} {all : Array Oper} {n : Nat} {ts : List Touch} (h : ordOK C all n ts = true) : Backward all := by
  intro x o ho e he hb
  simp only [ordOK, Bool.and_eq_true, List.all_eq_true, List.mem_range] at h
  have hx : x < all.size := (Array.getElem?_eq_some_iff.1 ho).1
  have := h.2 x hx
  rw [ho] at this
  simp only [Option.any_some, Bool.and_eq_true, List.all_eq_true] at this
  have := this.1 e he
  simpa [hb] using this
theorem ordOK_indep [tI : Tst] {C : Ctx} {all : Array Oper} {n : Nat} {ts : List Touch} (h : ordOK C all n ts = true) (j i : Nat) (hji : j < i) (hi : i < all.size) :
    j ∈ (ancs all.toList []).getD i [] ∨ Indep C all (idAt C all n) (fun k => ts.getD k .all) j i := by
  simp only [ordOK, Bool.and_eq_true, List.all_eq_true, List.mem_range] at h
  have := h.2 i hi
  rw [show all[i]? = some all[i] from by simp [hi]] at this
  simp only [Option.any_some, Bool.and_eq_true, List.all_eq_true, List.mem_range] at this
  have := this.2 j hji
  simp only [Bool.or_eq_true, List.contains_iff_mem] at this
  rcases this with h | h
  · exact .inl h
  · right
    rw [show all[j]? = some all[j] from by simp [Nat.lt_trans hji hi]] at h
    simp only [Option.any_some, Bool.and_eq_true] at h
    intro oj oi hj hi'
    rw [show all[j]? = some all[j] from by simp [Nat.lt_trans hji hi]] at hj
    rw [show all[i]? = some all[i] from by simp [hi]] at hi'
    simp only [Option.some.injEq] at hj hi'
    subst hj; subst hi'
    rw [← idAt_step C n i (by simp [hi]), ← idAt_step C n j (by simp [Nat.lt_trans hji hi])]
    exact ⟨h.1.1.1, h.1.1.2, h.1.2, h.2⟩

theorem region_ok [tI : Tst] (hC : RowsOK P C) (hT : TabOK P tab) (hcall : CallOK P call) (hm : P.follows .mixedOrders = true) {cur id : Nat} {ops : Array Oper} {draw : Bool} {sl : List V} {S : List Ent} {k : Ex → List V → List Ent → Option R} {r : R}
    (h : evC C tab call fuel cur (.region id ops draw) sl S k = some r) : ∃ sl' S', k .normal sl' S' = some r ∧ CodeRes P (.region id ops draw) sl S .normal sl' S' := by
  simp only [evC] at h
  rw [lenK_eq, growK_eq, Nat.zero_add] at h
  obtain ⟨ts, sl', S', hrun, hl, hk⟩ := evOps_run (P := P) (all := ops) hcall (idOf := idAt C ops S.length) (fun i o ho => idAt_step C _ i ho) ops.toList 0 sl _ [] _ r rfl h
  rw [List.append_nil, List.reverse_reverse] at hk
  rw [Array.length_toList] at hrun hl
  have hlen : S.length ≤ S'.length := by rw [hrun.slen hT]; simp
  cases draw with
  | false =>
    refine ⟨sl', S', hk, hlen, ?_⟩
    intro base w0 E w a Q sim ha hQ
    refine wp_region ?_
    rw [List.range_eq_range']
    exact hrun.wpOps hC hT (apart_idAt C ops S.length) (fun i => idAt_le C ops S.length (Nat.zero_le i)) List.nodup_range' (sim.grow _) ha (fresh_idAt sim) hQ
  | true =>
    simp only at hk
    cases ho : ordB C ops S.length ts with
    | false => rw [ho] at hk; simp [br] at hk
    | true =>
      rw [br_t ho] at hk
      have hord : ordOK C ops S.length ts = true := tst_iff.1 ho
      refine ⟨sl', S', hk, hlen, ?_⟩
      intro base w0 E w a Q sim ha hQ
      refine wp_region_any hm ?_
      have hrest : rest ops (Array.replicate ops.size false) = List.range' 0 ops.size := by
        rw [← List.range_eq_range']
        unfold rest
        refine List.filter_eq_self.2 fun i hi => ?_
        have := List.mem_range.1 hi
        simp [Array.getD, this]
      refine RunF.any (S := S ++ List.replicate (reserve C ops.toList) .gone) (idOf := idAt C ops S.length) (tOf := fun k => ts.getD k .all) hC hT (apart_idAt C ops S.length) (fun i => idAt_le C ops S.length (Nat.zero_le i)) (ordOK_back hord) (ordOK_indep hord) ops.size _ (by simp) (by rw [hrest]; simp) ?_ ?_ (sim.grow _).drew ha ?_ hQ
      · intro x o hx hl
        exfalso
        have : x < ops.size := (Array.getElem?_eq_some_iff.1 hx).1
        simp [Array.getD, this] at hl
      · rw [hrest]
        exact hrun.toF (fun k hk => by simp)
      · rw [hrest]
        exact fresh_idAt sim
end
end Go.Proofs.Ytdhbelpejaobdaa.Ev
