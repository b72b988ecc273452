/- Parts of the proof, joined by a program of this session: EvRow, EvRow2, EvFrz, EvP, EvQ, EvR, EvS, EvT, EvU, EvV, EvW, EvX, EvY, EvZ, EvInl. -/
import Derived.Test.YtmpmmfbgdpfnpaaM0
import Derived.Laws.MakeOwn
import Derived.Laws.Entries
import Derived.Orders
import Derived.LoopN
import Derived.Scope
import Derived.Deep.Slices
import Derived.ChangeArms
import Derived.OpenShut
import Derived.SizedLaws
import Derived.DataReads
import Derived.WalkKit
import Derived.ProofKit
import Derived.ShutString
import Derived.ChangeOld
set_option linter.unusedVariables false
set_option linter.unusedSimpArgs false
set_option linter.unusedSectionVars false
/- Rows that may be written to: made, appended to, copied into, cleared; read as data. -/
namespace Go.Proofs.Ytmpmmfbgdpfnpaa.Ev
open Go Go.RowKit
set_option linter.unusedVariables false
set_option linter.unusedSimpArgs false

theorem elems_splice {t : Ty} {zs news : List Value} {n m : Nat} (h1 : n * t.size + news.length ≤ zs.length) (hy : news.length = m * t.size) (i : Nat) :
    (((zs.take (n * t.size) ++ news ++ zs.drop (n * t.size + news.length)).drop (i * t.size)).take t.size) = if i < n then (zs.drop (i * t.size)).take t.size else if i < n + m then (news.drop ((i - n) * t.size)).take t.size else (zs.drop (i * t.size)).take t.size := by
  have ht : (zs.take (n * t.size)).length = n * t.size := by rw [List.length_take]; omega
  apply List.ext_getElem?
  intro k
  by_cases hk : k < t.size
  · by_cases hin : i < n
    · rw [if_pos hin]
      simp only [List.getElem?_take, List.getElem?_drop, if_pos hk]
      have : i * t.size + k < n * t.size := by
        have := Nat.mul_le_mul_right t.size (show i + 1 ≤ n from hin)
        rw [Nat.add_mul, Nat.one_mul] at this; omega
      rw [List.append_assoc, List.getElem?_append_left (by omega), List.getElem?_take, if_pos this]
    · rw [if_neg hin]
      have h2 : n * t.size ≤ i * t.size := Nat.mul_le_mul_right _ (by omega)
      have h3 : i * t.size = n * t.size + (i - n) * t.size := by rw [← Nat.add_mul]; congr 1; omega
      by_cases him : i < n + m
      · rw [if_pos him]
        simp only [List.getElem?_take, List.getElem?_drop, if_pos hk]
        have : (i - n) * t.size + k < news.length := by
          have := Nat.mul_le_mul_right t.size (show i - n + 1 ≤ m by omega)
          rw [Nat.add_mul, Nat.one_mul] at this; omega
        rw [List.append_assoc, List.getElem?_append_right (by omega), ht, List.getElem?_append_left (by omega)]
        congr 1; omega
      · rw [if_neg him]
        simp only [List.getElem?_take, List.getElem?_drop, if_pos hk]
        have : m * t.size ≤ (i - n) * t.size := Nat.mul_le_mul_right _ (by omega)
        rw [List.getElem?_append_right (by rw [List.length_append]; omega), List.length_append, ht, List.getElem?_drop]
        congr 1; omega
  · have e : ∀ l : List Value, (l.take t.size)[k]? = none := fun l => by rw [List.getElem?_take, if_neg hk]
    rw [e]
    split
    · rw [e]
    · split <;> rw [e]

theorem get_l {α : Type} {xs ys : List α} {a j : Nat} (ha : a ≤ xs.length) (h : j < a) (hj : j < (List.take a xs ++ ys ++ List.drop (a + ys.length) xs).length) : (List.take a xs ++ ys ++ List.drop (a + ys.length) xs)[j] = xs[j]'(by omega) := by
  have ht : (List.take a xs).length = a := by rw [List.length_take]; omega
  rw [List.getElem_append_left (by rw [List.length_append]; omega), List.getElem_append_left (by omega), List.getElem_take]
theorem get_m {α : Type} {xs ys : List α} {a j : Nat} (ha : a ≤ xs.length) (h : ¬ j < a) (h2 : j < a + ys.length) (hj : j < (List.take a xs ++ ys ++ List.drop (a + ys.length) xs).length) : (List.take a xs ++ ys ++ List.drop (a + ys.length) xs)[j] = ys[j - a]'(by omega) := by
  have ht : (List.take a xs).length = a := by rw [List.length_take]; omega
  rw [List.getElem_append_left (by rw [List.length_append]; omega), List.getElem_append_right (by omega)]
  simp only [ht]
theorem get_r {α : Type} {xs ys : List α} {a j : Nat} (ha : a ≤ xs.length) (h2 : ¬ j < a + ys.length) (hx : j < xs.length) (hj : j < (List.take a xs ++ ys ++ List.drop (a + ys.length) xs).length) : (List.take a xs ++ ys ++ List.drop (a + ys.length) xs)[j] = xs[j] := by
  have ht : (List.take a xs).length = a := by rw [List.length_take]; omega
  rw [List.getElem_append_right (by rw [List.length_append]; omega), List.getElem_drop]
  simp only [List.length_append, ht]
  congr 1; omega

section
variable {P : Program} {C : Ctx} {E : Env} {w w0 : World} {base : Nat} {S : List Ent}

/-- a new block that a new row takes up -/
theorem Sim.newrow [tI : Tst] (sim : Sim base w0 E S w) {id : Nat} (hid : ¬ E.live id ∧ id < S.length) {t : Ty} {xs : List t.den} {w' : World} (hw : Wider w w') {cur : Array Value} {ty : TypeId} {cap n : Nat}
    (hh : w'.heap[w.heap.size]? = some (.cells cur ty (0, 0))) (hsz : cap * t.size ≤ cur.size) (hge : List.length xs ≤ cap) (hcm : cap ≤ maxLen) (hn : n ≤ cap) (hmax : n ≤ maxL)
    (hel : ∀ i (h : i < List.length xs), RepL E.m t xs[i] ((cur.toList.drop (i * t.size)).take t.size)) :
    ∃ E', E.Le E' ∧ Sim base w0 E' (S.set id (.row 0 t xs)) w' ∧ RepV E' (.sr id 0 0 n t.size .full) (.slice (some ⟨w.heap.size, 0, none⟩) n cap) ∧ ∀ o, E'.live o → E.live o ∨ o = id := by
  have hle := Env.le_add hid.1 0 t.size (.slice (some ⟨w.heap.size, 0, none⟩) n cap) 0 (some w.heap.size)
  refine ⟨_, hle, ?_, ?_, ?_⟩
  · refine sim.made hw hle (fun i => i = id) _ (by rw [List.length_set]) ?_ (fun _ _ _ => rfl) (hw.lies sim.mem) ?_ ?_ ?_ ?_
    · intro i hi
      exact ⟨ent_set_ne _ hi, fun l => ⟨if_neg (h := instDecidableEqNat i id) hi, if_neg (h := instDecidableEqNat i id) hi⟩⟩
    · rintro i rfl
      rw [ent_set_same _ hid.2]
      refine ⟨.inl rfl, by simp [Env.add], by simp [Env.add], ?_⟩
      unfold RowAt
      simp only [Env.add, if_true]
      exact ⟨cap, n, cur, ty, rfl, sim.base_le, hh, hge, hcm, hsz, hel, fun j => lies_none sim.mem (Nat.le_refl _) j⟩
    · rintro i B rfl hb
      rw [ent_set_same _ hid.2] at hb
      simp only [owns, Env.add, if_true, Option.some.injEq] at hb
      omega
    · rintro i i' B rfl rfl hne; exact absurd rfl hne
    · rintro i (rfl | l)
      · exact .inr hid.2
      · exact .inl l
  · simp only [RepV, Env.add, if_true]
    refine ⟨.inl trivial, trivial, Nat.le_refl _, hmax, _, cap, rfl, hn, hcm, fun _ => ⟨_, rfl, rfl⟩, fun _ => ?_⟩
    unfold Win
    exact ⟨_, rfl, fun _ => by simp, by omega, rfl, rfl, rfl⟩
  · rintro i (rfl | l)
    · exact .inr rfl
    · exact .inl l
/-- a row of no elements yet -/
theorem Sim.nilrow [tI : Tst] (sim : Sim base w0 E S w) {id : Nat} (hid : ¬ E.live id ∧ id < S.length) (t : Ty) :
    ∃ E', E.Le E' ∧ Sim base w0 E' (S.set id (.row 0 t ([] : List t.den))) w ∧ RepV E' (.sr id 0 0 0 t.size .full) (.slice none 0 0) ∧ ∀ o, E'.live o → E.live o ∨ o = id := by
  have hle := Env.le_add hid.1 0 t.size (.slice none 0 0) 0 none
  refine ⟨_, hle, ?_, ?_, ?_⟩
  · refine sim.made (Wider.refl w) hle (fun i => i = id) _ (by rw [List.length_set]) ?_ (fun _ _ _ => rfl) sim.mem ?_ ?_ ?_ ?_
    · intro i hi
      exact ⟨ent_set_ne _ hi, fun l => ⟨if_neg (h := instDecidableEqNat i id) hi, if_neg (h := instDecidableEqNat i id) hi⟩⟩
    · rintro i rfl
      rw [ent_set_same _ hid.2]
      refine ⟨.inl rfl, by simp [Env.add], by simp [Env.add], ?_⟩
      unfold RowAt
      simp only [Env.add, if_true]
      exact ⟨trivial, _, rfl⟩
    · rintro i B rfl hb
      rw [ent_set_same _ hid.2] at hb
      simp [owns, Env.add] at hb
    · rintro i i' B rfl rfl hne; exact absurd rfl hne
    · rintro i (rfl | l)
      · exact .inr hid.2
      · exact .inl l
  · simp only [RepV, Env.add, if_true]
    refine ⟨.inl trivial, trivial, Nat.le_refl _, Nat.zero_le _, none, 0, rfl, Nat.le_refl _, Nat.zero_le _, fun h => by omega, fun _ => ?_⟩
    unfold Win
    exact ⟨rfl, rfl, rfl, rfl⟩
  · rintro i (rfl | l)
    · exact .inr rfl
    · exact .inl l

/-- the cells of a row's first elements -/
theorem row_olds [tI : Tst] {t : Ty} {xs : List t.den} {cur : Array Value} {g n : Nat} {ty : TypeId} {ad : Option Addr} {cp : Nat} (hh : w.heap[g]? = some (.cells cur ty (0, 0))) (hfit : n * t.size ≤ cur.size) (had : 0 < n → ad = some ⟨g, 0, none⟩) :
    ∃ olds : List Value, olds = cur.toList.take (n * t.size) ∧ olds.length = n * t.size ∧ ∀ w', w'.heap = w.heap → (Builtin.firstCells t.size n (.slice ad n cp)).run P w' = .ok olds.toArray w' := by
  have hl : (cur.toList.take (n * t.size)).length = n * t.size := by rw [List.length_take, Array.length_toList]; omega
  refine ⟨_, rfl, hl, ?_⟩
  intro w' hw
  by_cases hn : n = 0
  · subst hn
    cases ad with
    | none => simp [Builtin.firstCells]
    | some a =>
      have := run_loadCells_list (P := P) w' a [] (by simp)
      simp only [Builtin.firstCells]
      simpa using this
  · obtain rfl := had (by omega)
    have := run_loadCells_list (P := P) w' ⟨g, 0, none⟩ (cur.toList.take (n * t.size)) (by
      intro j v hv
      rw [Addr.add_lit, Nat.zero_add]
      rw [List.getElem?_take] at hv
      split at hv
      · simp only [World.cell?, hw, hh, Option.isSome_none, Bool.false_eq_true, if_false]
        rw [← Array.getElem?_toList]; exact hv
      · simp at hv)
    rw [hl] at this
    simp only [Builtin.firstCells]
    exact this

def rowApp {α : Type} (c : SCap) (xs ys : List α) (n : Nat) : List α := match c with
  | .full => List.take n xs ++ ys ++ List.drop (n + ys.length) xs
  | _ => List.take n xs ++ ys

/-- a row is appended to -/
theorem Sim.appendRow [tI : Tst] (sim : Sim base w0 E S w) {o k n z : Nat} {c : SCap} {t : Ty} {xs ys : List t.den} {u : Value} (hx : RepV E (.sr o k 0 n z c) u) (hent : ent S o = .row k t xs) (hn : n ≤ List.length xs) (hc : c = .full ∨ c = .exact)
    {st xt tt e : TypeId} {x : Value} {news : List Value} (arg : AppArg P C E w st xt tt e x t ys news) (hb : (n + List.length ys) * (C.row e).bytes ≤ 140737488355328) (hmax : n + List.length ys ≤ maxL) :
    ∃ z' w' E', (Builtin.append_ #[st, xt] tt #[u, x]).run P w = .ok z' w' ∧ E.Le E' ∧ Sim base w0 E' (S.set o (.row (k + 1) t (rowApp c xs ys n))) w' ∧ RepV E' (.sr o (k + 1) 0 (n + List.length ys) t.size .full) z' ∧ ∀ i, E'.live i → E.live i := by
  have he := sim.ents o
  rw [hent] at he
  obtain ⟨e1, e2, e3, e4⟩ := he
  have hlt := sim.lt o e1
  simp only [RepV] at hx
  obtain ⟨-, q2, q3, q4, ad, cp, rfl, q5, q6, q7, q8⟩ := hx
  have hw := q8 e2
  have hnl := arg.nlen
  -- where it comes to lie in a new block
  have grow : ∀ (olds : List Value), (∀ w', w'.heap = w.heap → (Builtin.firstCells t.size n (.slice ad n cp)).run P w' = .ok olds.toArray w') → olds.length = n * t.size → (∀ i (h : i < n), RepL E.m t (xs[i]'(by omega)) ((olds.drop (i * t.size)).take t.size)) →
      cp < n + List.length ys → rowApp c xs ys n = List.take n xs ++ ys →
      ∃ z' w' E', (Builtin.append_ #[st, xt] tt #[.slice ad n cp, x]).run P w = .ok z' w' ∧ E.Le E' ∧ Sim base w0 E' (S.set o (.row (k + 1) t (rowApp c xs ys n))) w' ∧ RepV E' (.sr o (k + 1) 0 (n + List.length ys) t.size .full) z' ∧ ∀ i, E'.live i → E.live i := by
    intro olds o1 o2 o3 hcp hxs
    obtain ⟨rest, r1, hrun⟩ := arg.grow ad n cp olds (o1 w.drew rfl) hcp (by simp only [maxL] at hmax; omega) hb
    have hge := grownCap_ge w (n + List.length ys) cp e
    have hcm := grownCap_small w (old := cp) e hmax
    have hle := Env.le_move (E := E) (o := o) (plc := .slice (some ⟨w.heap.size, 0, none⟩) (n + List.length ys) (grownCap w (n + List.length ys) cp e)) (len := k + 1) (ex := some w.heap.size) (by omega) (fun h => by omega)
    refine ⟨_, _, _, hrun, hle, ?_, ?_, fun _ l => l⟩
    · refine sim.made (Wider.drew_alloc w _) hle (fun i => i = o) _ (by rw [List.length_set]) ?_ (fun _ _ _ => rfl) ((Wider.drew_alloc w _).lies sim.mem) ?_ ?_ ?_ (fun i l => .inl l)
      · intro i hi
        exact ⟨ent_set_ne _ hi, fun _ => ⟨if_neg (h := instDecidableEqNat i o) hi, if_neg (h := instDecidableEqNat i o) hi⟩⟩
      · rintro i rfl
        rw [ent_set_same _ hlt]
        refine ⟨e1, by simp [Env.move], e3, ?_⟩
        unfold RowAt
        simp only [Env.move, if_true]
        refine ⟨_, _, _, e, rfl, sim.base_le, heap_alloc_new w.drew _, ?_, hcm, ?_, ?_, fun j => lies_none sim.mem (Nat.le_refl _) j⟩
        · rw [hxs, List.length_append, List.length_take]; omega
        · simp only [List.size_toArray, List.length_append, r1, o2, hnl, ← Nat.add_mul]
          exact Nat.mul_le_mul_right _ (by omega)
        · intro i hi
          have hi' := hi
          rw [hxs] at hi'
          simp only [List.length_append, List.length_take] at hi'
          have hget : (rowApp c xs ys n)[i] = (List.take n xs ++ ys)[i]'(by rw [← hxs]; exact hi) := by
            simp only [hxs]
          rw [hget]
          have hol : (olds ++ news).length = (n + List.length ys) * t.size := by rw [List.length_append, o2, hnl, Nat.add_mul]
          have h6 : i * t.size + t.size ≤ (olds ++ news).length := by rw [hol, ← Nat.succ_mul]; exact Nat.mul_le_mul_right _ (by omega)
          simp only [List.toList_toArray]
          rw [List.drop_append_of_le_length (by omega), List.take_append_of_le_length (by rw [List.length_drop]; omega)]
          by_cases hix : i < n
          · have : (List.take n xs ++ ys)[i]'(by simp only [List.length_append, List.length_take]; omega) = xs[i]'(by omega) := by rw [List.getElem_append_left (by rw [List.length_take]; omega), List.getElem_take]
            rw [this]
            have h7 : i * t.size + t.size ≤ olds.length := by rw [o2, ← Nat.succ_mul]; exact Nat.mul_le_mul_right _ (by omega)
            rw [List.drop_append_of_le_length (by omega), List.take_append_of_le_length (by rw [List.length_drop]; omega)]
            exact o3 i hix
          · have hiy : i - n < List.length ys := by omega
            have htk : (List.take n xs).length = n := by rw [List.length_take]; omega
            have : (List.take n xs ++ ys)[i]'(by simp only [List.length_append, List.length_take]; omega) = ys[i - n] := by rw [List.getElem_append_right (by rw [htk]; omega)]; simp only [htk]
            rw [this]
            have e5 : i * t.size = olds.length + (i - n) * t.size := by rw [o2, ← Nat.add_mul]; congr 1; omega
            rw [e5, ← List.drop_drop, List.drop_left]
            exact arg.el _ hiy
      · rintro i B rfl hB
        rw [ent_set_same _ hlt] at hB
        have hB : some w.heap.size = some B := by simpa [owns, Env.move] using hB
        simp only [Option.some.injEq] at hB
        omega
      · rintro i i' B rfl rfl hne; exact absurd rfl hne
    · simp only [RepV]
      refine ⟨e1, e3, by simp [Env.move], hmax, _, _, rfl, hge, hcm, fun _ => ⟨_, rfl, rfl⟩, fun _ => ?_⟩
      simp only [Env.move, if_true]
      unfold Win
      exact ⟨_, rfl, fun _ => by simp, by omega, rfl, rfl, rfl⟩
  unfold RowAt at e4
  cases hex : E.ex o with
  | none =>
    rw [hex] at e4
    obtain ⟨rfl, a, hp⟩ := e4
    obtain rfl : n = 0 := by simpa using hn
    have hcp0 : cp = 0 := by
      rw [hp] at hw
      unfold Win at hw
      cases a with
      | none => exact hw.2.2.1
      | some a => obtain ⟨_, _, _, h, _⟩ := hw; omega
    subst hcp0
    have hxs : rowApp c ([] : List t.den) ys 0 = List.take 0 [] ++ ys := by rcases hc with rfl | rfl <;> simp [rowApp]
    by_cases hm0 : List.length ys = 0
    · have hys : ys = [] := List.eq_nil_of_length_eq_zero hm0
      have hle := Env.le_move (E := E) (o := o) (plc := .slice ad 0 0) (len := k + 1) (ex := none) (by omega) (fun h => by omega)
      refine ⟨_, w, _, arg.nul hm0 ad 0 0 (Nat.le_refl _), hle, ?_, ?_, fun _ l => l⟩
      · refine sim.made (Wider.refl w) hle (fun i => i = o) _ (by rw [List.length_set]) ?_ (fun _ _ _ => rfl) sim.mem ?_ ?_ ?_ (fun i l => .inl l)
        · intro i hi
          exact ⟨ent_set_ne _ hi, fun _ => ⟨if_neg (h := instDecidableEqNat i o) hi, if_neg (h := instDecidableEqNat i o) hi⟩⟩
        · rintro i rfl
          rw [ent_set_same _ hlt]
          refine ⟨e1, by simp [Env.move], e3, ?_⟩
          unfold RowAt
          simp only [Env.move, if_true]
          exact ⟨by rw [hxs, hys]; rfl, _, rfl⟩
        · rintro i B rfl hB
          rw [ent_set_same _ hlt] at hB
          simp [owns, Env.move] at hB
        · rintro i i' B rfl rfl hne; exact absurd rfl hne
      · rw [hm0]
        simp only [RepV]
        refine ⟨e1, e3, by simp [Env.move], by simp [maxL], ad, 0, rfl, Nat.le_refl _, Nat.zero_le _, fun h => by omega, fun _ => ?_⟩
        simp only [Env.move, if_true]
        unfold Win
        cases ad with
        | none => exact ⟨rfl, rfl, rfl, rfl⟩
        | some p => exact ⟨p, rfl, fun h => by omega, by omega, rfl, rfl, rfl⟩
    · refine grow [] (fun w' _ => ?_) (by simp) (fun i hi => by omega) (by omega) hxs
      cases ad with
      | none => simp [Builtin.firstCells]
      | some a =>
        have := run_loadCells_list (P := P) w' a [] (by simp)
        simp only [Builtin.firstCells]
        simpa using this
  | some g =>
    rw [hex] at e4
    obtain ⟨cap, l, cur, ty, f1, f2, f3, f4, f5, f6, f7, f8⟩ := e4
    rw [f1] at hw
    unfold Win at hw
    obtain ⟨ad0, rfl, w1, w2, w3⟩ := hw
    simp only [Nat.zero_mul, Nat.add_zero, Nat.zero_add] at w1 w2
    have hcur : cur.toList.length = cur.size := Array.length_toList
    have hnsz : n * t.size ≤ cur.size := Nat.le_trans (Nat.mul_le_mul_right _ (by omega)) f6
    obtain ⟨olds, g0, g1, g2⟩ := row_olds (P := P) (t := t) (xs := xs) (n := n) (ad := some ad0) (cp := cp) f3 hnsz (fun h => by rw [w1 (by omega)])
    have g3 : ∀ i (h : i < n), RepL E.m t (xs[i]'(by omega)) ((olds.drop (i * t.size)).take t.size) := by
      intro i hi
      have := f7 i (by omega)
      rw [g0, List.drop_take, List.take_take]
      have h7 : i * t.size + t.size ≤ n * t.size := by rw [← Nat.succ_mul]; exact Nat.mul_le_mul_right _ (by omega)
      rw [Nat.min_eq_left (by omega)]
      exact this
    by_cases hroom : n + List.length ys ≤ cp
    · rcases hc with rfl | rfl
      · -- in place
        simp only [] at w3
        obtain ⟨-, rfl, rfl⟩ := w3
        have hfit : n * t.size + news.length ≤ cur.size := by rw [hnl, ← Nat.add_mul]; exact Nat.le_trans (Nat.mul_le_mul_right _ hroom) f6
        have hrun := arg.room g n cp cur ty f3 hroom hfit
        have hle := Env.le_move (E := E) (o := o) (plc := .slice (some ⟨g, 0, none⟩) (n + List.length ys) cp) (len := k + 1) (ex := some g) (by omega) (fun h => by omega)
        have hown : owns E o (ent S o) = some g := by rw [hent]; exact hex
        refine ⟨_, _, _, hrun, hle, ?_, ?_, fun _ l => l⟩
        · refine sim.storeAt hle rfl (fun i => i = o) _ (o := o) rfl hown f8 ?_ ?_ ?_ ?_
          · intro i hi
            exact ⟨ent_set_ne _ hi, fun _ => ⟨if_neg (h := instDecidableEqNat i o) hi, if_neg (h := instDecidableEqNat i o) hi⟩⟩
          · rintro i rfl
            rw [ent_set_same _ hlt]
            refine ⟨e1, by simp [Env.move], e3, ?_⟩
            unfold RowAt
            simp only [Env.move, if_true]
            have hxl : (rowApp .full xs ys n).length ≤ cp := by
              simp only [rowApp, List.length_append, List.length_take, List.length_drop]; omega
            refine ⟨cp, _, _, ty, rfl, f2, setRow_heap w _ _ _ ty _ f3, hxl, f5, ?_, ?_, f8⟩
            · simp only [List.size_toArray, List.length_append, List.length_take, List.length_drop]; omega
            · intro j hj
              have hj' := hj
              simp only [rowApp, List.length_append, List.length_take, List.length_drop] at hj'
              have hfit' : n * t.size + news.length ≤ cur.toList.length := by omega
              simp only [List.toList_toArray]
              rw [elems_splice hfit' hnl j]
              have htk : (List.take n xs).length = n := by rw [List.length_take]; omega
              by_cases hjn : j < n
              · rw [if_pos hjn]
                have : (rowApp .full xs ys n)[j] = xs[j]'(by omega) := get_l hn hjn hj
                rw [this]; exact f7 j (by omega)
              · rw [if_neg hjn]
                by_cases hjm : j < n + List.length ys
                · rw [if_pos hjm]
                  have : (rowApp .full xs ys n)[j] = ys[j - n]'(by omega) := get_m hn hjn hjm hj
                  rw [this]; exact arg.el _ _
                · rw [if_neg hjm]
                  have hjx : j < List.length xs := by omega
                  have : (rowApp .full xs ys n)[j] = xs[j]'hjx := get_r hn hjm hjx hj
                  rw [this]; exact f7 j hjx
          · rintro i B rfl hB
            rw [ent_set_same _ hlt] at hB
            have hB : some g = some B := by simpa [owns, Env.move] using hB
            simp only [Option.some.injEq] at hB
            exact ⟨rfl, hB.symm⟩
          · intro i l; rw [List.length_set]; exact sim.lt _ l
        · simp only [RepV]
          refine ⟨e1, e3, by simp [Env.move], hmax, _, _, rfl, hroom, f5, fun _ => ⟨_, rfl, rfl⟩, fun _ => ?_⟩
          simp only [Env.move, if_true]
          unfold Win
          exact ⟨_, rfl, fun _ => by simp, by omega, rfl, rfl, rfl⟩
      · -- nothing is appended to what has no room
        simp only [] at w3
        subst w3
        have hm0 : List.length ys = 0 := by omega
        have hys : ys = [] := List.eq_nil_of_length_eq_zero hm0
        have hrun := arg.nul hm0 (some ad0) cp cp (Nat.le_refl _)
        by_cases hn0 : cp = 0
        · have hle := Env.le_move (E := E) (o := o) (plc := .slice (some ad0) 0 0) (len := k + 1) (ex := none) (by omega) (fun h => by omega)
          refine ⟨_, w, _, hrun, hle, ?_, ?_, fun _ l => l⟩
          · refine sim.made (Wider.refl w) hle (fun i => i = o) _ (by rw [List.length_set]) ?_ (fun _ _ _ => rfl) sim.mem ?_ ?_ ?_ (fun i l => .inl l)
            · intro i hi
              exact ⟨ent_set_ne _ hi, fun _ => ⟨if_neg (h := instDecidableEqNat i o) hi, if_neg (h := instDecidableEqNat i o) hi⟩⟩
            · rintro i rfl
              rw [ent_set_same _ hlt]
              refine ⟨e1, by simp [Env.move], e3, ?_⟩
              unfold RowAt
              simp only [Env.move, if_true]
              exact ⟨by rw [hys, hn0]; simp [rowApp], _, rfl⟩
            · rintro i B rfl hB
              rw [ent_set_same _ hlt] at hB
              simp [owns, Env.move] at hB
            · rintro i i' B rfl rfl hne; exact absurd rfl hne
          · rw [hm0, Nat.add_zero]
            subst hn0
            simp only [RepV]
            refine ⟨e1, e3, by simp [Env.move], by simp [maxL], _, 0, rfl, Nat.le_refl _, Nat.zero_le _, fun h => by omega, fun _ => ?_⟩
            simp only [Env.move, if_true]
            unfold Win
            exact ⟨ad0, rfl, fun h => by omega, by omega, rfl, rfl, rfl⟩
        · obtain rfl := w1 (by omega)
          have hle := Env.le_move (E := E) (o := o) (plc := .slice (some ⟨g, 0, none⟩) cp cp) (len := k + 1) (ex := some g) (by omega) (fun h => by omega)
          have hown : owns E o (ent S o) = some g := by rw [hent]; exact hex
          refine ⟨_, w, _, hrun, hle, ?_, ?_, fun _ l => l⟩
          · refine sim.step hle (below_toX (Below.refl _ _)) (fun i => i = o) ?_ (fun _ _ _ _ => ⟨rfl, fun _ => rfl⟩) sim.mem ?_ ?_ ?_ (fun i l => by rw [List.length_set]; exact sim.lt _ l) (fun _ _ _ => rfl)
            · intro i hi
              exact ⟨ent_set_ne _ hi, fun _ => ⟨if_neg (h := instDecidableEqNat i o) hi, if_neg (h := instDecidableEqNat i o) hi⟩⟩
            · rintro i rfl
              rw [ent_set_same _ hlt]
              refine ⟨e1, by simp [Env.move], e3, ?_⟩
              unfold RowAt
              simp only [Env.move, if_true]
              have hxs : rowApp .exact xs ys cp = List.take cp xs := by simp [rowApp, hys]
              refine ⟨cp, cp, cur, ty, rfl, f2, f3, by rw [hxs, List.length_take]; omega, q6, hnsz, ?_, f8⟩
              intro j hj
              have hj' := hj
              rw [hxs, List.length_take] at hj'
              have hget : (rowApp .exact xs ys cp)[j] = (List.take cp xs)[j]'(by rw [← hxs]; exact hj) := by simp only [hxs]
              rw [hget, List.getElem_take]
              exact f7 j (by omega)
            · rintro i B rfl hB i' hi' hB'
              rw [ent_set_same _ hlt] at hB
              have hB : some g = some B := by simpa [owns, Env.move] using hB
              simp only [Option.some.injEq] at hB
              subst hB
              exact sim.apart i i' g (fun h => hi' h.symm) hown hB'
            · rintro i i' B rfl rfl hne; exact absurd rfl hne
          · rw [hm0, Nat.add_zero]
            simp only [RepV]
            refine ⟨e1, e3, by simp [Env.move], q4, _, cp, rfl, Nat.le_refl _, q6, fun _ => ⟨_, rfl, rfl⟩, fun _ => ?_⟩
            simp only [Env.move, if_true]
            unfold Win
            exact ⟨_, rfl, fun _ => by simp, by omega, rfl, rfl, rfl⟩
    · refine grow olds g2 g1 g3 (by omega) ?_
      rcases hc with rfl | rfl
      · simp only [] at w3
        obtain ⟨-, rfl, -⟩ := w3
        simp only [rowApp]
        rw [List.drop_eq_nil_of_le (by omega), List.append_nil]
      · rfl
/-- a nil slice is appended to: a row -/
theorem Sim.appendNilRow [tI : Tst] (sim : Sim base w0 E S w) {id : Nat} (hid : ¬ E.live id ∧ id < S.length) {t : Ty} {ys : List t.den} {st xt tt e : TypeId} {x : Value} {news : List Value}
    (arg : AppArg P C E w st xt tt e x t ys news) (hb : List.length ys * (C.row e).bytes ≤ 140737488355328) (hmax : List.length ys ≤ maxL) :
    ∃ z w' E', (Builtin.append_ #[st, xt] tt #[.slice none 0 0, x]).run P w = .ok z w' ∧ E.Le E' ∧ Sim base w0 E' (S.set id (.row 0 t ys)) w' ∧ RepV E' (.sr id 0 0 (List.length ys) t.size .full) z ∧ ∀ i, E'.live i → E.live i ∨ i = id := by
  by_cases hm0 : List.length ys = 0
  · have hys : ys = [] := List.eq_nil_of_length_eq_zero hm0
    subst hys
    obtain ⟨E', k1, k2, k3, k4⟩ := sim.nilrow hid t
    exact ⟨_, w, E', arg.nul hm0 none 0 0 (Nat.le_refl _), k1, k2, k3, k4⟩
  · obtain ⟨rest, r1, hrun⟩ := arg.grow none 0 0 [] (by simp [Builtin.firstCells]) (by omega) (by simp only [maxL] at hmax; omega) (by rw [Nat.zero_add]; exact hb)
    have hge := grownCap_ge w (List.length ys) 0 e
    have hcm := grownCap_small w (old := 0) e hmax
    have hnl := arg.nlen
    simp only [Nat.zero_add, List.nil_append] at hrun r1
    obtain ⟨E', k1, k2, k3, k4⟩ := sim.newrow hid (t := t) (xs := ys) (Wider.drew_alloc w (.cells (news ++ rest).toArray e)) (cur := (news ++ rest).toArray) (ty := e) (cap := grownCap w (List.length ys) 0 e) (n := List.length ys) (heap_alloc_new w.drew _)
      (by simp only [List.size_toArray, List.length_append, hnl, r1, ← Nat.add_mul]; exact Nat.mul_le_mul_right _ (by omega)) hge hcm hge hmax (by
        intro i hi
        have h6 : i * t.size + t.size ≤ news.length := by rw [hnl, ← Nat.succ_mul]; exact Nat.mul_le_mul_right _ (by omega)
        simp only [List.toList_toArray]
        rw [List.drop_append_of_le_length (by omega), List.take_append_of_le_length (by rw [List.length_drop]; omega)]
        exact arg.el i hi)
    exact ⟨_, _, E', hrun, k1, k2, k3, k4⟩
end
end Go.Proofs.Ytmpmmfbgdpfnpaa.Ev
/- Rows, continued: what is appended out of a row; copies; rows cleared and made. -/
namespace Go.Proofs.Ytmpmmfbgdpfnpaa.Ev
open Go Go.RowKit
set_option linter.unusedVariables false
set_option linter.unusedSimpArgs false

section
variable {P : Program} {C : Ctx} {E : Env} {w w0 : World} {base : Nat} {S : List Ent}

/-- a window's cells, and how they are loaded -/
theorem win_cells [tI : Tst] (sim : Sim base w0 E S w) {t : Ty} {o k a n z : Nat} {c : SCap} {u : Value} {ys : List t.den} {g : Bool} (hx : RepV E (.sr o k a n z c) u) (h : winV S t o k a n = some (g, ys)) (hg : g = true) :
    List.length ys = n ∧ n ≤ maxL ∧ (∃ ad cp, u = .slice ad n cp) ∧ ∃ news : List Value, news.length = n * t.size ∧ (∀ u ∈ news, u.oneCell' = true) ∧ (∀ i (h : i < List.length ys), RepL E.m t ys[i] ((news.drop (i * t.size)).take t.size)) ∧
      ∀ m, m ≤ n → ∀ w', w'.heap = w.heap → (Builtin.firstCells t.size m u).run P w' = .ok (news.take (m * t.size)).toArray w' := by
  unfold winV at h
  split at h
  case h_2 => simp at h
  rename_i j s xs hrow
  simp only [Option.map_eq_some_iff, Prod.mk.injEq] at h
  obtain ⟨zs, hz, rfl, rfl⟩ := h
  obtain ⟨he, hz⟩ := cast_rep hz
  simp only [Ty.li.injEq] at he
  subst he
  simp only at hz
  subst hz
  simp only [Bool.and_eq_true, tst_iff] at hg
  obtain ⟨rfl, hb⟩ := hg
  obtain ⟨r1, r2, r3, r4⟩ := row_reads sim hrow
  simp only [RepV] at hx
  obtain ⟨-, q2, -, q4, ad, cp, rfl, q5, q6, q7, q8⟩ := hx
  have hw := q8 r2
  have hlen : List.length (List.take n (List.drop a xs)) = n := by rw [List.length_take, List.length_drop]; omega
  refine ⟨hlen, q4, ⟨_, _, rfl⟩, ?_⟩
  by_cases hn0 : n = 0
  · subst hn0
    refine ⟨[], by simp, by simp, fun i hi => by rw [hlen] at hi; omega, fun m hm w' hw' => ?_⟩
    obtain rfl : m = 0 := by omega
    cases ad with
    | none => simp [Builtin.firstCells]
    | some p =>
      have := run_loadCells_list (P := P) w' p [] (by simp)
      simp only [Builtin.firstCells]
      simpa using this
  · generalize hp : E.plc o = pl at hw
    unfold Win at hw
    split at hw
    · rename_i p l cap
      obtain ⟨ad0, rfl, w1, w2, w3⟩ := hw
      obtain rfl := w1 (by omega)
      -- the elements' cells, one behind the other
      have key : ∀ m (hm : m ≤ n), ∃ us : List Value, us.length = m * s.size ∧ (∀ u ∈ us, u.oneCell' = true) ∧ (∀ i z, us[i]? = some z → w.cell? ⟨p.block, p.off + a * s.size + i, none⟩ = some z) ∧
          ∀ i (h : i < m), RepL E.m s (xs[a + i]'(by omega)) ((us.drop (i * s.size)).take s.size) := by
        intro m
        induction m with
        | zero => intro _; exact ⟨[], by simp, by simp, by simp, fun i h => by omega⟩
        | succ m ih =>
          intro hm
          obtain ⟨us, u1, u2, u3, u4⟩ := ih (by omega)
          obtain ⟨vs, v1, v2⟩ := r4 p _ _ hp (a + m) (by omega)
          have vl := RepL.len _ _ _ v2
          refine ⟨us ++ vs, by rw [List.length_append, u1, vl, Nat.add_mul, Nat.one_mul], ?_, ?_, ?_⟩
          · intro u hu
            rcases List.mem_append.1 hu with h | h
            · exact u2 u h
            · exact RepL.one _ _ _ v2 u h
          · intro i zz hz
            by_cases hi : i < us.length
            · rw [List.getElem?_append_left hi] at hz; exact u3 i zz hz
            · rw [List.getElem?_append_right (by omega)] at hz
              have := v1 _ _ hz
              rw [← this]
              congr 2
              rw [Nat.add_mul, u1]; omega
          · intro i hi
            by_cases him : i < m
            · have h7 : i * s.size + s.size ≤ us.length := by rw [u1, ← Nat.succ_mul]; exact Nat.mul_le_mul_right _ (by omega)
              rw [List.drop_append_of_le_length (by omega), List.take_append_of_le_length (by rw [List.length_drop]; omega)]
              exact u4 i him
            · obtain rfl : i = m := by omega
              rw [← u1, List.drop_left, ← vl, List.take_length]
              exact v2
      obtain ⟨us, u1, u2, u3, u4⟩ := key n (Nat.le_refl _)
      refine ⟨us, u1, u2, ?_, ?_⟩
      · intro i hi
        rw [hlen] at hi
        have := u4 i hi
        rw [List.getElem_take, List.getElem_drop]
        exact this
      · intro m hm w' hw'
        have hml : (us.take (m * s.size)).length = m * s.size := by rw [List.length_take, u1]; exact Nat.min_eq_left (Nat.mul_le_mul_right _ hm)
        have := run_loadCells_list (P := P) w' ⟨p.block, p.off + a * z, none⟩ (us.take (m * s.size)) (by
          intro j v hv
          rw [Addr.add_lit]
          rw [List.getElem?_take] at hv
          split at hv
          · have := u3 j v hv
            rw [← q2, r3]
            unfold World.cell? at this ⊢
            rw [hw']; exact this
          · simp at hv)
        rw [hml] at this
        simp only [Builtin.firstCells]
        exact this
    · omega
    · exact hw.elim

theorem appArg_win [tI : Tst] (hC : RowsOK P C) (sim : Sim base w0 E S w) {st xt tt e f : TypeId} (hst : (C.row st).td = .slice e) (hxt : (C.row xt).td = .slice f) {o k a n z : Nat} {c : SCap} {u : Value} {ys : List (C.row e).ty.den} {g : Bool} (hx : RepV E (.sr o k a n z c) u)
    (h : winV S (C.row e).ty o k a n = some (g, ys)) (hg : g = true) : ∃ news, AppArg P C E w st xt tt e u (C.row e).ty ys news ∧ List.length ys ≤ maxL := by
  obtain ⟨hu, -, -, he, hpos⟩ := hC.slice hst
  have hsz := (hC.row he).size
  obtain ⟨h1, h2, ⟨ad, cp, rfl⟩, news, h3, h4, h5, h6⟩ := win_cells (P := P) sim hx h hg
  refine ⟨news, appArg_of hC hst (hC.slice hxt).1 (by simp) (fun w => by simp [Builtin.lenOf, h1]) (fun w' hw' => ?_) (by rw [h1]; exact h3) h4 h5, by rw [h1]; exact h2⟩
  have := h6 n (Nat.le_refl _) w' hw'
  rw [← h3, List.take_length] at this
  rw [← hsz, h1]
  exact this

/-- where a window of a row that may be written to lies -/
theorem row_at [tI : Tst] (sim : Sim base w0 E S w) {o k a n z : Nat} {c : SCap} {t : Ty} {xs : List t.den} {u : Value} (hx : RepV E (.sr o k a n z c) u) (hent : ent S o = .row k t xs) (hb : a + n ≤ List.length xs) :
    E.live o ∧ E.sz o = t.size ∧ k = E.len o ∧ n ≤ maxL ∧ ∃ ad cp, u = .slice ad n cp ∧ ((n = 0) ∨ ∃ g cur ty cap l, ad = some ⟨g, a * t.size, none⟩ ∧ E.ex o = some g ∧ E.plc o = .slice (some ⟨g, 0, none⟩) l cap ∧ base ≤ g ∧ w.heap[g]? = some (.cells cur ty (0, 0)) ∧ List.length xs ≤ cap ∧ cap ≤ maxLen ∧ cap * t.size ≤ cur.size ∧
      (∀ i (h : i < List.length xs), RepL E.m t xs[i] ((cur.toList.drop (i * t.size)).take t.size)) ∧ ∀ j, E.m g j = none) := by
  have he := sim.ents o
  rw [hent] at he
  obtain ⟨e1, e2, e3, e4⟩ := he
  simp only [RepV] at hx
  obtain ⟨-, q2, -, q4, ad, cp, rfl, q5, q6, q7, q8⟩ := hx
  have hw := q8 e2
  refine ⟨e1, e3, e2, q4, ad, cp, rfl, ?_⟩
  by_cases hn : n = 0
  · exact .inl hn
  right
  unfold RowAt at e4
  cases hex : E.ex o with
  | none => rw [hex] at e4; obtain ⟨rfl, -⟩ := e4; simp at hb; omega
  | some g =>
    rw [hex] at e4
    obtain ⟨cap, l, cur, ty, f1, f2, f3, f4, f5, f6, f7, f8⟩ := e4
    rw [f1] at hw
    unfold Win at hw
    obtain ⟨ad0, rfl, w1, -⟩ := hw
    obtain rfl := w1 (by omega)
    refine ⟨g, cur, ty, cap, l, ?_, rfl, f1, f2, f3, f4, f5, f6, f7, f8⟩
    rw [← q2, e3, Nat.zero_add]

/-- elements of a row are written over -/
theorem Sim.splice [tI : Tst] (sim : Sim base w0 E S w) {o k a : Nat} {t : Ty} {xs ys : List t.den} {news : List Value} (hent : ent S o = .row k t xs) (hb : a + List.length ys ≤ List.length xs) {g cap l : Nat} {cur : Array Value} {ty : TypeId} (hex : E.ex o = some g)
    (hp : E.plc o = .slice (some ⟨g, 0, none⟩) l cap) (hg : base ≤ g) (hh : w.heap[g]? = some (.cells cur ty (0, 0))) (hxc : List.length xs ≤ cap) (hcm : cap ≤ maxLen) (hsz : cap * t.size ≤ cur.size)
    (hel : ∀ i (h : i < List.length xs), RepL E.m t xs[i] ((cur.toList.drop (i * t.size)).take t.size)) (hnone : ∀ j, E.m g j = none) (hnl : news.length = List.length ys * t.size) (h1 : ∀ u ∈ news, u.oneCell' = true)
    (hny : ∀ i (h : i < List.length ys), RepL E.m t ys[i] ((news.drop (i * t.size)).take t.size)) :
    (storeCells ⟨g, a * t.size, none⟩ news).run P w = .ok () (w.setRow g (cur.toList.take (a * t.size) ++ news ++ cur.toList.drop (a * t.size + news.length)).toArray) ∧
    Sim base w0 E (S.set o (.row k t (List.take a xs ++ ys ++ List.drop (a + List.length ys) xs))) (w.setRow g (cur.toList.take (a * t.size) ++ news ++ cur.toList.drop (a * t.size + news.length)).toArray) := by
  have he := sim.ents o
  rw [hent] at he
  obtain ⟨e1, e2, e3, e4⟩ := he
  have hlt := sim.lt o e1
  have hfit : a * t.size + news.length ≤ cur.size := by rw [hnl, ← Nat.add_mul]; exact Nat.le_trans (Nat.mul_le_mul_right _ (by omega)) hsz
  have hst := run_storeCells_at (P := P) g (a * t.size) ty news 0 cur w hh (by simpa using hfit) h1
  simp only [Nat.add_zero] at hst
  refine ⟨hst, ?_⟩
  have hown : owns E o (ent S o) = some g := by rw [hent]; exact hex
  refine sim.storeAt (Env.Le.refl E) rfl (fun i => i = o) _ (o := o) rfl hown hnone ?_ ?_ ?_ ?_
  · intro i hi
    exact ⟨ent_set_ne _ hi, fun _ => ⟨rfl, rfl⟩⟩
  · rintro i rfl
    rw [ent_set_same _ hlt]
    refine ⟨e1, e2, e3, ?_⟩
    unfold RowAt
    rw [hex]
    have hxl : (List.take a xs ++ ys ++ List.drop (a + List.length ys) xs).length = List.length xs := by
      simp only [List.length_append, List.length_take, List.length_drop]; omega
    have hcur : cur.toList.length = cur.size := Array.length_toList
    refine ⟨cap, l, _, ty, hp, hg, setRow_heap w _ _ _ ty _ hh, by rw [hxl]; exact hxc, hcm, ?_, ?_, hnone⟩
    · simp only [List.size_toArray, List.length_append, List.length_take, List.length_drop]; omega
    · intro j hj
      have hj' := hj
      rw [hxl] at hj'
      have hfit' : a * t.size + news.length ≤ cur.toList.length := by omega
      simp only [List.toList_toArray]
      rw [elems_splice hfit' hnl j]
      have htk : (List.take a xs).length = a := by rw [List.length_take]; omega
      by_cases hjn : j < a
      · rw [if_pos hjn]
        have : (List.take a xs ++ ys ++ List.drop (a + List.length ys) xs)[j] = xs[j]'(by omega) := get_l (by omega) hjn hj
        rw [this]; exact hel j (by omega)
      · rw [if_neg hjn]
        by_cases hjm : j < a + List.length ys
        · rw [if_pos hjm]
          have : (List.take a xs ++ ys ++ List.drop (a + List.length ys) xs)[j] = ys[j - a]'(by omega) := get_m (by omega) hjn hjm hj
          rw [this]; exact hny _ _
        · rw [if_neg hjm]
          have : (List.take a xs ++ ys ++ List.drop (a + List.length ys) xs)[j] = xs[j]'hj' := get_r (by omega) hjm hj' hj
          rw [this]; exact hel j hj'
  · rintro i B rfl hB
    rw [ent_set_same _ hlt] at hB
    simp only [owns] at hB
    rw [hex] at hB
    simp only [Option.some.injEq] at hB
    exact ⟨rfl, hB.symm⟩
  · intro i l; rw [List.length_set]; exact sim.lt _ l

theorem set_same_ent [tI : Tst] {S : List Ent} {o : Nat} {e : Ent} (h : ent S o = e) (ho : o < S.length) : S.set o e = S := by
  rw [ent_eq, List.getD_eq_getElem?_getD, List.getElem?_eq_getElem ho, Option.getD_some] at h
  rw [← h]
  exact List.set_getElem_self ho

theorem copyRow_ok [tI : Tst] (hC : RowsOK P C) (sim : Sim base w0 E S w) {dt xt tt : TypeId} {d x v : V} {u y : Value} {us : List (Nat × Ent)} {g : Bool} (h : copyV C S dt d x = some (g, v, us)) (hg : g = true) (hd : RepV E d u) (hx : RepV E x y) :
    ∃ z w', (Builtin.copy_ #[dt, xt] tt #[u, y]).run P w = .ok z w' ∧ Sim base w0 E (sets S us) w' ∧ RepV E v z := by
  unfold copyV at h
  split at h
  case h_2 => simp at h
  rename_i e o k a n z c hdt
  split at h
  case h_2 => simp at h
  rename_i j t xs hent
  split at h
  case isFalse => simp at h
  rename_i hsz
  simp only [Option.map_eq_some_iff, Prod.mk.injEq] at h
  obtain ⟨⟨g1, ys⟩, hys, rfl, rfl, rfl⟩ := h
  simp only [Bool.and_eq_true, tst_iff] at hg
  obtain ⟨⟨hg1, rfl⟩, hb⟩ := hg
  have hlt : o < S.length := by simp only [RepV] at hd; exact sim.lt o hd.1
  obtain ⟨hu, -, -, he, hpos⟩ := hC.slice hdt
  have hes : ∀ w, (sizeOf e).run P w = .ok (C.row e).size w := fun w => size_pos_info hC he
  -- what is copied
  have src : ∃ (m : Nat) (news : List Value), m = List.length ys ∧ (Builtin.lenOf y).run P w = .ok m w ∧ m ≤ maxL ∧ news.length = m * t.size ∧ (∀ u ∈ news, u.oneCell' = true) ∧ (∀ i (h : i < List.length ys), RepL E.m t ys[i] ((news.drop (i * t.size)).take t.size)) ∧
      ∀ q, q ≤ m → (Builtin.firstCells t.size q y).run P w = .ok (news.take (q * t.size)).toArray w := by
    split at hys
    · rename_i o' k' a' n' z' c'
      obtain ⟨h1, h2, ⟨ad, cp, rfl⟩, news, h3, h4, h5, h6⟩ := win_cells (P := P) sim hx hys hg1
      exact ⟨n', news, h1.symm, by simp [Builtin.lenOf], h2, h3, h4, h5, fun q hq => h6 q hq w rfl⟩
    · simp only [Option.map_eq_some_iff, Prod.mk.injEq] at hys
      obtain ⟨l, hl, -, rfl⟩ := hys
      obtain ⟨ad, cp, hu', k1, k2, k3, k4⟩ := asT_one (t := .li t) rfl hl hx
      simp only [List.cons.injEq, and_true] at hu'
      subst hu'
      cases ad with
      | none =>
        have h0 : List.length l = 0 := k4.1
        exact ⟨List.length l, [], rfl, by simp [Builtin.lenOf], k2, by rw [h0]; simp, by simp, fun i hi => by omega, fun q hq => by simp [Builtin.firstCells]⟩
      | some p =>
        obtain ⟨us, l1, l2, l3, l4⟩ := elem_cells k4.2 (List.length l) (Nat.le_refl _)
        refine ⟨List.length l, us, rfl, by simp [Builtin.lenOf], k2, l1, l3, fun i hi => l4 i hi hi, fun q hq => ?_⟩
        have hml : (us.take (q * t.size)).length = q * t.size := by rw [List.length_take, l1]; exact Nat.min_eq_left (Nat.mul_le_mul_right _ hq)
        have := run_loadCells_list (P := P) w p (us.take (q * t.size)) (by
          intro j v hv
          rw [List.getElem?_take] at hv
          split at hv
          · exact lies_cell' sim.mem (fun hl => k4.1 (by rcases Nat.eq_zero_or_pos (List.length l) with h | h; (rw [l1, h] at hl; simp at hl); omega)) l2 j v hv
          · simp at hv)
        rw [hml] at this
        simp only [Builtin.firstCells]
        exact this
  obtain ⟨m, news, hm, s1, s2, s3, s4, s5, s6⟩ := src
  obtain ⟨e1, e3, e2, q4, ad, cp, rfl, hat⟩ := row_at sim hd hent hb
  have hsz' : (C.row e).size = t.size := hsz
  obtain ⟨q, hqd⟩ : ∃ q, q = Nat.min m n := ⟨_, rfl⟩
  have hqi : q = if m ≤ n then m else n := by rw [hqd]; exact Nat.min_def
  have hq : q ≤ m := by rw [hqi]; split <;> omega
  have hqn : q ≤ n := by rw [hqi]; split <;> omega
  have hmin : min (List.length ys) n = q := by rw [hqi, ← hm]; exact Nat.min_def
  have hres : RepV E (.d (.it .i64) (min (List.length ys : Int) (n : Int))) (goInt q) := by
    have : (min (List.length ys : Int) (n : Int)) = (q : Int) := by rw [hqi, ← hm]; simp only [Int.min_def]; split <;> split <;> omega
    rw [this]
    refine rep_int ?_
    have hle : q ≤ maxL := Nat.le_trans hq s2
    simp only [maxL] at hle
    simp only [IntKind.min, IntKind.max, IntKind.bits, IntKind.signed]
    simp
    omega
  have hrun : ∀ (w' : World), (match ad with | some a => storeCells a (news.take (q * t.size)) | none => pure ()).run P w = .ok () w' → (Builtin.copy_ #[dt, xt] tt #[.slice ad n cp, y]).run P w = .ok (goInt (q)) w' := by
    intro w' hst
    have hf := s6 q hq
    cases ad with
    | none =>
      simp only [Sem.run_pure, Result.ok.injEq, true_and] at hst
      subst hst
      simp [Builtin.copy_, run_underlying hu, s1, ← hqd, hes, hsz', hf]
    | some p =>
      simp only at hst
      simp [Builtin.copy_, run_underlying hu, s1, ← hqd, hes, hsz', hf, hst]
  by_cases hq0 : q = 0
  · refine ⟨_, w, hrun w ?_, ?_, hres⟩
    · rw [hq0]
      cases ad with
      | none => rfl
      | some p => simp [storeCells]
    · rw [hmin, hq0, Nat.add_zero, sets, sets]
      have : List.take n ys = [] := by
        rcases Nat.eq_zero_or_pos n with h | h
        · rw [h]; rfl
        · have : m = 0 := by rw [hqi] at hq0; split at hq0 <;> omega
          rw [List.eq_nil_of_length_eq_zero (hm.symm.trans this)]; simp
      rw [this, List.append_nil, List.take_append_drop, set_same_ent hent hlt]
      exact sim
  · rcases hat with h | ⟨g, cur, ty, cap, l, rfl, a1, a2, a3, a4, a5, a6, a7, a8, a9⟩
    · omega
    · have hyl : (List.take n ys).length = q := by rw [List.length_take, Nat.min_comm]; exact hmin
      have hnl : (news.take (q * t.size)).length = (List.take n ys).length * t.size := by rw [hyl, List.length_take, s3]; exact Nat.min_eq_left (Nat.mul_le_mul_right _ hq)
      obtain ⟨b1, b2⟩ := sim.splice (P := P) (a := a) (xs := xs) (ys := List.take n ys) (news := news.take (q * t.size)) hent (by rw [hyl]; omega) a1 a2 a3 a4 a5 a6 a7 a8 a9 hnl (fun u hu => s4 u (List.mem_of_mem_take hu)) (by
        intro i hi
        rw [hyl] at hi
        have := s5 i (by omega)
        rw [List.getElem_take, List.drop_take, List.take_take]
        have h7 : i * t.size + t.size ≤ q * t.size := by rw [← Nat.succ_mul]; exact Nat.mul_le_mul_right _ (by omega)
        rw [Nat.min_eq_left (by omega)]
        exact this)
      refine ⟨_, _, hrun _ b1, ?_, hres⟩
      simp only [sets, hmin]
      rw [hyl] at b2
      exact b2

theorem clearRow_ok [tI : Tst] (hC : RowsOK P C) (sim : Sim base w0 E S w) {t tt : TypeId} {x v : V} {y : Value} {us : List (Nat × Ent)} {g : Bool} (h : clearV C S t x = some (g, v, us)) (hg : g = true) (hx : RepV E x y) :
    ∃ w', (Builtin.clear_ #[t] tt #[y]).run P w = .ok (.tuple #[]) w' ∧ Sim base w0 E (sets S us) w' ∧ RepV E v (.tuple #[]) := by
  unfold clearV at h
  split at h
  case h_2 => simp at h
  rename_i e o k a n z c hdt
  split at h
  case h_2 => simp at h
  rename_i j s xs hent
  split at h
  case isFalse => simp at h
  rename_i hty
  simp only [Option.some.injEq, Prod.mk.injEq] at h
  obtain ⟨rfl, rfl, rfl⟩ := h
  simp only [Bool.and_eq_true, tst_iff] at hg
  obtain ⟨rfl, hb⟩ := hg
  have hlt : o < S.length := by simp only [RepV] at hx; exact sim.lt o hx.1
  obtain ⟨hu, -, -, he, hpos⟩ := hC.slice hdt
  obtain ⟨i, zv, i1, i2, i3, i4, i5⟩ := (hC.row he).info
  have hsz := (hC.row he).size
  obtain ⟨e1, e3, e2, q4, ad, cp, rfl, hat⟩ := row_at sim hx hent hb
  have hzero : (zeroValue e).run P w = .ok zv w := by simp [zeroValue, typeInfo, i1, i4]
  have hzl : zv.cells.toList.length = s.size := by
    have h1 := (zeros_rep (E := E) _ _ i5).1.length
    have h2 := (hC.row he).cells
    rw [List.length_map] at h1
    rw [← h1, ← hty, hsz]; omega
  by_cases hn0 : n = 0
  · refine ⟨w, ?_, ?_, by simp only [RepV]; exact ⟨[], rfl, by simp [RepVs]⟩⟩
    · subst hn0
      cases ad <;> simp [Builtin.clear_, run_underlying hu]
    · subst hn0
      rw [sets, sets, List.replicate_zero, List.append_nil, Nat.add_zero, List.take_append_drop, set_same_ent hent hlt]
      exact sim
  · rcases hat with h | ⟨g, cur, ty, cap, l, rfl, a1, a2, a3, a4, a5, a6, a7, a8, a9⟩
    · omega
    · have hzc : (Builtin.zeroCells zv.cells n).toList = (List.replicate n zv.cells.toList).flatten := zeroCells_list _ (by rw [← Array.length_toList, hzl, ← hty, hsz]; exact hpos) n
      have hfl : ∀ m, ((List.replicate m zv.cells.toList).flatten).length = m * s.size := by
        intro m; simp [hzl]
      obtain ⟨b1, b2⟩ := sim.splice (P := P) (a := a) (xs := xs) (ys := List.replicate n s.dflt) (news := (Builtin.zeroCells zv.cells n).toList) hent (by rw [List.length_replicate]; exact hb) a1 a2 a3 a4 a5 a6 a7 a8 a9 (by rw [hzc, hfl, List.length_replicate]) (by
          intro u hu
          rw [hzc] at hu
          obtain ⟨l', hl', hu⟩ := List.mem_flatten.1 hu
          obtain ⟨-, rfl⟩ := List.mem_replicate.1 hl'
          exact (zeros_rep (E := E) _ _ i5).2 u hu) (by
          intro i hi
          rw [List.length_replicate] at hi
          rw [List.getElem_replicate, hzc]
          have : ((List.replicate n zv.cells.toList).flatten.drop (i * s.size)).take s.size = zv.cells.toList := by
            have e : n = i + ((n - i - 1) + 1) := by omega
            rw [e, ← List.replicate_append_replicate, List.flatten_append, ← hfl i, List.drop_left, List.replicate_succ, List.flatten_cons, ← hzl, List.take_left]
          rw [this]
          have hcl := (hC.row he).flat
          rw [← hcl] at i5
          have := zeros_repL (m := E.m) _ _ i5
          rw [hty] at this
          exact this)
      refine ⟨(w.setRow g (cur.toList.take (a * s.size) ++ (Builtin.zeroCells zv.cells n).toList ++ cur.toList.drop (a * s.size + (Builtin.zeroCells zv.cells n).toList.length)).toArray), ?_, ?_, by simp only [RepV]; exact ⟨[], rfl, by simp [RepVs]⟩⟩
      · cases n with
        | zero => omega
        | succ n => simp [Builtin.clear_, run_underlying hu, hzero, b1]
      · rw [sets, sets]
        rw [List.length_replicate] at b2
        exact b2

/-- rows of no elements, as many as there are slices among fresh cells -/
theorem Sim.zerosR [tI : Tst] : ∀ (ts : List Ty) (id : Nat) {E : Env} {S : List Ent} {w : World} {zs : List Value}, Sim base w0 E S w → (∀ j, id ≤ j → j < id + slices ts → ¬ E.live j ∧ j < S.length) → zerosB ts zs = true →
    ∃ E', E.Le E' ∧ Sim base w0 E' (sets S (zeroRows ts id)) w ∧ RepVs E' (Ev.zerosR ts id) zs ∧ (∀ z ∈ zs, z.oneCell' = true) ∧ ∀ o, E'.live o → E.live o ∨ (id ≤ o ∧ o < id + slices ts)
  | [], id, E, S, w, [], sim, _, _ => ⟨E, Env.Le.refl E, sim, by simp [Ev.zerosR, RepVs], by simp, fun _ l => .inl l⟩
  | .li t :: ts, id, E, S, w, z :: zs, sim, hid, hz => by
    simp only [zerosB, Bool.and_eq_true] at hz
    simp only [slices] at hid
    have : z = .slice none 0 0 := by
      have := hz.1
      unfold zeroB at this
      split at this <;> simp_all
    subst this
    obtain ⟨E1, k1, k2, k3, k4⟩ := sim.nilrow (hid id (Nat.le_refl _) (by omega)) t
    obtain ⟨E', h1, h2, h3, h4, h5⟩ := Sim.zerosR ts (id + 1) k2 (by
      intro j hj hj'
      obtain ⟨j1, j2⟩ := hid j (by omega) (by omega)
      refine ⟨fun l => ?_, by rw [List.length_set]; exact j2⟩
      rcases k4 j l with l | l
      · exact j1 l
      · omega) hz.2
    refine ⟨E', k1.trans h1, h2, ?_, by simpa [Value.oneCell'] using h4, ?_⟩
    · simp only [Ev.zerosR, RepVs]; exact ⟨RepV.mono h1 _ _ k3, h3⟩
    · intro o l
      simp only [slices]
      rcases h5 o l with l | l
      · rcases k4 o l with l | l
        · exact .inl l
        · right; omega
      · right; omega
  | .bo :: ts, id, E, S, w, z :: zs, sim, hid, hz => by
    simp only [zerosB, Bool.and_eq_true] at hz
    obtain ⟨E', h1, h2, h3, h4, h5⟩ := Sim.zerosR ts id sim hid hz.2
    have : z = .bool false := by have := hz.1; unfold zeroB at this; split at this <;> simp_all
    subst this
    refine ⟨E', h1, h2, ?_, by simpa [Value.oneCell'] using h4, h5⟩
    simp only [Ev.zerosR, RepVs]; exact ⟨rep_bool false, h3⟩
  | .it k :: ts, id, E, S, w, z :: zs, sim, hid, hz => by
    simp only [zerosB, Bool.and_eq_true] at hz
    obtain ⟨E', h1, h2, h3, h4, h5⟩ := Sim.zerosR ts id sim hid hz.2
    have : z = .int k 0 := by have := hz.1; cases z <;> simp [zeroB] at this; simp [this]
    subst this
    refine ⟨E', h1, h2, ?_, by simpa [Value.oneCell'] using h4, h5⟩
    have hr := range_neg k
    simp only [Ev.zerosR, RepVs]; exact ⟨rep_int (n := 0) ⟨hr.1, hr.2.1⟩, h3⟩
  | .st :: ts, id, E, S, w, z :: zs, sim, hid, hz => by
    simp only [zerosB, Bool.and_eq_true] at hz
    obtain ⟨E', h1, h2, h3, h4, h5⟩ := Sim.zerosR ts id sim hid hz.2
    have : ∃ s : ByteArray, z = .string s ∧ s.size = 0 := by have := hz.1; cases z <;> simp [zeroB] at this; exact ⟨_, rfl, by simp [this]⟩
    obtain ⟨s, rfl, hs⟩ := this
    refine ⟨E', h1, h2, ?_, by simpa [Value.oneCell'] using h4, h5⟩
    simp only [Ev.zerosR, RepVs]
    refine ⟨rep_str_iff.2 ⟨s, rfl, ?_, by simp [hs, maxL]⟩, h3⟩
    have : (strInts s).length = 0 := by simp [strInts, hs]
    exact List.eq_nil_of_length_eq_zero this
  | .ni :: ts, id, E, S, w, z :: zs, sim, hid, hz => by
    simp only [zerosB, Bool.and_eq_true] at hz
    obtain ⟨E', h1, h2, h3, h4, h5⟩ := Sim.zerosR ts id sim hid hz.2
    have : z = .pointer none := by have := hz.1; unfold zeroB at this; split at this <;> simp_all
    subst this
    refine ⟨E', h1, h2, ?_, by simpa [Value.oneCell'] using h4, h5⟩
    simp only [Ev.zerosR, RepVs]; exact ⟨rep_nil_iff.2 rfl, h3⟩
  | .ue :: ts, id, E, S, w, z :: zs, sim, _, hz => by simp [zerosB, zeroB] at hz
  | .co _ _ :: ts, id, E, S, w, z :: zs, sim, _, hz => by simp [zerosB, zeroB] at hz
  | .ar _ _ :: ts, id, E, S, w, z :: zs, sim, _, hz => by simp [zerosB, zeroB] at hz
  | [], _, _, _, _, _ :: _, _, _, hz => by simp [zerosB] at hz
  | _ :: _, _, _, _, _, [], _, _, hz => by simp [zerosB] at hz
theorem zeroRows_ne : ∀ (ts : List Ty) (id : Nat), ∀ x ∈ zeroRows ts id, id ≤ x.1
  | [], _, _, h => by simp [zeroRows] at h
  | t :: ts, id, x, h => by
    cases t <;> simp only [zeroRows, List.mem_cons] at h <;> first
      | exact zeroRows_ne ts id x h
      | (rcases h with rfl | h
         · exact Nat.le_refl _
         · have := zeroRows_ne ts (id + 1) x h; omega)
theorem zeroRows_lt : ∀ (ts : List Ty) (id : Nat), ∀ x ∈ zeroRows ts id, x.1 < id + slices ts
  | [], _, _, h => by simp [zeroRows] at h
  | t :: ts, id, x, h => by
    cases t <;> simp only [zeroRows, List.mem_cons] at h <;> simp only [slices] <;> first
      | exact zeroRows_lt ts id x h
      | (rcases h with rfl | h
         · simp only []; omega
         · have := zeroRows_lt ts (id + 1) x h; omega)
theorem allocR_ok [tI : Tst] (hC : RowsOK P C) (sim : Sim base w0 E S w) {t : TypeId} (hg : (C.row t).td.good = true) {id : Nat} (hid : ∀ j, id ≤ j → j < id + (1 + slices (C.row t).cells) → ¬ E.live j ∧ j < S.length) :
    ∃ u w' E', (Instr.alloc t true (.tuple #[])).run P w = .ok u w' ∧ E.Le E' ∧ Sim base w0 E' (sets S ((id, .obj (Ev.zerosR (C.row t).cells (id + 1))) :: zeroRows (C.row t).cells (id + 1))) w' ∧ RepV E' (.p id 0) u ∧
      ∀ o, E'.live o → E.live o ∨ (id ≤ o ∧ o < id + (1 + slices (C.row t).cells)) := by
  obtain ⟨i, z, h1, h2, h3, h4, h5⟩ := (hC.row hg).info
  obtain ⟨E1, k1, k2, k3, k4, k5⟩ := sim.zerosR (C.row t).cells (id + 1) (fun j hj hj' => hid j (by omega) (by omega)) h5
  obtain ⟨i1, i2⟩ := hid id (Nat.le_refl _) (by omega)
  have i1' : ¬ E1.live id := by intro l; rcases k5 id l with l | l; exact i1 l; omega
  obtain ⟨E2, l1, l2, l3, l4⟩ := k2.obj i1' (by rw [length_sets]; exact i2) t k3 k4
  refine ⟨_, w.alloc (.cells z.cells.toList.toArray t), E2, ?_, k1.trans l1, ?_, l3, ?_⟩
  · have hz : (zeroValue t).run P w = .ok z w := by simp [zeroValue, typeInfo, h1, h4]
    simp only [Instr.alloc, Sem.run_bind, Sem.run_pure, Result.andThen_ok, hz, newVar, newRow, Array.toArray_toList]
    rfl
  · simp only [sets]
    rw [sets_set _ _ _ _ (fun x hx => by have := zeroRows_ne _ _ x hx; omega)]
    simpa using l2
  · intro o l
    rcases l4 o l with l | rfl
    · rcases k5 o l with l | l
      · exact .inl l
      · right; omega
    · right; omega
/-- a row is made -/
theorem makeRow_ok [tI : Tst] (hC : RowsOK P C) (sim : Sim base w0 E S w) {t e : TypeId} (ht : (C.row t).td = .slice e) {id : Nat} (hid : ¬ E.live id ∧ id < S.length) {n m : Int} (h0 : 0 ≤ n) (h1 : n ≤ m) (hb : m.toNat * (C.row e).bytes ≤ 140737488355328) :
    ∃ u w' E', (Instr.makeSlice t (.int .i64 n) (.int .i64 m)).run P w = .ok u w' ∧ E.Le E' ∧ Sim base w0 E' (S.set id (.row 0 (C.row e).ty (List.replicate m.toNat (C.row e).ty.dflt))) w' ∧ RepV E' (.sr id 0 0 n.toNat (C.row e).ty.size .full) u ∧ ∀ o, E'.live o → E.live o ∨ o = id := by
  obtain ⟨hu, -, -, he, hpos⟩ := hC.slice ht
  obtain ⟨i, zv, i1, i2, i3, i4, i5⟩ := (hC.row he).info
  have hsz := (hC.row he).size
  have hby := ((hC.row he).byte).resolve_left (by omega)
  have hmm : m.toNat ≤ m.toNat * (C.row e).bytes := Nat.le_mul_of_pos_right _ hby
  have hzl : zv.cells.size = (C.row e).ty.size := by
    have h1 := (zeros_rep (E := E) _ _ i5).1.length
    have h2 := (hC.row he).cells
    rw [List.length_map] at h1
    rw [← Array.length_toList, ← h1, hsz]; omega
  have hb1 : (i.bytes : Int) * m ≤ 281474976710656 := by
    have h2 : ((m.toNat * (C.row e).bytes : Nat) : Int) = ((C.row e).bytes : Int) * m := by rw [Int.natCast_mul, Int.toNat_of_nonneg (by omega), Int.mul_comm]
    rw [i3, ← h2]; omega
  have hrun := run_make (P := P) w t e i zv hu i1 i4 .i64 .i64 n m h0 h1 hb1 (by omega)
  have hisz : i.size = (C.row e).ty.size := by rw [i2, hsz]
  have hmc : (madeCells zv.cells (m.toNat * i.size)).toList = (List.replicate m.toNat zv.cells.toList).flatten := by
    have := zeroCells_list zv.cells (by rw [hzl, hsz]; exact hpos) m.toNat
    rw [← this]
    simp only [madeCells, Builtin.zeroCells, hisz, hzl]
  have hfl : ∀ q, ((List.replicate q zv.cells.toList).flatten).length = q * (C.row e).ty.size := by
    intro q; simp [hzl]
  obtain ⟨E', k1, k2, k3, k4⟩ := sim.newrow hid (t := (C.row e).ty) (xs := List.replicate m.toNat (C.row e).ty.dflt) (Wider.alloc w _) (cur := madeCells zv.cells (m.toNat * i.size)) (cap := m.toNat) (n := n.toNat) (heap_alloc_new w _) (by rw [size_madeCells, hisz]; exact Nat.le_refl _) (by rw [List.length_replicate]; exact Nat.le_refl _) (by simp only [maxLen]; omega) (by omega) (by simp only [maxL]; omega) (by
    intro q hq
    rw [List.length_replicate] at hq
    rw [List.getElem_replicate, hmc]
    have : ((List.replicate m.toNat zv.cells.toList).flatten.drop (q * (C.row e).ty.size)).take (C.row e).ty.size = zv.cells.toList := by
      have e' : m.toNat = q + ((m.toNat - q - 1) + 1) := by omega
      rw [e', ← List.replicate_append_replicate, List.flatten_append, ← hfl q, List.drop_left, List.replicate_succ, List.flatten_cons, ← hzl, ← Array.length_toList, List.take_left]
    rw [this]
    have hcl := (hC.row he).flat
    rw [← hcl] at i5
    exact zeros_repL (m := E.m) _ _ i5)
  exact ⟨_, _, E', hrun, k1, k2, k3, k4⟩
/-- a row is built of its parts -/
theorem buildRow_gen [tI : Tst] (hC : RowsOK P C) (sim : Sim base w0 E S w) {t e : TypeId} {n : Nat} {ps : Array (Nat × Operand)} {vps : List (Nat × V)} {q : Operand → Value} (hfst : vps.map (·.1) = ps.toList.map (·.1))
    (hr : ∀ (i : Nat) (a : Nat × V) (b : Nat × Operand), vps[i]? = some a → ps.toList[i]? = some b → RepV E a.2 (q b.2)) {id : Nat} (hid : ¬ E.live id ∧ id < S.length)
    (ht : (C.row t).td = .slice e) (hn : ps.size = n ∧ n * (C.row e).size ≤ 16777216) {xs : List (C.row e).ty.den} (hx : elemsV (C.row e).ty 0 vps = some xs) :
    ∃ z w' E', (Instr.buildSlice t n (ps.map fun (i, x) => (i, q x))).run P w = .ok z w' ∧ E.Le E' ∧ Sim base w0 E' (S.set id (.row 0 (C.row e).ty xs)) w' ∧ RepV E' (.sr id 0 0 (List.length xs) (C.row e).ty.size .full) z ∧ ∀ o, E'.live o → E.live o ∨ o = id := by
  obtain ⟨hu, -, -, he, hpos⟩ := hC.slice ht
  have hes := size_pos_info (P := P) (w := w) hC he
  obtain ⟨i, zv, h1, h2, h3, h4, h5⟩ := (hC.row he).info
  have hcells := (hC.row he).cells
  have hty := (hC.row he).size
  have hzl : zv.cells.size = (C.row e).size := by
    have := (zeros_rep (E := E) _ _ h5).1.length
    simp at this; omega
  have hzero : (zeroValue e).run P w = .ok zv w := by simp [zeroValue, typeInfo, h1, h4]
  obtain ⟨hn1, hn2⟩ := hn
  let start : Array Value := (Array.range (n * (C.row e).size)).map ((if n * (C.row e).size = 0 then #[] else zv.cells)[· % (if n * (C.row e).size = 0 then #[] else zv.cells).size]!)
  have hstart : start.size = n * (C.row e).size := by simp [start]
  have hvl : vps.length = ps.size := by have := congrArg List.length hfst; simpa using this
  obtain ⟨cells, m1, m2, m3, m4, m5⟩ := fill_elems (E := E) hty vps (ps.map fun (i, x) => (i, q x)).toList 0 xs start hx (by rw [hfst]; simp) (by
    intro i a b ha hb
    simp only [List.getElem?_map, Option.map_eq_some_iff, Array.toList_map] at hb
    obtain ⟨d, hd, rfl⟩ := hb
    exact hr i a d ha hd) (by rw [hstart]; simp [hn1, hvl])
  have hxl : List.length xs = n := by rw [m3, hvl, hn1]
  have hnn : n ≤ 16777216 := Nat.le_trans (Nat.le_mul_of_pos_right n hpos) hn2
  have hcl : cells.toList.length = n * (C.row e).ty.size := by rw [Array.length_toList, m2, hstart, hty]
  obtain ⟨E', k1, k2, k3, k4⟩ := sim.newrow hid (t := (C.row e).ty) (xs := xs) (Wider.alloc w (.cells cells e)) (cur := cells) (ty := e) (cap := n) (n := n) (by simpa using heap_alloc_new w (.cells cells e))
    (by rw [Array.length_toList] at hcl; omega) (by omega) (by simp only [maxLen]; omega) (Nat.le_refl _) (by simp only [maxL]; omega) (fun i hi => by
      have := m5 i hi
      simp only [Nat.zero_add] at this
      rw [hty]; exact this)
  refine ⟨_, _, E', ?_, k1, k2, by rw [hxl]; exact k3, k4⟩
  have hbig : ¬ (n * (C.row e).size > 2 ^ 24) := by omega
  have hfill : Instr.fill (fun i => some (i * (C.row e).size, (C.row e).size)) start (ps.map fun (i, x) => (i, q x)).toList = some cells := m1
  by_cases h0 : n * (C.row e).size = 0
  · have hs0 : start = (Array.range (n * (C.row e).size)).map (fun x => (#[] : Array Value)[x % (#[] : Array Value).size]!) := by simp only [start, h0, if_true]
    rw [hs0] at hfill
    simp only [Instr.buildSlice, Sem.run_bind, run_underlying hu, Result.andThen_ok, hes, Sem.run_ite, if_neg hbig, Sem.run_pure, if_pos h0, hfill, newRow]
    rfl
  · have hs0 : start = (Array.range (n * (C.row e).size)).map (fun x => zv.cells[x % zv.cells.size]!) := by simp only [start, h0, if_false]
    rw [hs0] at hfill
    simp only [Instr.buildSlice, Sem.run_bind, run_underlying hu, Result.andThen_ok, hes, Sem.run_ite, if_neg hbig, Sem.run_pure, if_neg h0, hzero, hfill, newRow]
    rfl

theorem buildRow_ok [tI : Tst] (hC : RowsOK P C) (sim : Sim base w0 E S w) {t e : TypeId} {n : Nat} {ps : Array (Nat × Operand)} {r : Operand → V} {q : Operand → Value} (hr : ∀ x, RepV E (r x) (q x)) {id : Nat} (hid : ¬ E.live id ∧ id < S.length)
    (ht : (C.row t).td = .slice e) (hn : ps.size = n ∧ n * (C.row e).size ≤ 16777216) {xs : List (C.row e).ty.den} (hx : elemsV (C.row e).ty 0 (ps.toList.map fun (i, x) => (i, r x)) = some xs) :
    ∃ z w' E', (Instr.buildSlice t n (ps.map fun (i, x) => (i, q x))).run P w = .ok z w' ∧ E.Le E' ∧ Sim base w0 E' (S.set id (.row 0 (C.row e).ty xs)) w' ∧ RepV E' (.sr id 0 0 (List.length xs) (C.row e).ty.size .full) z ∧ ∀ o, E'.live o → E.live o ∨ o = id := by
  refine buildRow_gen hC sim (by simp) ?_ hid ht hn hx
  intro i a b ha hb
  simp only [List.getElem?_map, Option.map_eq_some_iff] at ha
  obtain ⟨c, hc, rfl⟩ := ha
  rw [hc] at hb
  simp only [Option.some.injEq] at hb; subst hb
  exact hr _
end
end Go.Proofs.Ytmpmmfbgdpfnpaa.Ev
/- Rows as data: read for the time of a call; written to no more. -/
namespace Go.Proofs.Ytmpmmfbgdpfnpaa.Ev
open Go Go.RowKit
set_option linter.unusedVariables false
set_option linter.unusedSimpArgs false

def memOf (w : World) : Mem := fun b j => w.cell? ⟨b, j, none⟩
theorem memOf_lies (w : World) : (memOf w).lies w := fun _ _ _ h => h
def Env.of (m : Mem) : Env := ⟨m, fun _ => 0, fun _ => 0, fun _ => undef, fun _ => 0, fun _ => none, fun _ => False, m, fun _ => False, fun _ _ => none⟩

section
variable {P : Program} {C : Ctx} {E : Env} {w w0 : World} {base : Nat} {S : List Ent}

/-- a window of a row is data of a memory that knows the row -/
theorem sr_data [tI : Tst] {o k a n z : Nat} {c : SCap} {u : Value} {s : Ty} {xs : List s.den} {M : Mem} (hm : E.m.le M) (hx : RepV E (.sr o k a n z c) u) (hk : k = E.len o) (hz : E.sz o = s.size) (hb : a + n ≤ List.length xs)
    (hM : ∀ p l cap, E.plc o = .slice (some p) l cap → ∀ i (h : i < List.length xs), ∃ vs, Lies M p.block (p.off + i * s.size) vs ∧ RepL E.m s xs[i] vs) : RepL M (.li s) (List.take n (List.drop a xs)) [u] := by
  simp only [RepV] at hx
  obtain ⟨-, q2, -, q4, ad, cp, rfl, q5, q6, q7, q8⟩ := hx
  have hw := q8 hk
  have hlen : List.length (List.take n (List.drop a xs)) = n := by rw [List.length_take, List.length_drop]; omega
  refine ⟨ad, cp, by rw [hlen], by rw [hlen]; exact q5, by rw [hlen]; exact q4, q6, ?_⟩
  generalize hp : E.plc o = pl at hw
  unfold Win at hw
  split at hw
  · rename_i p l cap
    obtain ⟨ad0, rfl, w1, w2, w3⟩ := hw
    simp only []
    refine ⟨fun h => by rw [w1 h], fun i hi => ?_⟩
    have hi' := hi
    rw [hlen] at hi'
    obtain ⟨vs, v1, v2⟩ := hM p _ _ hp (a + i) (by omega)
    refine ⟨vs, ?_, ?_⟩
    · rw [w1 (by omega)]
      simp only []
      rw [show p.off + a * z + i * s.size = p.off + (a + i) * s.size from by rw [← q2, hz, Nat.add_mul, Nat.add_assoc]]
      exact v1
    · rw [List.getElem_take, List.getElem_drop]
      exact RepL.mono hm _ _ _ v2
  · obtain ⟨rfl, rfl, rfl, rfl⟩ := hw
    exact ⟨hlen, rfl⟩
  · exact hw.elim

theorem le_memOf [tI : Tst] (sim : Sim base w0 E S w) : E.m.le (memOf w) := fun b j v h => sim.mem b j v h
theorem sr_memOf [tI : Tst] (sim : Sim base w0 E S w) {o k j a n z : Nat} {c : SCap} {u : Value} {s : Ty} {xs : List s.den} (hrow : rowOf (ent S o) = some (j, ⟨s, xs⟩)) (hx : RepV E (.sr o k a n z c) u) (hk : k = j) (hb : a + n ≤ List.length xs) :
    RepL (memOf w) (.li s) (List.take n (List.drop a xs)) [u] := by
  obtain ⟨r1, r2, r3, r4⟩ := row_reads sim hrow
  refine sr_data (le_memOf sim) hx (hk.trans r2) r3 hb ?_
  intro p l cap hp i hi
  obtain ⟨zs, q1, q2⟩ := r4 p l cap hp i hi
  exact ⟨zs, fun k z hz => q1 k z hz, q2⟩

/-! ### read for a call's time -/
/-- what is told of a value read as data -/
def DatRes (S : List Ent) (v v' : V) : Prop := ∀ (base : Nat) (w0 : World) (E : Env) (w : World) (u : Value), Sim base w0 E S w → RepV E v u → RepV (Env.of (memOf w)) v' u
def DatsRes (S : List Ent) (vs vs' : List V) : Prop := ∀ (base : Nat) (w0 : World) (E : Env) (w : World) (us : List Value), Sim base w0 E S w → RepVs E vs us → RepVs (Env.of (memOf w)) vs' us
theorem DatsRes.nil [tI : Tst] : DatsRes S [] [] := by
  intro base w0 E w us sim hr
  cases us with
  | nil => simp [RepVs]
  | cons _ _ => simp [RepVs] at hr
theorem DatsRes.cons [tI : Tst] {v v' : V} {vs vs' : List V} (h : DatRes S v v') (hs : DatsRes S vs vs') : DatsRes S (v :: vs) (v' :: vs') := by
  intro base w0 E w us sim hr
  cases us with
  | nil => simp [RepVs] at hr
  | cons u us =>
    simp only [RepVs] at hr ⊢
    exact ⟨h base w0 E w u sim hr.1, hs base w0 E w us sim hr.2⟩
theorem dat1_ok [tI : Tst] {R : Type} {v : V} {k : V → Option R} {r : R} (h : dat1 S v k = some r) : ∃ v', k v' = some r ∧ DatRes S v v' := by
  unfold dat1 at h
  split at h
  · rename_i o j a n z c
    split at h
    · rename_i i t xs hrow
      cases hb : (tst (j = i) && tst (a + n ≤ List.length xs)) with
      | false => rw [hb] at h; simp [br] at h
      | true =>
        rw [hb] at h
        simp only [br] at h
        simp only [Bool.and_eq_true, tst_iff] at hb
        refine ⟨_, h, ?_⟩
        intro base w0 E w u sim hx
        simp only [RepV]
        exact repl_sub.1 (sr_memOf sim hrow hx hb.1 hb.2)
    · simp at h
  · refine ⟨_, h, ?_⟩
    intro base w0 E w u sim hx
    simp only [RepV] at hx ⊢
    exact hx.1.mono (le_memOf sim)
  · refine ⟨_, h, ?_⟩
    intro base w0 E w u sim hx
    simp only [RepV] at hx ⊢
    exact hx.mono (le_memOf sim)
  · refine ⟨_, h, ?_⟩
    intro base w0 E w u sim hx
    simp only [RepV] at hx ⊢
    exact hx
  · simp at h
theorem datC_ok [tI : Tst] {R : Type} : ∀ {vs : List V} {k : List V → Option R} {r : R}, datC S vs k = some r → ∃ vs', k vs' = some r ∧ DatsRes S vs vs'
  | [], k, r, h => ⟨[], h, DatsRes.nil⟩
  | c :: cs, k, r, h => by
    rw [datC] at h
    obtain ⟨v', h1, h2⟩ := dat1_ok h
    obtain ⟨vs', h3, h4⟩ := datC_ok h1
    exact ⟨v' :: vs', h3, DatsRes.cons h2 h4⟩
theorem datV_ok [tI : Tst] {R : Type} {v : V} {k : V → Option R} {r : R} (h : datV S v k = some r) : ∃ v', k v' = some r ∧ DatRes S v v' := by
  unfold datV at h
  split at h
  · rename_i cs
    obtain ⟨vs', h3, h4⟩ := datC_ok h
    refine ⟨_, h3, ?_⟩
    intro base w0 E w u sim hx
    simp only [RepV] at hx ⊢
    obtain ⟨us, rfl, h1, h2⟩ := hx
    exact ⟨us, rfl, h4 base w0 E w us sim h1, h2⟩
  · exact dat1_ok h
theorem datA_ok [tI : Tst] {R : Type} : ∀ {vs : List V} {k : List V → Option R} {r : R}, datA S vs k = some r → ∃ vs', k vs' = some r ∧ DatsRes S vs vs'
  | [], k, r, h => ⟨[], h, DatsRes.nil⟩
  | c :: cs, k, r, h => by
    rw [datA] at h
    obtain ⟨v', h1, h2⟩ := datV_ok h
    obtain ⟨vs', h3, h4⟩ := datA_ok h1
    exact ⟨v' :: vs', h3, DatsRes.cons h2 h4⟩

theorem setE_eqF {R : Type} : ∀ (S : List Ent) (n : Nat) (e : Ent) (k : List Ent → R), setE S n e k = k (S.set n e)
  | [], n, e, k => by simp [setE]
  | u :: S, 0, e, k => by simp [setE]
  | u :: S, n + 1, e, k => by rw [setE, setE_eqF S n e]; simp
/-! ### written to no more -/
theorem Sim.freeze [tI : Tst] (sim : Sim base w0 E S w) {o k : Nat} {t : Ty} {xs : List t.den} (hent : ent S o = .row k t xs) :
    ∃ E', E.Le E' ∧ Sim base w0 E' (S.set o (.frz k t xs)) w ∧ (∀ i, E'.live i ↔ E.live i) ∧ (∀ i, E'.len i = E.len i) := by
  have he := sim.ents o
  rw [hent] at he
  obtain ⟨e1, e2, e3, e4⟩ := he
  have hlt := sim.lt o e1
  unfold RowAt at e4
  cases hex : E.ex o with
  | none =>
    rw [hex] at e4
    obtain ⟨rfl, a, hp⟩ := e4
    refine ⟨E, Env.Le.refl E, ?_, fun _ => Iff.rfl, fun _ => rfl⟩
    refine sim.retell hlt (by rw [hent]; simp [owns, hex]) ⟨e1, e2, e3, ?_⟩
    unfold ReadAt
    rw [hp]
    cases a with
    | none => rfl
    | some p => exact ⟨fun h => by omega, by simp, fun i hi => by simp at hi⟩
  | some g =>
    rw [hex] at e4
    obtain ⟨cap, l, cur, ty, f1, f2, f3, f4, f5, f6, f7, f8⟩ := e4
    let m' : Mem := fun b j => if b = g ∧ j < List.length xs * t.size then cur.toList[j]? else E.m b j
    have hmle : E.m.le m' := by
      intro b j v hv
      simp only [m']
      rw [if_neg]
      · exact hv
      · rintro ⟨rfl, -⟩
        rw [f8] at hv; simp at hv
    have hle : E.Le (E.setM m') := Env.le_setM hmle
    have hown : owns E o (ent S o) = some g := by rw [hent]; exact hex
    refine ⟨E.setM m', hle, ?_, fun _ => Iff.rfl, fun _ => rfl⟩
    refine sim.step hle (below_toX (Below.refl _ _)) (fun i => i = o) ?_ ?_ ?_ ?_ ?_ ?_ (fun i l => by rw [List.length_set]; exact sim.lt _ l) ?_
    · intro i hi
      exact ⟨ent_set_ne _ hi, fun _ => ⟨rfl, rfl⟩⟩
    · intro i B hi hB
      refine ⟨rfl, fun j => ?_⟩
      show m' B j = _
      simp only [m']
      rw [if_neg]
      rintro ⟨rfl, -⟩
      exact sim.apart i o _ hi hB hown
    · intro b j v hv
      have hv2 : (if b = g ∧ j < List.length xs * t.size then cur.toList[j]? else E.m b j) = some v := hv
      by_cases hc : b = g ∧ j < List.length xs * t.size
      · rw [if_pos hc] at hv2
        obtain ⟨rfl, hj⟩ := hc
        simp only [World.cell?, f3, Option.isSome_none, Bool.false_eq_true, if_false]
        rw [← Array.getElem?_toList]; exact hv2
      · rw [if_neg hc] at hv2
        exact sim.mem b j v hv2
    · rintro i rfl
      rw [ent_set_same _ hlt]
      refine ⟨e1, e2, e3, ?_⟩
      unfold ReadAt
      show match E.plc i with | .slice (some p) _ cap => _ | .slice none _ _ => _ | _ => _
      rw [f1]
      refine ⟨fun _ => rfl, f4, fun j hj => ⟨_, ?_, RepL.mono hmle _ _ _ (f7 j hj)⟩⟩
      intro q v hv
      rw [List.getElem?_take] at hv
      split at hv
      · rename_i hq
        rw [List.getElem?_drop] at hv
        show m' g _ = _
        simp only [m', Nat.zero_add]
        rw [if_pos]
        · exact hv
        · refine ⟨trivial, ?_⟩
          have := Nat.mul_le_mul_right t.size (show j + 1 ≤ List.length xs from hj)
          rw [Nat.add_mul, Nat.one_mul] at this; omega
      · simp at hv
    · rintro i B rfl hB
      rw [ent_set_same _ hlt] at hB
      simp [owns] at hB
    · rintro i i' B rfl rfl hne; exact absurd rfl hne
    · intro b hb j
      show m' b j = _
      simp only [m']
      rw [if_neg (fun h => by have := h.1; omega)]

/-- what a frozen row shows is data -/
theorem frz_data [tI : Tst] (sim : Sim base w0 E S w) {o k j a n z : Nat} {c : SCap} {u : Value} {s : Ty} {xs : List s.den} (hent : ent S o = .frz j s xs) (hx : RepV E (.sr o k a n z c) u) (hk : k = j) (hb : a + n ≤ List.length xs) : RepV E (.d (.li s) (List.take n (List.drop a xs))) u := by
  have he := sim.ents o
  rw [hent] at he
  obtain ⟨e1, e2, e3, e4⟩ := he
  simp only [RepV]
  refine repl_sub.1 (sr_data (Mem.le.refl _) hx (hk.trans e2) e3 hb ?_)
  intro p l cap hp i hi
  unfold ReadAt at e4
  rw [hp] at e4
  exact e4.2.2 i hi

/-- what is told of a value whose rows are written to no more -/
def FrzRes (S : List Ent) (v : V) (S' : List Ent) (v' : V) : Prop := S'.length = S.length ∧ ∀ (base : Nat) (w0 : World) (E : Env) (w : World) (u : Value), Sim base w0 E S w → RepV E v u → ∃ E', E.Le E' ∧ Sim base w0 E' S' w ∧ RepV E' v' u ∧ ∀ i, E'.live i → E.live i
def FrzsRes (S : List Ent) (vs : List V) (S' : List Ent) (vs' : List V) : Prop := S'.length = S.length ∧ ∀ (base : Nat) (w0 : World) (E : Env) (w : World) (us : List Value), Sim base w0 E S w → RepVs E vs us → ∃ E', E.Le E' ∧ Sim base w0 E' S' w ∧ RepVs E' vs' us ∧ ∀ i, E'.live i → E.live i
theorem FrzsRes.nil [tI : Tst] : FrzsRes S [] S [] := by
  refine ⟨rfl, ?_⟩
  intro base w0 E w us sim hr
  exact ⟨E, Env.Le.refl E, sim, hr, fun _ l => l⟩
theorem FrzsRes.cons [tI : Tst] {S S1 S2 : List Ent} {v v' : V} {vs vs' : List V} (h : FrzRes S v S1 v') (hs : FrzsRes S1 vs S2 vs') : FrzsRes S (v :: vs) S2 (v' :: vs') := by
  refine ⟨hs.1.trans h.1, ?_⟩
  intro base w0 E w us sim hr
  cases us with
  | nil => simp [RepVs] at hr
  | cons u us =>
    simp only [RepVs] at hr
    obtain ⟨E1, k1, k2, k3, k4⟩ := h.2 base w0 E w u sim hr.1
    obtain ⟨E2, l1, l2, l3, l4⟩ := hs.2 base w0 E1 w us k2 (RepVs.mono k1 _ _ hr.2)
    exact ⟨E2, k1.trans l1, l2, by simp only [RepVs]; exact ⟨RepV.mono l1 _ _ k3, l3⟩, fun i l => k4 i (l4 i l)⟩
theorem frz1_ok [tI : Tst] {R : Type} {S : List Ent} {v : V} {k : V → List Ent → Option R} {r : R} (h : frz1 S v k = some r) : ∃ v' S', k v' S' = some r ∧ FrzRes S v S' v' := by
  unfold frz1 at h
  split at h
  · rename_i o j a n z c
    split at h
    · rename_i i t xs hent
      cases hb : (tst (j = i) && tst (a + n ≤ List.length xs)) with
      | false => rw [hb] at h; simp [br] at h
      | true =>
        rw [hb] at h
        simp only [br] at h
        rw [setE_eqF] at h
        simp only [Bool.and_eq_true, tst_iff] at hb
        refine ⟨_, _, h, by rw [List.length_set], ?_⟩
        intro base w0 E w u sim hx
        obtain ⟨E', k1, k2, k3, k4⟩ := sim.freeze hent
        have hlt : o < S.length := by simp only [RepV] at hx; exact sim.lt o hx.1
        exact ⟨E', k1, k2, frz_data k2 (ent_set_same _ hlt) (RepV.mono k1 _ _ hx) hb.1 hb.2, fun i l => (k3 i).1 l⟩
    · rename_i i t xs hent
      cases hb : (tst (j = i) && tst (a + n ≤ List.length xs)) with
      | false => rw [hb] at h; simp [br] at h
      | true =>
        rw [hb] at h
        simp only [br] at h
        simp only [Bool.and_eq_true, tst_iff] at hb
        refine ⟨_, _, h, rfl, ?_⟩
        intro base w0 E w u sim hx
        exact ⟨E, Env.Le.refl E, sim, frz_data sim hent hx hb.1 hb.2, fun _ l => l⟩
    · simp at h
  · refine ⟨_, _, h, rfl, ?_⟩
    intro base w0 E w u sim hx
    exact ⟨E, Env.Le.refl E, sim, hx, fun _ l => l⟩
theorem frzC_ok [tI : Tst] {R : Type} : ∀ {vs : List V} {S : List Ent} {k : List V → List Ent → Option R} {r : R}, frzC S vs k = some r → ∃ vs' S', k vs' S' = some r ∧ FrzsRes S vs S' vs'
  | [], S, k, r, h => ⟨[], S, h, FrzsRes.nil⟩
  | c :: cs, S, k, r, h => by
    rw [frzC] at h
    obtain ⟨v', S1, h1, h2⟩ := frz1_ok h
    obtain ⟨vs', S2, h3, h4⟩ := frzC_ok h1
    exact ⟨v' :: vs', S2, h3, FrzsRes.cons h2 h4⟩
theorem frzV_ok [tI : Tst] {R : Type} {S : List Ent} {v : V} {k : V → List Ent → Option R} {r : R} (h : frzV S v k = some r) : ∃ v' S', k v' S' = some r ∧ FrzRes S v S' v' := by
  unfold frzV at h
  split at h
  · rename_i cs
    obtain ⟨vs', S', h3, h4⟩ := frzC_ok h
    refine ⟨_, S', h3, h4.1, ?_⟩
    intro base w0 E w u sim hx
    simp only [RepV] at hx
    obtain ⟨us, rfl, h1, h2⟩ := hx
    obtain ⟨E', k1, k2, k3, k4⟩ := h4.2 base w0 E w us sim h1
    exact ⟨E', k1, k2, by simp only [RepV]; exact ⟨us, rfl, k3, h2⟩, k4⟩
  · exact frz1_ok h
theorem frzA_ok [tI : Tst] {R : Type} : ∀ {vs : List V} {S : List Ent} {k : List V → List Ent → Option R} {r : R}, frzA S vs k = some r → ∃ vs' S', k vs' S' = some r ∧ FrzsRes S vs S' vs'
  | [], S, k, r, h => ⟨[], S, h, FrzsRes.nil⟩
  | c :: cs, S, k, r, h => by
    rw [frzA] at h
    obtain ⟨v', S1, h1, h2⟩ := frzV_ok h
    obtain ⟨vs', S2, h3, h4⟩ := frzA_ok h1
    exact ⟨v' :: vs', S2, h3, FrzsRes.cons h2 h4⟩

/-! ### values that speak of no memory -/
theorem repL_flat {m m' : Mem} : ∀ (t : Ty) (x : t.den) (us : List Value), t.flat = true → RepL m t x us → RepL m' t x us
  | .bo, _, _, _, h => h
  | .it _, _, _, _, h => h
  | .st, _, _, _, h => h
  | .ni, _, _, _, h => h
  | .ue, _, _, _, h => h
  | .co t r, _, _, hf, h => by
    simp only [Ty.flat, Bool.and_eq_true] at hf
    obtain ⟨u1, u2, h1, h2, h3⟩ := h
    exact ⟨u1, u2, h1, repL_flat t _ _ hf.1 h2, repL_flat r _ _ hf.2 h3⟩
  | .ar n t, _, _, hf, h => ⟨h.1, h.2.1, fun i hi => repL_flat t _ _ (by simpa [Ty.flat] using hf) (h.2.2 i hi)⟩
  | .li t, _, _, hf, _ => by simp [Ty.flat] at hf
theorem flat1_rep {E E' : Env} {v : V} {u : Value} (h : flat1 v = true) (hr : RepV E v u) : RepV E' v u := by
  cases v with
  | d t x =>
    simp only [RepV] at hr ⊢
    obtain ⟨us, h1, h2⟩ := hr
    exact ⟨us, repL_flat t x us h h1, h2⟩
  | un => simpa [RepV] using hr
  | _ => simp [flat1] at h
theorem flatR_rep {E E' : Env} {v : V} {u : Value} (h : flatR v = true) (hr : RepV E v u) : RepV E' v u := by
  cases v with
  | tup vs =>
    simp only [flatR] at h
    simp only [RepV] at hr ⊢
    obtain ⟨us, h1, h2⟩ := hr
    refine ⟨us, h1, ?_⟩
    clear h1
    induction vs generalizing us with
    | nil => cases us with
      | nil => simp [RepVs]
      | cons _ _ => simp [RepVs] at h2
    | cons v vs ih => cases us with
      | nil => simp [RepVs] at h2
      | cons u us =>
        simp only [List.all_cons, Bool.and_eq_true] at h
        simp only [RepVs] at h2 ⊢
        exact ⟨flat1_rep h.1 h2.1, ih h.2 us h2.2⟩
  | d t x => exact flat1_rep (v := .d t x) h hr
  | un => exact flat1_rep (v := .un) h hr
  | _ => simp [flatR, flat1] at h
end
end Go.Proofs.Ytmpmmfbgdpfnpaa.Ev
/- All operations at once. -/
namespace Go.Proofs.Ytmpmmfbgdpfnpaa.Ev
open Go Go.RowKit
set_option linter.unusedVariables false
set_option linter.unusedSimpArgs false

section
variable {P : Program} {C : Ctx} {E : Env} {w w0 : World} {base : Nat} {S : List Ent}

theorem append_ok [tI : Tst] (hC : RowsOK P C) (sim : Sim base w0 E S w) {st xt tt : TypeId} {id : Nat} {s x v : V} {u y : Value} {us : List (Nat × Ent)} {g hint : Bool} (h : appendV C id S hint st xt s x = some (g, v, us)) (hg : g = true) (hs : RepV E s u) (hx : RepV E x y)
    (hid : ¬ E.live id ∧ id < S.length) :
    ∃ z w' E', (Builtin.append_ #[st, xt] tt #[u, y]).run P w = .ok z w' ∧ E.Le E' ∧ Sim base w0 E' (sets S us) w' ∧ RepV E' v z ∧ ∀ i, E'.live i → E.live i ∨ i = id := by
  unfold appendV at h
  split at h
  case h_2 => simp at h
  rename_i e hst
  rw [forceTy_eq] at h
  simp only [Option.bind_eq_some_iff] at h
  obtain ⟨⟨g1, ys⟩, hn, h⟩ := h
  simp only at h hn
  unfold newsV at hn
  have arg : g1 = true → List.length ys * (C.row e).bytes ≤ 140737488355328 → ∃ news, AppArg P C E w st xt tt e y (C.row e).ty ys news ∧ List.length ys ≤ maxL := by
    intro hg1 hb
    split at hn
    · rename_i k j n hxt
      simp only [Option.some.injEq, Prod.mk.injEq] at hn
      obtain ⟨rfl, rfl⟩ := hn
      simp only [Bool.and_eq_true, tst_iff] at hg1
      obtain ⟨rfl, -⟩ := rep_int_iff.1 hx
      rw [List.length_replicate] at hb ⊢
      exact appArg_zeros hC hst hxt hg1.1 hg1.2 hb
    · rename_i l hxt
      simp only [Option.map_eq_some_iff, Prod.mk.injEq] at hn
      obtain ⟨l', hl, -, rfl⟩ := hn
      exact appArg_string hC hst hxt rfl hx hl
    · rename_i f o k a n z c hxt
      exact appArg_win hC sim hst hxt hx hn hg1
    · rename_i hxt _
      simp only [Option.map_eq_some_iff, Prod.mk.injEq] at hn
      obtain ⟨l', hl, -, rfl⟩ := hn
      exact appArg_slice hC sim.mem hst hxt hx hl
    · simp at hn
  have hbytes : 0 < (C.row e).size := (hC.slice hst).2.2.2.2
  have hby := ((hC.row (hC.slice hst).2.2.2.1).byte).resolve_left (by omega)
  split at h
  · split at h
    · simp only [Option.some.injEq, Prod.mk.injEq] at h
      obtain ⟨rfl, rfl, rfl⟩ := h
      simp only [Bool.and_eq_true, tst_iff] at hg
      simp only [RepV] at hs; subst hs
      obtain ⟨news, ha, hm⟩ := arg hg.1 hg.2
      exact sim.appendNil hid ha hg.2 hm
    · simp only [Option.some.injEq, Prod.mk.injEq] at h
      obtain ⟨rfl, rfl, rfl⟩ := h
      simp only [Bool.and_eq_true, tst_iff] at hg
      simp only [RepV] at hs; subst hs
      obtain ⟨news, ha, hm⟩ := arg hg.1 hg.2
      exact sim.appendNilRow hid ha hg.2 hm
  · rename_i o k n z c
    split at h
    case h_2 => simp at h
    rename_i j t' xs' hent
    simp only [Option.bind_eq_some_iff] at h
    obtain ⟨xs, hcast, h⟩ := h
    obtain ⟨he, hxs⟩ := cast_rep hcast
    simp only [Ty.li.injEq] at he
    subst he
    simp only at hxs
    subst hxs
    have main : ∀ (c' : SCap), c = c' → (c' = .full ∨ c' = .exact) → g1 = true → k = j → n ≤ List.length xs' → (n + ys.length) * (C.row e).bytes ≤ 140737488355328 →
        ∃ z' w' E', (Builtin.append_ #[st, xt] tt #[u, y]).run P w = .ok z' w' ∧ E.Le E' ∧ Sim base w0 E' (S.set o (.row (k + 1) (C.row e).ty (rowApp c' xs' ys n))) w' ∧ RepV E' (.sr o (k + 1) 0 (n + ys.length) (C.row e).ty.size .full) z' ∧ ∀ i, E'.live i → E.live i ∨ i = id := by
      rintro c' rfl hc hg1 rfl hn hb
      obtain ⟨news, ha, hm⟩ := arg hg1 (by rw [Nat.add_mul] at hb; omega)
      have hmax : n + List.length ys ≤ maxL := by
        have := Nat.le_mul_of_pos_right (n + List.length ys) hby
        simp only [maxL]; omega
      obtain ⟨z', w', E', k1, k2, k3, k4, k5⟩ := sim.appendRow hs hent hn hc ha hb hmax
      exact ⟨z', w', E', k1, k2, k3, k4, fun i l => .inl (k5 i l)⟩
    split at h
    · simp only [Option.some.injEq, Prod.mk.injEq] at h
      obtain ⟨rfl, rfl, rfl⟩ := h
      simp only [Bool.and_eq_true, tst_iff] at hg
      obtain ⟨⟨⟨h1, h2⟩, h3⟩, h4⟩ := hg
      exact main .full rfl (.inl rfl) h1 h2 h3 h4
    · simp only [Option.some.injEq, Prod.mk.injEq] at h
      obtain ⟨rfl, rfl, rfl⟩ := h
      simp only [Bool.and_eq_true, tst_iff] at hg
      obtain ⟨⟨⟨h1, h2⟩, h3⟩, h4⟩ := hg
      exact main .exact rfl (.inr rfl) h1 h2 h3 h4
    · simp at h
  · rename_i o t' xs'
    simp only [Option.bind_eq_some_iff] at h
    obtain ⟨xs, hcast, h⟩ := h
    have fam : ∀ (S1 : List Ent), Sim base w0 E S1 w → ∀ n, ent S1 o = .fam n → n = List.length xs → g1 = true → (List.length xs + ys.length) * (C.row e).bytes ≤ 140737488355328 →
        ∃ z w' E', (Builtin.append_ #[st, xt] tt #[u, y]).run P w = .ok z w' ∧ E.Le E' ∧ Sim base w0 E' (S1.set o (.fam (List.length (xs ++ ys)))) w' ∧ RepV E' (.own o (C.row e).ty (xs ++ ys)) z ∧ ∀ i, E'.live i → E.live i ∨ i = id := by
      intro S1 sim n hent hg2 hg1 hg3
      obtain ⟨he, hxs⟩ := cast_rep hcast
      simp only [Ty.li.injEq] at he
      have hs' : RepV E (.own o (C.row e).ty xs) u := by
        subst he
        simp only at hxs
        subst hxs
        exact hs
      obtain ⟨news, ha, hm⟩ := arg hg1 (by rw [Nat.add_mul] at hg3; omega)
      have hb := ((hC.row (hC.slice hst).2.2.2.1).byte).resolve_left (by omega)
      have hmax : List.length xs + List.length ys ≤ maxL := by
        have := Nat.le_mul_of_pos_right (List.length xs + List.length ys) hb
        simp only [maxL]; omega
      obtain ⟨z, w', E', k1, k2, k3, k4, k5⟩ := sim.append hs' (by rw [hent, hg2]) ha hg3 hmax
      rw [← List.length_append] at k3
      exact ⟨z, w', E', k1, k2, k3, k4, fun i l => .inl (k5 i l)⟩
    split at h
    · rename_i n hent
      simp only [Option.some.injEq, Prod.mk.injEq] at h
      obtain ⟨rfl, rfl, rfl⟩ := h
      simp only [Bool.and_eq_true, tst_iff] at hg
      obtain ⟨⟨hg1, hg2⟩, hg3⟩ := hg
      exact fam S sim n hent hg2 hg1 hg3
    · rename_i n hent
      simp only [Option.some.injEq, Prod.mk.injEq] at h
      obtain ⟨rfl, rfl, rfl⟩ := h
      simp only [Bool.and_eq_true, tst_iff] at hg
      obtain ⟨⟨hg1, hg2⟩, hg3⟩ := hg
      have hlt : o < S.length := by simp only [RepV] at hs; exact sim.lt o hs.2.1
      obtain ⟨z, w', E', k1, k2, k3, k4, k5⟩ := fam _ (sim.delit hlt hent) n (ent_set_same _ hlt) hg2 hg1 hg3
      rw [List.set_set] at k3
      exact ⟨z, w', E', k1, k2, k3, k4, k5⟩
    · simp at h
  · simp at h

theorem cell_freeze (w : World) (p : Addr) (n : Nat) (a : Addr) : (w.freeze p n).cell? a = w.cell? a := by
  unfold World.freeze
  split
  · rfl
  · unfold World.cell?
    simp only [Array.getElem?_modify]
    by_cases h : p.block = a.block
    · rw [if_pos h]
      cases hx : w.heap[a.block]? with
      | none => rfl
      | some x => cases x <;> rfl
    · rw [if_neg h]
theorem heap_freeze (w : World) (p : Addr) (n k : Nat) (h : k ≠ p.block) : (w.freeze p n).heap[k]? = w.heap[k]? := by
  unfold World.freeze
  split
  · rfl
  · simp only [Array.getElem?_modify]
    rw [if_neg (fun e => h e.symm)]
theorem convS_ok [tI : Tst] (hC : RowsOK P C) (sim : Sim base w0 E S w) {src dst : TypeId} {x v : V} {u : Value} {us : List (Nat × Ent)} {g : Bool} (h : convS C src dst x S = some (g, v, us)) (hg : g = true) (hx : RepV E x u) :
    ∃ w', (convert src dst u).run P w = .ok u w' ∧ Sim base w0 E (sets S us) w' ∧ RepV E v u := by
  unfold convS at h
  split at h
  case h_2 => simp at h
  rename_i e o xs hsd htd
  split at h
  case h_2 => simp at h
  rename_i n he hent
  simp only [Option.some.injEq, Prod.mk.injEq] at h
  obtain ⟨rfl, rfl, rfl⟩ := h
  obtain rfl := Nat.eq_of_beq_eq_true hsd
  have hn := tst_iff.1 hg
  simp only [RepV] at hx
  obtain ⟨x1, x2, x3, x4, x5⟩ := hx
  have hE := sim.ents o
  rw [hent] at hE
  obtain ⟨⟨-, e2, e3⟩, b, e4⟩ := hE
  unfold FamOK at e3
  rw [e4] at e3
  obtain ⟨cap, cur, ty, f1, f2, f3, -⟩ := e3
  have hu := x5 (by omega)
  rw [f1] at hu
  subst hu
  have hlt := sim.lt o x2
  have hown : owns E o (ent S o) = some b := by rw [hent]; exact e4
  refine ⟨w.freeze ⟨b, cur.size, none⟩ 1, ?_, ?_, by simp only [RepV]; exact x1⟩
  · have hsh : w.shape? b = some (ty, cur.size) := by simp [World.shape?, f3]
    simp [convert, run_underlying (hC.slice htd).1, run_underlying (hC.int he).1, markStringish, hsh]
  · refine sim.step (Env.Le.refl E) ?_ (fun i => i = o) ?_ ?_ ?_ ?_ ?_ ?_ ?_ (fun _ _ _ => rfl)
    · refine ⟨by unfold World.freeze; split <;> rfl, by unfold World.freeze; split <;> rfl, by unfold World.freeze; split <;> rfl, by unfold World.freeze; split <;> simp, fun k hk _ => heap_freeze _ _ _ _ (by simp only; omega)⟩
    · intro i hi
      exact ⟨ent_set_ne _ hi, fun _ => ⟨rfl, rfl⟩⟩
    · intro i B hi hB
      have hne : B ≠ b := by
        rintro rfl
        exact sim.apart i o B hi hB hown
      exact ⟨heap_freeze _ _ _ _ hne, fun _ => rfl⟩
    · intro b' j v hv
      rw [cell_freeze]
      exact sim.mem b' j v hv
    · rintro i rfl
      simp only [sets]
      rw [ent_set_same _ hlt]; trivial
    · rintro i B rfl hB
      simp only [sets] at hB
      rw [ent_set_same _ hlt] at hB; simp [owns] at hB
    · rintro i i' B rfl rfl hne; exact absurd rfl hne
    · intro i l
      rw [length_sets]; exact sim.lt i l

theorem done_run {id n : Nat} {res : Result Next} {v : V} {us : List (Nat × Ent)} {z : Value} {w' : World} {E' : Env} (h : res = .ok (.value z) w') (h1 : E.Le E') (h2 : Sim base w0 E' (sets S us) w') (h3 : RepV E' v z) (h4 : ∀ o, E'.live o → E.live o ∨ (id ≤ o ∧ o < id + n)) :
    Done base w0 E S w id n res v us := ⟨z, w', E', .inl h, h1, h2, h3, h4⟩

theorem repVs_map {r : Operand → V} {q : Operand → Value} (hr : ∀ x, RepV E (r x) (q x)) : ∀ l : List Operand, RepVs E (l.map r) (l.map q)
  | [] => by simp [RepVs]
  | x :: l => by simp only [List.map_cons, RepVs]; exact ⟨hr x, repVs_map hr l⟩
theorem repO_map {r : Operand → V} {q : Operand → Value} (hr : ∀ x, RepV E (r x) (q x)) (o : Option Operand) : RepO E (o.map r) (o.map q) := by
  cases o with
  | none => trivial
  | some x => exact hr x

theorem minmax_ok [tI : Tst] {mx : Bool} {x y v : V} {a b : Value} (h : minmax mx [x, y] = some v) (hx : RepV E x a) (hy : RepV E y b) :
    ∃ z, (if mx then Builtin.max2 a b else Builtin.min2 a b).run P w = .ok z w ∧ RepV E v z := by
  unfold minmax at h
  split at h
  case h_2 => simp at h
  rename_i k m j n heq
  simp only [List.cons.injEq, and_true] at heq
  obtain ⟨rfl, rfl⟩ := heq
  split at h
  case isFalse => simp at h
  rename_i hk
  subst hk
  simp only [Option.some.injEq] at h
  subst h
  obtain ⟨rfl, h1⟩ := rep_int_iff.1 hx
  obtain ⟨rfl, h2⟩ := rep_int_iff.1 hy
  cases mx with
  | true =>
    refine ⟨_, by simp only [if_true, Builtin.max2, Sem.run_pure]; rfl, ?_⟩
    simp only [if_true]
    exact rep_int (by split <;> assumption)
  | false =>
    refine ⟨_, by simp only [Bool.false_eq_true, if_false, Builtin.min2, Sem.run_pure]; rfl, ?_⟩
    simp only [Bool.false_eq_true, if_false]
    exact rep_int (by split <;> assumption)
theorem op_ok [tI : Tst] (hC : RowsOK P C) (sim : Sim base w0 E S w) {o : Oper} {id : Nat} {r : Operand → V} {q : Operand → Value} (hr : ∀ x, RepV E (r x) (q x)) {g : Bool} {v : V} {us : List (Nat × Ent)} (h : evOp C o id r S = some (g, v, us)) (hg : g = true)
    (hid : ∀ j, id ≤ j → j < id + need C o → ¬ E.live j ∧ j < S.length) : Done base w0 E S w id (need C o) ((execOp q o).run P w) v us := by
  unfold evOp at h
  split at h
  case h_1 x hop =>   -- move
    simp only [val, Option.some.injEq, Prod.mk.injEq] at h
    obtain ⟨-, rfl, rfl⟩ := h
    simp only [execOp, hop, Sem.run_pure]
    exact Done.pure sim (hr x)
  case h_2 x hop =>   -- assign
    have hrun : (execOp q o).run P w = .ok (.value (q x)) w := by simp only [execOp, hop, Sem.run_pure]
    have hx := hr x
    split at h
    · rename_i hn
      rw [hn] at hx
      simp only [RepV] at hx
      split at h
      · rename_i t hty
        have hneed : need C o = 1 := by simp [need, hop, hty]
        rw [hneed] at hid ⊢
        split at h
        · simp only [Option.some.injEq, Prod.mk.injEq] at h
          obtain ⟨-, rfl, rfl⟩ := h
          obtain ⟨E', k1, k2, k3, k4⟩ := sim.nilfam (hid id (Nat.le_refl _) (by omega)).1 (hid id (Nat.le_refl _) (by omega)).2 t
          exact done_run (by rw [hrun, hx]) k1 k2 k3 (fun o l => (k4 o l).imp_right fun e => by omega)
        · simp only [Option.some.injEq, Prod.mk.injEq] at h
          obtain ⟨-, rfl, rfl⟩ := h
          obtain ⟨E', k1, k2, k3, k4⟩ := sim.nilrow (hid id (Nat.le_refl _) (by omega)) t
          exact done_run (by rw [hrun, hx]) k1 k2 k3 (fun o l => (k4 o l).imp_right fun e => by omega)
      · simp only [val, Option.some.injEq, Prod.mk.injEq] at h
        obtain ⟨-, rfl, rfl⟩ := h
        rw [hrun]
        exact Done.pure sim (by simp only [RepV]; exact hx)
    · simp only [val, Option.some.injEq, Prod.mk.injEq] at h
      obtain ⟨-, rfl, rfl⟩ := h
      rw [hrun]
      exact Done.pure sim hx
  case h_3 c a b hop =>   -- pick
    have hc := hr c
    split at h
    case h_2 => simp at h
    rename_i x hx
    rw [hx] at hc
    obtain hc := rep_bool_iff.1 hc
    simp only [val, Option.some.injEq, Prod.mk.injEq] at h
    obtain ⟨-, rfl, rfl⟩ := h
    have hrun : (execOp q o).run P w = .ok (.value (if x then q a else q b)) w := by simp [execOp, hop, hc, asBool]
    rw [hrun]
    refine Done.pure sim ?_
    cases x
    · exact hr b
    · exact hr a
  case h_4 t hop =>   -- alloc
    split at h
    case isFalse => simp at h
    rename_i hgood
    have hneed : need C o = 1 + slices (C.row t).cells := by simp [need, hop]
    rw [hneed] at hid ⊢
    split at h
    · simp only [Option.some.injEq, Prod.mk.injEq] at h
      obtain ⟨-, rfl, rfl⟩ := h
      obtain ⟨u, w', E', k0, k1, k2, k3, k4⟩ := alloc_ok hC sim hgood hid
      exact done_run (by simp only [execOp, hop, Sem.run_bind, k0, Result.andThen_ok, Sem.run_pure]) k1 k2 k3 k4
    · simp only [Option.some.injEq, Prod.mk.injEq] at h
      obtain ⟨-, rfl, rfl⟩ := h
      obtain ⟨u, w', E', k0, k1, k2, k3, k4⟩ := allocR_ok hC sim hgood hid
      exact done_run (by simp only [execOp, hop, Sem.run_bind, k0, Result.andThen_ok, Sem.run_pure]) k1 k2 k3 k4
  case h_5 t x hop =>   -- box
    simp only [Option.map_eq_some_iff, Prod.mk.injEq] at h
    obtain ⟨vs, hf, -, rfl, rfl⟩ := h
    have hneed : need C o = 1 := by simp [need, hop]
    rw [hneed] at hid ⊢
    obtain ⟨z, w', E', k0, k1, k2, k3, k4⟩ := box_ok (P := P) sim (t := t) (hid id (Nat.le_refl _) (by omega)) (hr x) hf
    exact done_run (by simp only [execOp, hop, Sem.run_bind, k0, Result.andThen_ok, Sem.run_pure]) k1 k2 k3 (fun o l => (k4 o l).imp_right fun e => by omega)
  case h_6 t ps hop =>   -- build
    obtain ⟨rfl, z, k0, k1⟩ := build_ok (P := P) (w := w) hC hr (S := S) (id := id) hop (us := us) (g := g) (v := v) (by unfold evOp; rw [hop]; exact h)
    have hrun : (execOp q o).run P w = .ok (.value z) w := by simp only [execOp, hop, Sem.run_bind, k0, Result.andThen_ok, Sem.run_pure]
    rw [hrun]
    exact Done.pure sim k1
  case h_7 t n ps hop =>   -- buildSlice
    split at h
    case h_2 => simp at h
    rename_i e ht
    split at h
    case isFalse => simp at h
    rename_i hn
    simp only [forceTy_eq, Option.bind_eq_some_iff, Option.some.injEq, Prod.mk.injEq] at h
    obtain ⟨xs, hx, h⟩ := h
    have hneed : need C o = 1 := by simp [need, hop]
    rw [hneed] at hid ⊢
    split at h
    · simp only [Option.some.injEq, Prod.mk.injEq] at h
      obtain ⟨-, rfl, rfl⟩ := h
      obtain ⟨z, w', E', k0, k1, k2, k3, k4⟩ := buildSlice_ok (P := P) hC sim hr (hid id (Nat.le_refl _) (by omega)) ht hn hx
      exact done_run (by simp only [execOp, hop, Sem.run_bind, k0, Result.andThen_ok, Sem.run_pure]) k1 k2 k3 (fun o l => (k4 o l).imp_right fun e => by omega)
    · simp only [Option.some.injEq, Prod.mk.injEq] at h
      obtain ⟨-, rfl, rfl⟩ := h
      obtain ⟨z, w', E', k0, k1, k2, k3, k4⟩ := buildRow_ok (P := P) hC sim hr (hid id (Nat.le_refl _) (by omega)) ht hn hx
      exact done_run (by simp only [execOp, hop, Sem.run_bind, k0, Result.andThen_ok, Sem.run_pure]) k1 k2 k3 (fun o l => (k4 o l).imp_right fun e => by omega)
  case h_8 t l c hop =>   -- makeSlice
    split at h
    case h_2 => simp at h
    rename_i e n m ht hl hc
    simp only [forceTy_eq, Option.some.injEq, Prod.mk.injEq] at h
    obtain ⟨rfl, rfl, rfl⟩ := h
    simp only [Bool.and_eq_true, tst_iff] at hg
    have hneed : need C o = 1 := by simp [need, hop]
    rw [hneed] at hid ⊢
    have h1 := hr l
    have h2 := hr c
    rw [hl] at h1
    rw [hc] at h2
    obtain ⟨q1, -⟩ := rep_int_iff.1 h1
    obtain ⟨q2, -⟩ := rep_int_iff.1 h2
    obtain ⟨u, w', E', k0, k1, k2, k3, k4⟩ := makeRow_ok (P := P) hC sim ht (hid id (Nat.le_refl _) (by omega)) hg.1.1 hg.1.2 hg.2
    exact done_run (by simp only [execOp, hop, q1, q2, Sem.run_bind, k0, Result.andThen_ok, Sem.run_pure]) k1 k2 k3 (fun o l => (k4 o l).imp_right fun e => by omega)
  case h_9 t a hop =>   -- load
    obtain ⟨rfl, z, k0, k1⟩ := load_ok (P := P) hC sim h hg (hr a)
    have hrun : (execOp q o).run P w = .ok (.value z) w := by simp only [execOp, hop, Sem.run_bind, k0, Result.andThen_ok, Sem.run_pure]
    rw [hrun]
    exact Done.pure sim k1
  case h_10 t a x hop =>   -- store
    have hneed : (∃ e, (C.row t).ty = .li e) → need C o = 1 := by
      rintro ⟨e, hty⟩
      simp [need, hop, hty]
    obtain ⟨rfl, w', E', k0, k1, k2, k3⟩ := store_ok (P := P) hC sim h hg (hr a) (hr x) (fun hn => hid id (Nat.le_refl _) (by rw [hneed hn]; omega))
    refine ⟨undef, w', E', .inr ⟨by simp only [execOp, hop, Sem.run_bind, k0, Result.andThen_ok, Sem.run_pure], rfl⟩, k1, k2, by simp [RepV], fun o' l => ?_⟩
    rcases k3 o' l with l | ⟨hn, rfl⟩
    · exact .inl l
    · rw [hneed hn]; right; omega
  case h_11 x hop =>   -- nilCheck
    have hx := hr x
    have hrun : ∀ z, q x = z → (∀ a, z = .pointer a → a.isSome = true) → (∀ f fs c, z = .func f fs c → ∃ i, f = .func i) → (∃ a, z = .pointer a) ∨ (∃ f fs c, z = .func f fs c) → (execOp q o).run P w = .ok (.value z) w := by
      intro z hz hp hf hk
      rcases hk with ⟨a, rfl⟩ | ⟨f, fs, c, rfl⟩
      · obtain ⟨a, rfl⟩ := Option.isSome_iff_exists.1 (hp a rfl)
        simp [execOp, hop, hz]
      · obtain ⟨i, rfl⟩ := hf f fs c rfl
        simp [execOp, hop, hz]
    split at h
    · rename_i hv
      simp only [val, Option.some.injEq, Prod.mk.injEq] at h
      obtain ⟨-, rfl, rfl⟩ := h
      rw [hv] at hx
      have hx' := hx
      simp only [RepV] at hx'
      rw [hrun _ hx'.2 (by rintro a h; simp at h; subst h; rfl) (by simp) (.inl ⟨_, rfl⟩)]
      rw [hx'.2] at hx
      exact Done.pure sim hx
    · rename_i hv
      simp only [val, Option.some.injEq, Prod.mk.injEq] at h
      obtain ⟨-, rfl, rfl⟩ := h
      rw [hv] at hx
      have hx' := hx
      simp only [RepV] at hx'
      obtain ⟨b, off, us, e, _⟩ := hx'
      rw [hrun _ e (by rintro a h; simp at h; subst h; rfl) (by simp) (.inl ⟨_, rfl⟩)]
      rw [e] at hx
      exact Done.pure sim hx
    · rename_i hv
      simp only [val, Option.some.injEq, Prod.mk.injEq] at h
      obtain ⟨-, rfl, rfl⟩ := h
      rw [hv] at hx
      have hx' := hx
      simp only [RepV] at hx'
      obtain ⟨_, _, _, ad, hq, _⟩ := hx'
      rw [hrun _ hq (by rintro a h; simp at h; subst h; rfl) (by simp) (.inl ⟨_, rfl⟩)]
      rw [hq] at hx
      exact Done.pure sim hx
    · rename_i hv
      simp only [val, Option.some.injEq, Prod.mk.injEq] at h
      obtain ⟨-, rfl, rfl⟩ := h
      rw [hv] at hx
      have hx' := hx
      simp only [RepV] at hx'
      obtain ⟨zs, us, e, _⟩ := hx'
      rw [hrun _ e (by simp) (by rintro f fs c h; simp at h; exact ⟨_, h.1.symm⟩) (.inr ⟨_, _, _, rfl⟩)]
      rw [e] at hx
      exact Done.pure sim hx
    · simp at h
  case h_12 op t x y yt hop =>   -- binOp
    simp only [Option.map_eq_some_iff, Prod.mk.injEq] at h
    obtain ⟨⟨g', v'⟩, h1, rfl, rfl, rfl⟩ := h
    obtain ⟨z, k0, k1⟩ := binC_ok (P := P) (w := w) hC h1 hg (hr x) (hr y) x y
    have hrun : (execOp q o).run P w = .ok (.value z) w := by simp only [execOp, hop, Sem.run_bind, Sem.run_pure] at k0 ⊢; rw [k0]; rfl
    rw [hrun]
    exact Done.pure sim k1
  case h_13 op t x hop =>   -- unOp
    simp only [Option.bind_eq_some_iff, val, Option.some.injEq, Prod.mk.injEq] at h
    obtain ⟨v', h1, -, rfl, rfl⟩ := h
    obtain ⟨z, k0, k1⟩ := unV_ok (P := P) (w := w) h1 (hr x)
    have hrun : (execOp q o).run P w = .ok (.value z) w := by simp only [execOp, hop, Sem.run_bind, k0, Result.andThen_ok, Sem.run_pure]
    rw [hrun]
    exact Done.pure sim k1
  case h_14 src dst x hop =>   -- convert
    split at h
    · rename_i out hcs
      simp only [Option.some.injEq] at h; subst h
      obtain ⟨w', k0, k1, k2⟩ := convS_ok (P := P) hC sim hcs hg (hr x)
      exact done_run (by simp only [execOp, hop, Sem.run_bind, k0, Result.andThen_ok, Sem.run_pure]) (Env.Le.refl E) k1 k2 (fun o l => .inl l)
    simp only [Option.bind_eq_some_iff, val, Option.some.injEq, Prod.mk.injEq] at h
    obtain ⟨v', h1, -, rfl, rfl⟩ := h
    by_cases hd : ∃ e, (C.row dst).td = .slice e
    · obtain ⟨e, hd⟩ := hd
      obtain ⟨z, w', E', k0, k1, k2, k3, k4⟩ := conv_new (P := P) hC sim h1 (hr x) hd
      exact done_run (by simp only [execOp, hop, Sem.run_bind, k0, Result.andThen_ok, Sem.run_pure]) k1 k2 k3 (fun o l => .inl (k4 o l))
    · obtain ⟨z, k0, k1⟩ := conv_ok (P := P) hC sim.mem h1 (hr x) (fun e he => hd ⟨e, he⟩)
      have hrun : (execOp q o).run P w = .ok (.value z) w := by simp only [execOp, hop, Sem.run_bind, k0, Result.andThen_ok, Sem.run_pure]
      rw [hrun]
      exact Done.pure sim k1
  case h_15 t x hop =>   -- makeInterface
    split at h
    case isFalse => simp at h
    rename_i hgood
    simp only [val, Option.some.injEq, Prod.mk.injEq] at h
    obtain ⟨-, rfl, rfl⟩ := h
    obtain ⟨d, hd, hb⟩ := (hC.row hgood).desc
    have hrun : (execOp q o).run P w = .ok (.value (.iface t (q x))) w := by
      have : (Instr.makeInterface t (q x)).run P w = .ok (.iface t (q x)) w := by
        simp only [Instr.makeInterface, Sem.run_bind, run_underlying hd, Result.andThen_ok]
        unfold descB at hb
        split at hb <;> first | rfl | simp at hb
      simp only [execOp, hop, Sem.run_bind, this, Result.andThen_ok, Sem.run_pure]
    rw [hrun]
    refine Done.pure sim ?_
    simp only [RepV]
    exact ⟨_, rfl, hr x⟩
  case h_16 f first cap hop =>   -- makeFunc
    simp only [val, Option.some.injEq, Prod.mk.injEq] at h
    obtain ⟨-, rfl, rfl⟩ := h
    have hrun : (execOp q o).run P w = .ok (.value (.func (.func f) (first.toList.map q).toArray (cap.toList.map q).toArray)) w := by
      have e1 : (first.toList.map q).toArray = first.map q := by apply Array.ext'; simp
      have e2 : (cap.toList.map q).toArray = cap.map q := by apply Array.ext'; simp
      rw [e1, e2]
      simp [execOp, hop, Instr.makeFunc]
    rw [hrun]
    refine Done.pure sim ?_
    simp only [RepV]
    exact ⟨_, _, rfl, repVs_map hr _, repVs_map hr _⟩
  case h_17 t x lo hi mx hop =>   -- slice
    have hneed : (mx.map r).isSome = true → need C o = 1 := by
      intro hm
      cases mx with
      | none => simp at hm
      | some m => simp [need, hop]
    obtain ⟨z, E', k0, k1, k2, k3, k4⟩ := slice_ok (P := P) hC sim h hg (hr x) (repO_map hr lo) (repO_map hr hi) (repO_map hr mx) (fun hm => hid id (Nat.le_refl _) (by rw [hneed hm]; omega))
    refine done_run (by simp only [execOp, hop, Sem.run_bind, k0, Result.andThen_ok, Sem.run_pure]) k1 k2 k3 (fun o' l => ?_)
    rcases k4 o' l with l | ⟨hm, rfl⟩
    · exact .inl l
    · rw [hneed hm]; right; omega
  case h_18 t x f hop =>   -- fieldAddr
    obtain ⟨rfl, z, k0, k1⟩ := fieldAddr_ok (P := P) (w := w) hC h (hr x)
    have hrun : (execOp q o).run P w = .ok (.value z) w := by simp only [execOp, hop, Sem.run_bind, k0, Result.andThen_ok, Sem.run_pure]
    rw [hrun]
    exact Done.pure sim k1
  case h_19 t x f hop =>   -- field
    obtain ⟨rfl, z, k0, k1⟩ := field_ok (P := P) (w := w) hC h (hr x)
    have hrun : (execOp q o).run P w = .ok (.value z) w := by simp only [execOp, hop, Sem.run_bind, k0, Result.andThen_ok, Sem.run_pure]
    rw [hrun]
    exact Done.pure sim k1
  case h_20 t x i hop =>   -- indexAddr
    obtain ⟨rfl, z, k0, k1⟩ := indexAddr_ok (P := P) (w := w) hC h hg (hr x) (hr i)
    have hrun : (execOp q o).run P w = .ok (.value z) w := by simp only [execOp, hop, Sem.run_bind, k0, Result.andThen_ok, Sem.run_pure]
    rw [hrun]
    exact Done.pure sim k1
  case h_21 t x i hop =>   -- index
    obtain ⟨rfl, z, k0, k1⟩ := index_ok (P := P) (w := w) hC h hg (hr x) (hr i)
    have hrun : (execOp q o).run P w = .ok (.value z) w := by simp only [execOp, hop, Sem.run_bind, k0, Result.andThen_ok, Sem.run_pure]
    rw [hrun]
    exact Done.pure sim k1
  case h_22 x xt t ok hop =>   -- typeAssert
    have hx := hr x
    split at h
    case h_2 => simp at h
    rename_i s v' hv
    rw [hv] at hx
    simp only [RepV] at hx
    obtain ⟨u, hu, hru⟩ := hx
    split at h
    case isFalse => simp at h
    rename_i hc
    obtain ⟨hgood, rfl⟩ := hc
    obtain ⟨d, hd, hb⟩ := (hC.row hgood).desc
    have hrun : (Instr.typeAssert (q x) xt s ok).run P w = .ok (if ok then .tuple #[u, .bool true] else u) w := by
      rw [hu]
      simp only [Instr.typeAssert, Sem.run_bind, run_underlying hd, Result.andThen_ok]
      unfold descB at hb
      split at hb <;> first | (simp only [if_true, Sem.run_pure]; done) | (simp only [if_true, Sem.run_pure]; rfl) | simp at hb
    have hrun' : (execOp q o).run P w = .ok (.value (if ok then .tuple #[u, .bool true] else u)) w := by simp only [execOp, hop, Sem.run_bind, hrun, Result.andThen_ok, Sem.run_pure]
    rw [hrun']
    cases ok with
    | true =>
      simp only [if_true, val, Option.some.injEq, Prod.mk.injEq] at h ⊢
      obtain ⟨-, rfl, rfl⟩ := h
      refine Done.pure sim ?_
      simp only [RepV]
      exact ⟨[u, .bool true], rfl, by simp only [RepVs, and_true]; exact ⟨hru, rep_bool true⟩⟩
    | false =>
      simp only [Bool.false_eq_true, if_false, val, Option.some.injEq, Prod.mk.injEq] at h ⊢
      obtain ⟨-, rfl, rfl⟩ := h
      exact Done.pure sim hru
  case h_23 x i hop =>   -- extract
    have hx := hr x
    split at h
    case h_2 => simp at h
    rename_i vs hv
    rw [hv] at hx
    simp only [RepV] at hx
    obtain ⟨us', hu, hrs⟩ := hx
    split at h
    case h_2 => simp at h
    rename_i v' hvi
    simp only [val, Option.some.injEq, Prod.mk.injEq] at h
    obtain ⟨-, rfl, rfl⟩ := h
    have hi : i < us'.length := by rw [← hrs.length]; exact (List.getElem?_eq_some_iff.1 hvi).1
    have hg' := RepVs.get i hrs (List.getElem?_eq_getElem hi)
    rw [look_eq, List.getD_eq_getElem?_getD, hvi] at hg'
    have hrun : (execOp q o).run P w = .ok (.value us'[i]) w := by
      simp [execOp, hop, hu, Instr.extract, List.getElem?_eq_getElem hi]
    rw [hrun]
    exact Done.pure sim hg'
  case h_24 b args argTypes hop =>   -- a builtin
    have hneed : need C o = 1 := by simp [need, hop]
    split at h
    · rename_i x t ha hat
      simp only [Option.bind_eq_some_iff, val, Option.some.injEq, Prod.mk.injEq] at h
      obtain ⟨n, h1, -, rfl, rfl⟩ := h
      obtain ⟨z, k0, k1⟩ := len_ok (P := P) (w := w) (ty := o.type) hC h1 (hr x)
      have ha' : args = #[x] := by cases args; simp_all
      have hat' : argTypes = #[t] := by cases argTypes; simp_all
      have hrun : (execOp q o).run P w = .ok (.value z) w := by
        simp [execOp, hop, resolve, invoke, builtin, ha', hat', k0]
      rw [hrun]
      exact Done.pure sim k1
    · rename_i s x st xt ha hat
      rw [hneed] at hid ⊢
      obtain ⟨z, w', E', k0, k1, k2, k3, k4⟩ := append_ok (P := P) (tt := o.type) hC sim h hg (hr s) (hr x) (hid id (Nat.le_refl _) (by omega))
      have ha' : args = #[s, x] := by cases args; simp_all
      have hat' : argTypes = #[st, xt] := by cases argTypes; simp_all
      refine done_run ?_ k1 k2 k3 (fun o l => (k4 o l).imp_right fun e => by omega)
      simp [execOp, hop, resolve, invoke, builtin, ha', hat', k0]
    · rename_i d x dt xt ha hat
      obtain ⟨z, w', k0, k1, k2⟩ := copyRow_ok (P := P) (tt := o.type) (xt := xt) hC sim h hg (hr d) (hr x)
      have ha' : args = #[d, x] := by cases args; simp_all
      have hat' : argTypes = #[dt, xt] := by cases argTypes; simp_all
      refine done_run ?_ (Env.Le.refl E) k1 k2 (fun o l => .inl l)
      simp [execOp, hop, resolve, invoke, builtin, ha', hat', k0]
    · rename_i x t ha hat
      obtain ⟨w', k0, k1, k2⟩ := clearRow_ok (P := P) (tt := o.type) hC sim h hg (hr x)
      have ha' : args = #[x] := by cases args; simp_all
      have hat' : argTypes = #[t] := by cases argTypes; simp_all
      refine done_run ?_ (Env.Le.refl E) k1 k2 (fun o l => .inl l)
      simp [execOp, hop, resolve, invoke, builtin, ha', hat', k0]
    · rename_i x y ha
      simp only [Option.bind_eq_some_iff, val, Option.some.injEq, Prod.mk.injEq] at h
      obtain ⟨n, h1, -, rfl, rfl⟩ := h
      obtain ⟨z, k0, k1⟩ := minmax_ok (P := P) (w := w) h1 (hr x) (hr y)
      have ha' : args = #[x, y] := by cases args; simp_all
      have hrun : (execOp q o).run P w = .ok (.value z) w := by
        simp only [Bool.false_eq_true, if_false] at k0
        simp [execOp, hop, resolve, invoke, builtin, ha', Builtin.min_, k0]
      rw [hrun]
      exact Done.pure sim k1
    · rename_i x y ha
      simp only [Option.bind_eq_some_iff, val, Option.some.injEq, Prod.mk.injEq] at h
      obtain ⟨n, h1, -, rfl, rfl⟩ := h
      obtain ⟨z, k0, k1⟩ := minmax_ok (P := P) (w := w) h1 (hr x) (hr y)
      have ha' : args = #[x, y] := by cases args; simp_all
      have hrun : (execOp q o).run P w = .ok (.value z) w := by
        simp only [if_true] at k0
        simp [execOp, hop, resolve, invoke, builtin, ha', Builtin.max_, k0]
      rw [hrun]
      exact Done.pure sim k1
    · simp at h
  case h_25 => simp at h
end
end Go.Proofs.Ytmpmmfbgdpfnpaa.Ev
/- One operation of a region, as a step from slots and memory to slots and memory; and that the machine goes the same step. -/
namespace Go.Proofs.Ytmpmmfbgdpfnpaa.Ev
open Go Go.RowKit
set_option linter.unusedVariables false
set_option linter.unusedSimpArgs false

/-- a call as an operation runs it -/
def Called (P : Program) (f : FuncId) (args : Array Value) (w : World) (R : Value → World → Prop) : Prop :=
  match (callFunc f args).run P w with
  | .ok (.value v) w' => R v w'
  | .ok (.enter g as) w' => Calls P g as w' fun e w'' => ∃ v, e = .returned v ∧ R v w''
  | _ => False
/-- what a call comes to, in whatever world -/
def CallRes (P : Program) (g : FuncId) (args : List V) (id : Nat) (S : List Ent) (v : V) (S' : List Ent) : Prop :=
  S.length ≤ S'.length ∧ ∀ (base : Nat) (w0 : World) (E : Env) (w : World) (us : List Value), Sim base w0 E S w → RepVs E args us → ¬ E.live id ∧ id < S.length →
    Called P g us.toArray w fun u w' => ∃ E', E.Le E' ∧ Sim base w0 E' S' w' ∧ RepV E' v u ∧ ∀ o, E'.live o → E.live o ∨ o = id ∨ S.length ≤ o
/-- what an operation comes to, in whatever world -/
def OperRes (P : Program) (C : Ctx) (o : Oper) (id : Nat) (r : Operand → V) (S : List Ent) (v : V) (S' : List Ent) : Prop :=
  S.length ≤ S'.length ∧ ∀ (base : Nat) (w0 : World) (E : Env) (w : World) (q : Operand → Value), Sim base w0 E S w → (∀ x ∈ o.op.operands, RepV E (r x) (q x)) → (∀ j, id ≤ j → j < id + need C o → ¬ E.live j ∧ j < S.length) →
    ∃ u w' E', ((execOp q o).run P w = .ok (.value u) w' ∨ ((execOp q o).run P w = .ok .skip w' ∧ u = undef)) ∧ E.Le E' ∧ Sim base w0 E' S' w' ∧ RepV E' v u ∧ ∀ x, E'.live x → E.live x ∨ (id ≤ x ∧ x < id + need C o)
/-- the walker's ways into calls tell the truth -/
def CallOK {R : Type} (P : Program) (call : CallH R) : Prop :=
  ∀ g args id S k r, call g args id S k = some r → ∃ v S', k v S' = some r ∧ CallRes P g args id S v S'
def TabOK (P : Program) (tab : Tab) : Prop :=
  ∀ g args id v us, tabV tab g args id = some (true, v, us) → ∀ S, CallRes P g args id S v (sets S us)

def setAt (sl : List V) (dst : Option Tmp) (v : V) : List V := match dst with | some d => sl.set d v | none => sl

def guardIs (all : Array Oper) (o : Oper) (sl : List V) : Prop :=
  match o.guard with
  | none => True
  | some (j, want) => ∃ d, (all[j]?).bind (·.dst) = some d ∧ look sl d = .d .bo want
def guardNot (all : Array Oper) (o : Oper) (sl : List V) : Prop :=
  match o.guard with
  | none => False
  | some (j, want) => ∃ d, (all[j]?).bind (·.dst) = some d ∧ (look sl d = .d .bo (!want) ∨ look sl d = .un)

def plainOp (o : Oper) : Prop := (∀ f as ts, o.op ≠ .call ⟨.value f, as, ts⟩) ∧ ∀ f m as ts, o.op ≠ .call ⟨.invoke f m, as, ts⟩

/-- an operation that is a call of g, by what way ever -/
def Leads (P : Program) (o : Oper) (r : Operand → V) (S : List Ent) (g : FuncId) (args : List V) : Prop :=
  (∃ c, o.op = .call c) ∧ ∀ (base : Nat) (w0 : World) (E : Env) (w : World) (q : Operand → Value), Sim base w0 E S w → (∀ x ∈ o.op.operands, RepV E (r x) (q x)) → ∃ us, RepVs E args us ∧ (execOp q o).run P w = (callFunc g us.toArray).run P w
inductive Step [tI : Tst] (P : Program) (C : Ctx) (tab : Tab) (all : Array Oper) (i id : Nat) (sl : List V) (S : List Ent) : Touch → List V → List Ent → Prop
  | skip (o : Oper) (h : all[i]? = some o) (hg : guardNot all o sl) : Step P C tab all i id sl S .no (setAt sl o.dst .un) S
  | op (o : Oper) (h : all[i]? = some o) (hg : guardIs all o sl) (hp : plainOp o) (v : V) (us : List (Nat × Ent)) (he : evOp C o id (opd sl) S = some (true, v, us)) : Step P C tab all i id sl S (touch tab o (opd sl)) (setAt sl o.dst v) (sets S us)
  | tab (o : Oper) (h : all[i]? = some o) (hg : guardIs all o sl) (f : Operand) (as : Array Operand) (ts : Array TypeId) (ho : o.op = .call ⟨.value f, as, ts⟩) (g : FuncId) (fi cap : List V) (hf : opd sl f = .fn g fi cap) (v : V) (us : List (Nat × Ent))
      (he : tabV tab g (fi ++ as.toList.map (opd sl) ++ cap) id = some (true, v, us)) : Step P C tab all i id sl S .new (setAt sl o.dst v) (sets S us)
  | call (o : Oper) (h : all[i]? = some o) (hg : guardIs all o sl) (f : Operand) (as : Array Operand) (ts : Array TypeId) (ho : o.op = .call ⟨.value f, as, ts⟩) (g : FuncId) (fi cap : List V) (hf : opd sl f = .fn g fi cap) (v : V) (S' : List Ent)
      (he : CallRes P g (fi ++ as.toList.map (opd sl) ++ cap) id S v S') : Step P C tab all i id sl S .all (setAt sl o.dst v) S'
  | inv (o : Oper) (h : all[i]? = some o) (hg : guardIs all o sl) (g : FuncId) (args : List V) (ht : Leads P o (opd sl) S g args) (v : V) (S' : List Ent) (he : CallRes P g args id S v S') : Step P C tab all i id sl S .all (setAt sl o.dst v) S'
  | sem (o : Oper) (h : all[i]? = some o) (hg : guardIs all o sl) (v : V) (S' : List Ent) (he : OperRes P C o id (opd sl) S v S') : Step P C tab all i id sl S .all (setAt sl o.dst v) S'

section
variable {P : Program} {C : Ctx} {tab : Tab} {E : Env} {w w0 : World} {base : Nat} {S : List Ent} {all : Array Oper}

theorem RepVs.set {E : Env} : ∀ {vs : List V} {us : List Value} (n : Nat) {v : V} {u : Value}, RepVs E vs us → RepV E v u → RepVs E (vs.set n v) (us.set n u)
  | [], [], _, _, _, _, _ => by simp [RepVs]
  | c :: cs, z :: us, 0, v, u, k, h => by simp only [RepVs, List.set_cons_zero] at k ⊢; exact ⟨h, k.2⟩
  | c :: cs, z :: us, n + 1, v, u, k, h => by simp only [RepVs, List.set_cons_succ] at k ⊢; exact ⟨k.1, RepVs.set n k.2 h⟩
  | [], _ :: _, _, _, _, k, _ => by simp [RepVs] at k
  | _ :: _, [], _, _, _, k, _ => by simp [RepVs] at k
theorem SimA.put [tI : Tst] {sl : List V} {a : Act} (h : SimA E sl a) {v : V} {u : Value} (hv : RepV E v u) (dst : Option Tmp) : SimA E (setAt sl dst v) (a.put dst u) := by
  cases dst with
  | none => exact h
  | some d => exact ⟨h.defers, by simp only [setAt, Act.put, Array.toList_setIfInBounds]; exact RepVs.set d h.rep hv⟩
theorem SimA.slot [tI : Tst] {sl : List V} {a : Act} (h : SimA E sl a) (d : Nat) {v : V} (hv : look sl d = v) (hb : v ≠ .bad) : ∃ u, a.tmps[d]? = some u ∧ RepV E v u := by
  by_cases hd : d < a.tmps.size
  · refine ⟨a.tmps[d], by simp [hd], ?_⟩
    rw [← hv]
    exact RepVs.get d h.rep (by simp [hd])
  · exfalso
    apply hb
    rw [← hv, look_eq, List.getD_eq_getElem?_getD, List.getElem?_eq_none (by rw [h.rep.length]; simpa using hd)]; rfl
theorem wanted_is [tI : Tst] {sl : List V} {a : Act} (h : SimA E sl a) {o : Oper} (hg : guardIs all o sl) : Region.wanted o (yielded all a.tmps) = true := by
  unfold guardIs at hg
  unfold Region.wanted
  cases hgd : o.guard with
  | none => rfl
  | some gw =>
    obtain ⟨j, want⟩ := gw
    rw [hgd] at hg
    obtain ⟨d, h1, h2⟩ := hg
    obtain ⟨u, h3, h4⟩ := h.slot d h2 (by simp)
    obtain rfl := rep_bool_iff.1 h4
    simp [yielded, h1, h3]
theorem wanted_not [tI : Tst] {sl : List V} {a : Act} (h : SimA E sl a) {o : Oper} (hg : guardNot all o sl) : Region.wanted o (yielded all a.tmps) = false := by
  unfold guardNot at hg
  unfold Region.wanted
  cases hgd : o.guard with
  | none => rw [hgd] at hg; exact hg.elim
  | some gw =>
    obtain ⟨j, want⟩ := gw
    rw [hgd] at hg
    obtain ⟨d, h1, h2 | h2⟩ := hg
    · obtain ⟨u, h3, h4⟩ := h.slot d h2 (by simp)
      obtain rfl := rep_bool_iff.1 h4
      simp [yielded, h1, h3]
    · obtain ⟨u, h3, h4⟩ := h.slot d h2 (by simp)
      simp only [RepV] at h4; subst h4
      simp [yielded, h1, h3, undef]

theorem repVs_map' {E : Env} {r : Operand → V} {q : Operand → Value} : ∀ {l : List Operand}, (∀ x ∈ l, RepV E (r x) (q x)) → RepVs E (l.map r) (l.map q)
  | [], _ => by simp [RepVs]
  | x :: l, h => by simp only [List.map_cons, RepVs]; exact ⟨h x (List.mem_cons_self ..), repVs_map' fun y hy => h y (List.mem_cons_of_mem _ hy)⟩
/-- the machine goes the same step -/
theorem Step.wp [tI : Tst] (hC : RowsOK P C) (hT : TabOK P tab) {i id : Nat} {sl sl' : List V} {S' : List Ent} {t : Touch} (st : Step P C tab all i id sl S t sl' S') (sim : Sim base w0 E S w) {a : Act} (ha : SimA E sl a)
    (hid : ∀ o, all[i]? = some o → ∀ j, id ≤ j → j < id + need C o → ¬ E.live j ∧ j < S.length) {Q : Exit → Act → World → Prop} {K : Act → World → Prop}
    (hK : ∀ E' a' w', E.Le E' → Sim base w0 E' S' w' → SimA E' sl' a' → (∀ o, all[i]? = some o → ∀ x, E'.live x → E.live x ∨ (id ≤ x ∧ x < id + need C o) ∨ S.length ≤ x) → K a' w') : wpOp P all Q i K a w := by
  have leadCase : ∀ (o : Oper), all[i]? = some o → guardIs all o sl → ∀ (g : FuncId) (args : List V), Leads P o (opd sl) S g args → ∀ (v : V), sl' = setAt sl o.dst v →
      CallRes P g args id S v S' → wpOp P all Q i K a w := by
    intro o ho hg g args hlead v hsl hres
    obtain ⟨⟨c, hop⟩, hlead⟩ := hlead
    obtain ⟨us0, hargs, hex⟩ := hlead base w0 E w a.eval sim (fun x _ => ha.opd x)
    have hneed : need C o = 1 := by simp [need, hop]
    have hidd := hid o ho
    rw [hneed] at hidd
    have hcall := hres.2 base w0 E w _ sim hargs (hidd id (Nat.le_refl _) (by omega))
    unfold wpOp
    simp only [ho, wanted_is ha hg, if_true]
    left
    unfold Oper.wp
    rw [hex]
    unfold Called at hcall
    have fin : ∀ u w', (∃ E', E.Le E' ∧ Sim base w0 E' S' w' ∧ RepV E' v u ∧ ∀ o, E'.live o → E.live o ∨ o = id ∨ S.length ≤ o) → K (a.put o.dst u) w' := by
      rintro u w' ⟨E', k1, k2, k3, k4⟩
      refine hK E' _ w' k1 k2 (by rw [hsl]; exact (ha.mono k1).put k3 _) ?_
      intro o' ho' x hx
      rw [ho] at ho'
      simp only [Option.some.injEq] at ho'; subst ho'
      rw [hneed]
      exact (k4 x hx).imp_right fun e => e.imp_left fun e => by omega
    split at hcall
    · rename_i u w' hr
      rw [hr]
      simp only [Oper.upon]
      exact fin u w' hcall
    · rename_i g' as' w' hr
      rw [hr]
      simp only [Oper.upon]
      refine Calls.mono hcall ?_
      rintro e w'' ⟨u, rfl, h⟩
      exact fin u w'' h
    · exact hcall.elim
  have callCase : ∀ (o : Oper), all[i]? = some o → guardIs all o sl → ∀ (f : Operand) (as : Array Operand) (ts : Array TypeId), o.op = .call ⟨.value f, as, ts⟩ → ∀ (g : FuncId) (fi cap : List V), opd sl f = .fn g fi cap → ∀ (v : V), sl' = setAt sl o.dst v →
      CallRes P g (fi ++ as.toList.map (opd sl) ++ cap) id S v S' → wpOp P all Q i K a w := by
    intro o ho hg f as ts hop g fi cap hf v hsl hres
    refine leadCase o ho hg g _ ⟨⟨_, hop⟩, ?_⟩ v hsl hres
    intro base w0 E w q sim hq
    have hmem : ∀ x, x = f ∨ x ∈ as.toList → x ∈ o.op.operands := by
      intro x hx
      rw [hop]
      simp only [Op.operands, Call.operands]
      rcases hx with rfl | hx
      · simp
      · simp; right; simpa using hx
    have hfr := hq f (hmem f (.inl rfl))
    rw [hf] at hfr
    simp only [RepV] at hfr
    obtain ⟨zs, cs, hfv, hzs, hcs⟩ := hfr
    refine ⟨_, RepVs.append (RepVs.append hzs (repVs_map' (fun x hx => hq x (hmem x (.inr hx))))) hcs, ?_⟩
    have : (zs.toArray ++ as.map q ++ cs.toArray) = (zs ++ as.toList.map q ++ cs).toArray := by apply Array.ext'; simp
    rw [← this]
    simp [execOp, hop, resolve, hfv, Deferred.ofValue, invoke]
  cases st with
  | skip o ho hg =>
    unfold wpOp
    simp only [ho, wanted_not ha hg, Bool.false_eq_true, if_false]
    exact hK E _ w (Env.Le.refl E) sim (ha.put (by simp [RepV]) _) (fun _ _ _ h => .inl h)
  | op o ho hg hp v us he =>
    obtain ⟨u, w', E', hr, k1, k2, k3, k4⟩ := op_ok (P := P) hC sim ha.opd he rfl (hid o ho)
    unfold wpOp
    simp only [ho, wanted_is ha hg, if_true]
    left
    have hlive : ∀ o', all[i]? = some o' → ∀ x, E'.live x → E.live x ∨ (id ≤ x ∧ x < id + need C o') ∨ S.length ≤ x := by
      intro o' ho' x hx
      rw [ho] at ho'
      simp only [Option.some.injEq] at ho'; subst ho'
      exact (k4 x hx).imp_right .inl
    unfold Oper.wp
    rcases hr with hr | ⟨hr, rfl⟩
    · rw [hr]; exact hK E' _ w' k1 k2 ((ha.mono k1).put k3 _) hlive
    · rw [hr]; exact hK E' _ w' k1 k2 ((ha.mono k1).put k3 _) hlive
  | tab o ho hg f as ts hop g fi cap hf v us he => exact callCase o ho hg f as ts hop g fi cap hf v rfl (hT _ _ _ _ _ he S)
  | call o ho hg f as ts hop g fi cap hf v S' he => exact callCase o ho hg f as ts hop g fi cap hf v rfl he
  | inv o ho hg g args ht v S' he => exact leadCase o ho hg g args ht v rfl he
  | sem o ho hg v S' he =>
    obtain ⟨u, w', E', hr, k1, k2, k3, k4⟩ := he.2 base w0 E w a.eval sim (fun x _ => ha.opd x) (hid o ho)
    unfold wpOp
    simp only [ho, wanted_is ha hg, if_true]
    left
    have hlive : ∀ o', all[i]? = some o' → ∀ x, E'.live x → E.live x ∨ (id ≤ x ∧ x < id + need C o') ∨ S.length ≤ x := by
      intro o' ho' x hx
      rw [ho] at ho'
      simp only [Option.some.injEq] at ho'; subst ho'
      exact (k4 x hx).imp_right .inl
    unfold Oper.wp
    rcases hr with hr | ⟨hr, rfl⟩
    · rw [hr]; exact hK E' _ w' k1 k2 ((ha.mono k1).put k3 _) hlive
    · rw [hr]; exact hK E' _ w' k1 k2 ((ha.mono k1).put k3 _) hlive
end
end Go.Proofs.Ytmpmmfbgdpfnpaa.Ev
/- A region: what the walker tells of its operations in their order is a run of steps; where the order is left open every order comes to the same. -/
namespace Go.Proofs.Ytmpmmfbgdpfnpaa.Ev
open Go Go.RowKit
set_option linter.unusedVariables false
set_option linter.unusedSimpArgs false

theorem setK_eq {R : Type} : ∀ (sl : List V) (n : Nat) (v : V) (k : List V → R), setK sl n v k = k (sl.set n v)
  | [], n, v, k => by simp [setK]
  | u :: sl, 0, v, k => by simp [setK]
  | u :: sl, n + 1, v, k => by rw [setK, setK_eq sl n v]; simp
theorem setE_eq {R : Type} : ∀ (S : List Ent) (n : Nat) (e : Ent) (k : List Ent → R), setE S n e k = k (S.set n e)
  | [], n, e, k => by simp [setE]
  | u :: S, 0, e, k => by simp [setE]
  | u :: S, n + 1, e, k => by rw [setE, setE_eq S n e]; simp
theorem setsE_eq [tI : Tst] {R : Type} : ∀ (us : List (Nat × Ent)) (S : List Ent) (k : List Ent → R), setsE S us k = k (sets S us)
  | [], S, k => by simp [setsE, sets]
  | (n, e) :: us, S, k => by rw [setsE, setE_eq, setsE_eq us]; rfl
theorem dstK_eq [tI : Tst] {R : Type} (dst : Option Tmp) (sl : List V) (v : V) (k : List V → Option R) : dstK dst sl v k = k (setAt sl dst v) := by
  cases dst with
  | none => rfl
  | some d => simp only [dstK, forceV_eq, setK_eq, setAt]
theorem set_look [tI : Tst] (sl : List V) (d : Nat) (v : V) (h : look sl d = v) (hb : v ≠ .bad) : sl.set d v = sl := by
  have hd : d < sl.length := by
    rcases Nat.lt_or_ge d sl.length with h' | h'
    · exact h'
    · exfalso; apply hb; rw [← h, look_eq, List.getD_eq_getElem?_getD, List.getElem?_eq_none h']; rfl
  rw [look_eq, List.getD_eq_getElem?_getD, List.getElem?_eq_getElem hd] at h
  simp only [Option.getD_some] at h
  rw [← h]
  exact List.set_getElem_self hd

section
variable {R : Type} {P : Program} {C : Ctx} {tab : Tab} {call : CallH R} {all : Array Oper}

inductive Run [tI : Tst] (P : Program) (C : Ctx) (tab : Tab) (all : Array Oper) (idOf : Nat → Nat) : List Nat → List V → List Ent → List Touch → List V → List Ent → Prop
  | nil (sl : List V) (S : List Ent) : Run P C tab all idOf [] sl S [] sl S
  | cons (i : Nat) (is : List Nat) (sl sl1 sl' : List V) (S S1 S' : List Ent) (t : Touch) (ts : List Touch) (h : Step P C tab all i (idOf i) sl S t sl1 S1) (r : Run P C tab all idOf is sl1 S1 ts sl' S') : Run P C tab all idOf (i :: is) sl S (t :: ts) sl' S'

theorem sim_start' [tI : Tst] {m : Mem} {w : World} (hm : m.lies w) (n : Nat) : Sim w.heap.size w (Env.of m) (List.replicate n .gone) w where
  below := below_toX (Below.refl _ _)
  base_le := Nat.le_refl _
  mem := hm
  ents o := by
    have : ent (List.replicate n Ent.gone) o = .gone := by
      rw [ent_eq, List.getD_eq_getElem?_getD, List.getElem?_replicate]
      split <;> rfl
    rw [this]; simp [EntOK]
  apart o o' B _ h := by
    have : ent (List.replicate n Ent.gone) o = .gone := by
      rw [ent_eq, List.getD_eq_getElem?_getD, List.getElem?_replicate]
      split <;> rfl
    rw [this] at h; simp [owns] at h
  lt o l := l.elim
  old _ _ _ := rfl
  rmem _ _ _ h := by simp [Env.of] at h
theorem Called.mono {P : Program} {f : FuncId} {args : Array Value} {w : World} {R R' : Value → World → Prop} (h : Called P f args w R) (hR : ∀ v w', R v w' → R' v w') : Called P f args w R' := by
  unfold Called at h ⊢
  split at h
  · exact hR _ _ h
  · exact Calls.mono h (fun e w'' ⟨v, h1, h2⟩ => ⟨v, h1, hR _ _ h2⟩)
  · exact h.elim
theorem rowCall_ok [tI : Tst] {tab : Tab} (hT : TabOK P tab) {g : FuncId} {args : List V} {id : Nat} {S : List Ent} {k : V → List Ent → Option R} {r : R} (h : rowCall tab g args id S k = some r) :
    ∃ v S', k v S' = some r ∧ CallRes P g args id S v S' := by
  unfold rowCall at h
  obtain ⟨xs, h1, h2⟩ := datA_ok h
  split at h1
  case h_2 => simp at h1
  rename_i b v us htab
  split at h1
  · rename_i hflat
    cases b with
    | false => simp [br] at h1
    | true =>
      simp only [br] at h1
      refine ⟨v, S, h1, Nat.le_refl _, ?_⟩
      intro base w0 E w us' sim hargs hid
      have hd := h2 base w0 E w us' sim hargs
      have hr := (hT g xs id v us htab (List.replicate (id + 1) .gone)).2 w.heap.size w (Env.of (memOf w)) w us' (sim_start' (memOf_lies w) _) hd ⟨fun h => h, by simp⟩
      refine hr.mono ?_
      rintro u w' ⟨E', k1, k2, k3, k4⟩
      have kb : Below w.heap.size w w' := by have := k2.below; rw [k1.lent] at this; exact this.to
      have hw : Wider w w' := ⟨kb.os, kb.tape, kb.output, kb.size, fun q hq => kb.block q hq⟩
      refine ⟨E, Env.Le.refl E, ?_, flatR_rep hflat k3, fun _ l => .inl l⟩
      exact sim.made hw (Env.Le.refl E) (fun _ => False) S rfl (fun i _ => ⟨rfl, fun _ => ⟨rfl, rfl⟩⟩) (fun _ _ _ => rfl) (hw.lies sim.mem) (fun _ h => h.elim) (fun _ _ h => h.elim) (fun _ _ _ h => h.elim) (fun i l => .inl l)
  · obtain ⟨vs', S1, h3, h4⟩ := frzA_ok h1
    split at h3
    case h_2 => simp at h3
    rename_i b' v' us' htab'
    cases b' with
    | false => simp [br] at h3
    | true =>
      simp only [br] at h3
      rw [setsE_eq] at h3
      refine ⟨v', _, h3, by rw [length_sets, h4.1]; exact Nat.le_refl _, ?_⟩
      intro base w0 E w uu sim hargs hid
      obtain ⟨E1, k1, k2, k3, k4⟩ := h4.2 base w0 E w uu sim hargs
      have hr := (hT g vs' id v' us' htab' S1).2 base w0 E1 w uu k2 k3 ⟨fun l => hid.1 (k4 _ l), by rw [h4.1]; exact hid.2⟩
      refine hr.mono ?_
      rintro u w' ⟨E', l1, l2, l3, l4⟩
      refine ⟨E', k1.trans l1, l2, l3, fun o l => ?_⟩
      rcases l4 o l with l | l | l
      · exact .inl (k4 o l)
      · exact .inr (.inl l)
      · exact .inr (.inr (by have := h4.1; omega))
theorem rowBuild_ok [tI : Tst] (hC : RowsOK P C) {o : Oper} {id : Nat} {r : Operand → V} {S : List Ent} {k : V → List Ent → Option R} {z : R} (h : rowBuild C o id r S k = some z) : ∃ v S', k v S' = some z ∧ OperRes P C o id r S v S' := by
  unfold rowBuild at h
  split at h
  case h_2 => simp at h
  rename_i t n ps hop
  split at h
  case h_2 => simp at h
  rename_i e ht
  split at h
  case isFalse => simp at h
  rename_i hn
  rw [forceTy_eq] at h
  obtain ⟨vs, S1, h1, h2⟩ := frzA_ok h
  split at h1
  case h_2 => simp at h1
  rename_i xs hx
  rw [setE_eq] at h1
  refine ⟨_, _, h1, by rw [List.length_set, h2.1]; exact Nat.le_refl _, ?_⟩
  intro base w0 E w q sim hargs hid
  have hneed : need C o = 1 := by simp [need, hop]
  rw [hneed] at hid ⊢
  have hr : RepVs E (ps.toList.map fun (_, x) => r x) (ps.toList.map fun (_, x) => q x) := by
    have : ∀ l : List (Nat × Operand), (∀ p ∈ l, RepV E (r p.2) (q p.2)) → RepVs E (l.map fun (_, x) => r x) (l.map fun (_, x) => q x) := by
      intro l
      induction l with
      | nil => intro _; simp [RepVs]
      | cons p l ih => intro hp; simp only [List.map_cons, RepVs]; exact ⟨hp p (List.mem_cons_self ..), ih fun p' h' => hp p' (List.mem_cons_of_mem _ h')⟩
    refine this _ fun p hp => hargs p.2 ?_
    rw [hop]
    simp only [Op.operands]
    simp
    exact ⟨p.1, by simpa using hp⟩
  obtain ⟨E1, k1, k2, k3, k4⟩ := h2.2 base w0 E w _ sim hr
  -- the parts' values, by a way of reading them
  obtain ⟨u, w', E', l0, l1, l2, l3, l4⟩ := buildSlice_zip (P := P) hC k2 (q := q) (ps := ps) (vs := vs) k3 (id := id) ⟨fun l => (hid id (Nat.le_refl _) (by omega)).1 (k4 _ l), by rw [h2.1]; exact (hid id (Nat.le_refl _) (by omega)).2⟩ ht hn hx
  refine ⟨u, w', E', .inl (by simp only [execOp, hop, Sem.run_bind, l0, Result.andThen_ok, Sem.run_pure]), k1.trans l1, l2, l3, fun x l => ?_⟩
  rcases l4 x l with l | rfl
  · exact .inl (k4 x l)
  · right; omega

theorem callK_ok [tI : Tst] (hT : TabOK P tab) (hcall : CallOK P call) {g : FuncId} {args : List V} {id : Nat} {S : List Ent} {k : V → List Ent → Option R} {r : R} (h : callK tab call g args id S k = some r) : ∃ v S', k v S' = some r ∧ CallRes P g args id S v S' := by
  unfold callK at h
  split at h
  · split at h
    · split at h
      · rename_i b v us ht
        cases b with
        | false => simp [br] at h
        | true =>
          simp only [br] at h
          rw [setsE_eq] at h
          exact ⟨v, _, h, hT _ _ _ _ _ ht S⟩
      · simp at h
    · exact rowCall_ok hT h
  · exact hcall _ _ _ _ _ _ h
theorem methL_mem : ∀ {ms : List (String × FuncId × Bool)} {n : String} {g : FuncId} {b : Bool}, methL ms n = some (g, b) → (n, g, b) ∈ ms
  | [], _, _, _, h => by simp [methL] at h
  | (m, f, c) :: ms, n, g, b, h => by
    simp only [methL] at h
    split at h
    · rename_i hn
      simp only [Option.some.injEq, Prod.mk.injEq] at h
      obtain ⟨rfl, rfl⟩ := h
      rw [eq_of_beq hn]; exact List.mem_cons_self ..
    · exact List.mem_cons_of_mem _ (methL_mem h)
theorem methB_of (hC : RowsOK P C) {t : TypeId} {n : String} {g : FuncId} {b : Bool} (h : methL (C.row t).meths n = some (g, b)) :
    ∃ i m pr, P.info? t = some i ∧ i.methods.find? (·.name == n) = some m ∧ m.path = #[] ∧ m.func = some (g, pr) ∧
      ((b = true ∧ pr = true ∧ ∃ e, P.underlying t = some (.pointer e)) ∨ (b = false ∧ pr = false ∧ ∃ e, P.underlying t = some (.pointer e) ∧ (C.row t).td = .ptr e) ∨ (b = true ∧ pr = false ∧ ((∃ e, P.underlying t = some (.slice e)) ∨ (∃ fs, P.underlying t = some (.struct fs)) ∨ ∃ k, P.underlying t = some (.int k)))) := by
  have h0 := hC t
  unfold rowB at h0
  simp only [Bool.and_eq_true] at h0
  have h1 := List.all_eq_true.1 h0.1.1 _ (methL_mem h)
  simp only at h1
  split at h1
  case h_2 => simp at h1
  rename_i i hi
  split at h1
  case h_2 => simp at h1
  rename_i m hm
  simp only [Bool.and_eq_true] at h1
  obtain ⟨hp, h1⟩ := h1
  have hp : m.path = #[] := by simpa [Array.isEmpty] using hp
  split at h1
  · rename_i f e he hf hu
    simp only [beq_iff_eq] at h1; subst h1
    exact ⟨i, m, true, hi, hm, hp, hf, .inl ⟨rfl, rfl, _, hu⟩⟩
  · rename_i f e he hf hu
    simp only [Bool.and_eq_true, beq_iff_eq] at h1
    obtain ⟨rfl, h1⟩ := h1
    split at h1
    · rename_i e' ht
      simp only [beq_iff_eq] at h1; subst h1
      exact ⟨i, m, false, hi, hm, hp, hf, .inr (.inl ⟨rfl, rfl, _, hu, ht⟩)⟩
    · simp at h1
  · rename_i f e he hf hu
    simp only [beq_iff_eq] at h1; subst h1
    exact ⟨i, m, false, hi, hm, hp, hf, .inr (.inr ⟨rfl, rfl, .inl ⟨_, hu⟩⟩)⟩
  · rename_i f e he hf hu
    simp only [beq_iff_eq] at h1; subst h1
    exact ⟨i, m, false, hi, hm, hp, hf, .inr (.inr ⟨rfl, rfl, .inr (.inl ⟨_, hu⟩)⟩)⟩
  · rename_i f e he hf hu
    simp only [beq_iff_eq] at h1; subst h1
    exact ⟨i, m, false, hi, hm, hp, hf, .inr (.inr ⟨rfl, rfl, .inr (.inr ⟨_, hu⟩)⟩)⟩
  · simp at h1
theorem method_run [tI : Tst] {n : Nat} {t : TypeId} {name : String} {u : Value} {i : TypeInfo} {m : Method} {f : FuncId} {pr : Bool} {w : World} (hi : P.info? t = some i) (hm : i.methods.find? (·.name == name) = some m) (hp : m.path = #[]) (hf : m.func = some (f, pr)) {v : Value}
    (hr : ∀ s, (receiverAt t (.val u) pr (some s)).run P w = .ok v w) : (method (n + 1) t u name).run P w = .ok (f, v) w := by
  rw [method]
  have h1 : (typeInfo t).run P w = .ok i w := by simp only [typeInfo, Sem.run_bind, run_program, Result.andThen_ok, hi]; rfl
  have h2 : (follow m.path.toList t (.val u)).run P w = .ok (t, .val u) w := by rw [hp]; rfl
  rw [Sem.run_bind, h1, Result.andThen_ok]
  simp only [hm, Sem.run_bind, h2, Result.andThen_ok, hf]
  simp [hp, hr]
theorem invK_ok [tI : Tst] (hC : RowsOK P C) (hT : TabOK P tab) (hcall : CallOK P call) {o : Oper} {x : Operand} {name : String} {as : Array Operand} {ts : Array TypeId} (hop : o.op = .call ⟨.invoke x name, as, ts⟩) {sl : List V} {id : Nat} {S : List Ent} {k : V → List Ent → Option R} {r : R}
    (h : invK C tab call (opd sl x) name (as.toList.map (opd sl)) id S k = some r) : ∃ g args v S', k v S' = some r ∧ Leads P o (opd sl) S g args ∧ CallRes P g args id S v S' := by
  have hmem : ∀ y, y = x ∨ y ∈ as.toList → y ∈ o.op.operands := by
    intro y hy
    rw [hop]
    simp only [Op.operands, Call.operands]
    rcases hy with rfl | hy
    · simp
    · simp; right; simpa using hy
  have fin : ∀ (t : TypeId) (q : Operand → Value) (u v : Value) (g : FuncId) (w : World), q x = .iface t u → (method (P.types.size + Made.depth) t u name).run P w = .ok (g, v) w →
      (execOp q o).run P w = (callFunc g (v :: as.toList.map q).toArray).run P w := by
    intro t q u v g w hqx hrun
    have e : (#[v] ++ as.map q) = (v :: as.toList.map q).toArray := by apply Array.ext'; simp
    rw [← e]
    have e2 : (#[q x] ++ as.map q)[0]? = some (q x) := by rw [show (#[q x] ++ as.map q) = (q x :: as.toList.map q).toArray from by apply Array.ext'; simp]; rfl
    have e3 : (#[q x] ++ as.map q).extract 1 (#[q x] ++ as.map q).size = as.map q := by
      apply Array.ext'
      simp [List.take_of_length_le]
    have e4 : (invoke (.fn (.method name) #[]) (#[q x] ++ as.map q)).run P w = (callFunc g (#[v] ++ as.map q)).run P w := by
      rw [invoke, e2]
      simp only [e3]
      rw [hqx, callMethod]
      simp only [Sem.run_bind, run_program, Result.andThen_ok, hrun]
    have e5 : (execOp q o).run P w = (invoke (.fn (.method name) #[]) (#[q x] ++ as.map q)).run P w := by
      simp only [execOp, hop, resolve, Sem.run_bind, Sem.run_pure, Result.andThen_ok]
    rw [e5, e4]
  unfold invK at h
  split at h
  case h_2 => simp at h
  rename_i t v hx
  have base1 : ∀ {E : Env} {q : Operand → Value}, (∀ y ∈ o.op.operands, RepV E (opd sl y) (q y)) → ∃ u, q x = .iface t u ∧ RepV E v u := by
    intro E q hq
    have hxr := hq x (hmem x (.inl rfl))
    rw [hx] at hxr
    simpa only [RepV] using hxr
  have hd : P.types.size + Made.depth = (P.types.size + 99) + 1 := rfl
  split at h
  · rename_i g hm
    obtain ⟨v', S', k1, k2⟩ := callK_ok hT hcall h
    refine ⟨g, _, v', S', k1, ⟨⟨_, hop⟩, ?_⟩, k2⟩
    intro base w0 E w q sim hq
    obtain ⟨u, hqx, hvu⟩ := base1 hq
    refine ⟨u :: as.toList.map q, by simp only [RepVs]; exact ⟨hvu, repVs_map' fun y hy => hq y (hmem y (.inr hy))⟩, fin t q u u g w hqx ?_⟩
    obtain ⟨i, m, pr, h1, h2, h3, h4, h5⟩ := methB_of hC hm
    rw [hd]
    refine method_run h1 h2 h3 h4 fun s => ?_
    rcases h5 with ⟨_, rfl, e, hu⟩ | ⟨hf, _⟩ | ⟨_, rfl, hu⟩
    · simp [receiverAt, run_underlying hu, Place.get]
    · cases hf
    · rcases hu with ⟨e, hu⟩ | ⟨e, hu⟩ | ⟨e, hu⟩ <;> simp [receiverAt, run_underlying hu, Place.get]
  · rename_i g hm
    split at h
    case h_2 => simp at h
    rename_i e htd
    split at h
    case h_2 => simp at h
    rename_i p off
    split at h
    case h_2 => simp at h
    rename_i v1 us1 hld
    obtain ⟨v', S', k1, k2⟩ := callK_ok hT hcall h
    refine ⟨g, _, v', S', k1, ⟨⟨_, hop⟩, ?_⟩, k2⟩
    intro base w0 E w q sim hq
    obtain ⟨u, hqx, hvu⟩ := base1 hq
    obtain ⟨-, z, l1, l2⟩ := load_ok (P := P) hC sim hld rfl hvu
    refine ⟨z :: as.toList.map q, by simp only [RepVs]; exact ⟨l2, repVs_map' fun y hy => hq y (hmem y (.inr hy))⟩, fin t q u z g w hqx ?_⟩
    obtain ⟨i, m, pr, h1, h2, h3, h4, h5⟩ := methB_of hC hm
    rw [hd]
    refine method_run h1 h2 h3 h4 fun s => ?_
    rcases h5 with ⟨hf, _⟩ | ⟨_, rfl, e2, hu, htd2⟩ | ⟨hf, _⟩
    · cases hf
    · rw [htd] at htd2
      obtain rfl := TD.ptr.inj htd2
      simp only [RepV] at hvu
      obtain ⟨_, rfl⟩ := hvu
      have l3 : (loadVar e ⟨E.blk p, off, none⟩).run P w = .ok z w := by simpa [Instr.loadAt, Instr.sureAddr] using l1
      have hchk : ∀ s1 s2, (Builtin.ssaWrapNilChk_ #[t] t #[.pointer (some ⟨E.blk p, off, none⟩), .string s1, .string s2]).run P w = .ok (.pointer (some ⟨E.blk p, off, none⟩)) w := fun _ _ => rfl
      have hget : (Place.get t (.val (.pointer (some ⟨E.blk p, off, none⟩)))).run P w = .ok (.pointer (some ⟨E.blk p, off, none⟩)) w := rfl
      simp only [receiverAt, Sem.run_bind, run_underlying hu, Result.andThen_ok, hget, strVal, hchk, asAddr, Sem.run_pure, l3]
    · cases hf
  · simp at h
theorem keysAdd {k : IntKind} {x : Int} : ∀ (es : List MapEntry) (ks : List Int) (i : Nat), es.map (fun e => e.key) = ks.map (Value.int k) →
    (Instr.findNow (.int k) (.int k x) es i = some none ∧ ks.contains x = false) ∨ (∃ j v, Instr.findNow (.int k) (.int k x) es i = some (some (i + j, v)) ∧ ks.contains x = true ∧ ∃ e, es[j]? = some e ∧ e.key = .int k x)
  | [], [], i, _ => .inl ⟨rfl, rfl⟩
  | e :: es, y :: ks, i, h => by
    simp only [List.map_cons, List.cons.injEq] at h
    obtain ⟨h1, h2⟩ := h
    have hs : Instr.sameNow (.int k) (.int k x) e.key = some (x == y) := by rw [h1]; simp [Instr.sameNow]
    by_cases hxy : x = y
    · subst hxy
      refine .inr ⟨0, e.val, ?_, ?_, e, rfl, h1⟩
      · rw [Instr.findNow, hs]; simp
      · simp
    · have hb : (x == y) = false := by simpa using hxy
      rcases keysAdd es ks (i + 1) h2 with ⟨k1, k2⟩ | ⟨j, v, k1, k2, e', k3, k4⟩
      · refine .inl ⟨?_, ?_⟩
        · rw [Instr.findNow, hs, hb]; exact k1
        · rw [List.contains_cons, hb, k2]; rfl
      · refine .inr ⟨j + 1, v, ?_, ?_, e', by simpa using k3, k4⟩
        · rw [Instr.findNow, hs, hb]
          simp only [k1]
          rw [show i + 1 + j = i + (j + 1) from by omega]
        · rw [List.contains_cons, k2]; simp
  | [], _ :: _, _, h => by simp at h
  | _ :: _, [], _, h => by simp at h
theorem mapB_of (hC : RowsOK P C) {t e : TypeId} {k : IntKind} (h : (C.row t).mapk = some (e, k)) : (∃ v, P.underlying t = some (.map e v)) ∧ P.underlying e = some (.int k) := by
  have h0 := hC t
  unfold rowB at h0
  simp only [Bool.and_eq_true] at h0
  have h1 := h0.1.2
  unfold mapB at h1
  rw [h] at h1
  simp only at h1
  split at h1
  · rename_i e' v hu
    simp only [Bool.and_eq_true, beq_iff_eq] at h1
    obtain ⟨rfl, h1⟩ := h1
    split at h1
    · rename_i j hj
      simp only [beq_iff_eq] at h1; subst h1
      exact ⟨⟨_, hu⟩, hj⟩
    · simp at h1
  · simp at h1
theorem mapK_ok [tI : Tst] (hC : RowsOK P C) {o : Oper} {id : Nat} {r : Operand → V} {S : List Ent} {k : V → List Ent → Option R} {z : R} (h : mapK C o id r S k = some z) : ∃ v S', k v S' = some z ∧ OperRes P C o id r S v S' := by
  unfold mapK at h
  split at h
  · rename_i t hop
    split at h
    case h_2 => simp at h
    rename_i e j hmk
    rw [setE_eq] at h
    refine ⟨_, _, h, by simp, ?_⟩
    intro base w0 E w q sim hargs hid
    have hneed : need C o = 1 := by simp [need, hop]
    rw [hneed] at hid ⊢
    obtain ⟨i1, i2⟩ := hid id (Nat.le_refl _) (by omega)
    have hle := Env.le_add i1 w.heap.size 0 undef 0 none
    refine ⟨.map (some w.heap.size), w.alloc (.map #[] 0), _, .inl ?_, hle, ?_, ?_, ?_⟩
    · have : (newObj (.map #[] 0)).run P w = .ok w.heap.size (w.alloc (.map #[] 0)) := rfl
      simp only [execOp, hop, Instr.makeMap, Sem.run_bind, Option.map_none, this, Result.andThen_ok, Sem.run_pure]
    · refine sim.made (Wider.alloc w _) hle (fun i => i = id) _ (by rw [List.length_set]) ?_ (fun _ _ _ => rfl) ((Wider.alloc w _).lies sim.mem) ?_ ?_ ?_ ?_
      · intro i hi
        exact ⟨ent_set_ne _ hi, fun l => ⟨if_neg (h := instDecidableEqNat i id) hi, if_neg (h := instDecidableEqNat i id) hi⟩⟩
      · rintro i rfl
        rw [ent_set_same _ i2]
        have hb : (E.add i w.heap.size 0 undef 0 none).blk i = w.heap.size := by simp [Env.add]
        exact ⟨.inl rfl, by rw [hb]; exact sim.base_le, #[], 0, by rw [hb]; exact heap_alloc_new w _, rfl⟩
      · rintro i B rfl hb
        rw [ent_set_same _ i2] at hb
        simp only [owns, Env.add, if_true, Option.some.injEq] at hb
        omega
      · rintro i i' B rfl rfl hne; exact absurd rfl hne
      · rintro i (rfl | l)
        · exact .inr i2
        · exact .inl l
    · simp only [RepV, Env.add, if_true]; exact ⟨.inl trivial, trivial⟩
    · rintro x (rfl | l)
      · right; omega
      · exact .inl l
  · rename_i t m key val hop
    split at h
    case h_2 => simp at h
    rename_i e j1 p i x hmk hrm hrk
    split at h
    case h_2 => simp at h
    rename_i j ks hent
    split at h
    case isFalse => simp at h
    rename_i hji
    obtain ⟨hji, hji2⟩ := hji
    subst hji hji2
    rw [setE_eq] at h
    refine ⟨_, _, h, by simp, ?_⟩
    intro base w0 E w q sim hargs hid
    obtain ⟨⟨ve, hu⟩, hk⟩ := mapB_of hC hmk
    have hm := hargs m (by rw [hop]; simp [Op.operands])
    have hky := hargs key (by rw [hop]; simp [Op.operands])
    rw [hrm] at hm
    rw [hrk] at hky
    simp only [RepV] at hm
    obtain ⟨hlive, hqm⟩ := hm
    obtain ⟨hqk, hrg⟩ := rep_int_iff.1 hky
    have he := sim.ents p
    rw [hent] at he
    obtain ⟨_, hbase, es, c, hh, hes⟩ := he
    have hblt : E.blk p < w.heap.size := (Array.getElem?_eq_some_iff.1 hh).1
    have hplt := sim.lt p hlive
    have key : ∀ (es' : Array MapEntry) (c' : Nat), es'.toList.map (fun e => e.key) = (addKey ks x).map (Value.int j) → (execOp q o).run P w = .ok .skip { w with heap := w.heap.setIfInBounds (E.blk p) (.map es' c') } →
        ∃ u w' E', ((execOp q o).run P w = .ok (.value u) w' ∨ ((execOp q o).run P w = .ok .skip w' ∧ u = undef)) ∧ E.Le E' ∧ Sim base w0 E' (S.set p (.keys j (addKey ks x))) w' ∧ RepV E' .un u ∧ ∀ x, E'.live x → E.live x ∨ (id ≤ x ∧ x < id + need C o) := by
      intro es' c' hk' hrun
      have hother : ∀ b, b ≠ E.blk p → (w.heap.setIfInBounds (E.blk p) (.map es' c'))[b]? = w.heap[b]? := by
        intro b hb; rw [Array.getElem?_setIfInBounds, if_neg (fun e => hb e.symm)]
      refine ⟨undef, _, E, .inr ⟨hrun, rfl⟩, Env.Le.refl E, ?_, by simp [RepV], fun x l => .inl l⟩
      refine sim.step (Env.Le.refl E) ⟨rfl, rfl, rfl, by simp, fun b hb _ => hother b (by omega)⟩ (fun i => i = p) ?_ ?_ ?_ ?_ ?_ ?_ ?_ (fun _ _ _ => rfl)
      · intro i hi
        exact ⟨ent_set_ne _ hi, fun _ => ⟨rfl, rfl⟩⟩
      · intro i B hi hB
        refine ⟨hother B ?_, fun _ => rfl⟩
        rintro rfl
        exact sim.apart i p _ hi hB (by rw [hent]; rfl)
      · intro b o' v hv
        have := sim.mem b o' v hv
        by_cases hb : b = E.blk p
        · subst hb
          simp [World.cell?, hh] at this
        · simpa only [World.cell?, hother b hb] using this
      · rintro i rfl
        rw [ent_set_same _ hplt]
        refine ⟨hlive, hbase, es', c', ?_, hk'⟩
        rw [Array.getElem?_setIfInBounds, if_pos rfl, if_pos hblt]
      · rintro i B rfl hB i' hi' hB'
        rw [ent_set_same _ hplt] at hB
        simp only [owns, Option.some.injEq] at hB
        subst hB
        exact sim.apart i' i _ hi' hB' (by rw [hent]; rfl)
      · rintro i i' B rfl rfl hne; exact absurd rfl hne
      · intro i l
        simpa using sim.lt i l
    have hck : (Instr.checkKey false 10000 e (.int j x)).run P w = .ok () w := by
      rw [Instr.checkKey]
      simp only [Sem.run_bind, run_underlying hk, Result.andThen_ok, Sem.run_pure]
    have hget : (getObj (E.blk p)).run P w = .ok (.map es c) w := by simp [getObj, Sem.run, hh]
    have hset : ∀ o', (setObj (E.blk p) o').run P w = .ok () { w with heap := w.heap.setIfInBounds (E.blk p) o' } := fun o' => by simp [setObj, Sem.run, hh]
    rcases keysAdd (k := j) (x := x) es.toList ks 0 hes with ⟨k1, k2⟩ | ⟨n, v, k1, k2, e', k3, k4⟩
    · refine key (es.push { key := .int j x, val := q val, born := c }) (c + 1) ?_ ?_
      · rw [Array.toList_push, List.map_append, hes, addKey, k2]; simp
      · simp only [execOp, hop, Instr.mapUpdate, hqm, hqk, Sem.run_bind, run_underlying hu, Result.andThen_ok, hck, hget, Instr.findKey, run_underlying hk, k1, Sem.run_pure, hset]
    · refine key (es.modify (0 + n) fun e => { e with key := .int j x, val := q val }) c ?_ ?_
      · rw [addKey, k2]
        simp only []
        rw [← hes]
        apply List.ext_getElem?
        intro y
        simp only [List.getElem?_map, Array.getElem?_toList, Array.getElem?_modify, Nat.zero_add]
        by_cases hy : n = y
        · subst hy
          rw [Array.getElem?_toList] at k3
          simp [k3, k4]
        · rw [if_neg hy]
      · have hst : ∀ old, old = Value.int j x → (Instr.keyThatStays old (.int j x)).run P w = .ok (.int j x) w := by
          rintro _ rfl
          have : Instr.sameBits 10000 (.int j x) (.int j x) = true := by
            rw [Instr.sameBits]; simp
          simp only [Instr.keyThatStays, this, if_true, Sem.run_pure]
        have hold : ((es[0 + n]?).map (fun e => e.key)).getD (.int j x) = .int j x := by
          rw [Array.getElem?_toList] at k3
          rw [Nat.zero_add, k3]; exact k4
        simp only [execOp, hop, Instr.mapUpdate, hqm, hqk, Sem.run_bind, run_underlying hu, Result.andThen_ok, hck, hget, Instr.findKey, run_underlying hk, k1, Sem.run_pure, hold, hst, hset]
  · rename_i args argTypes hop
    split at h
    case h_2 => simp at h
    rename_i p t hx ht
    split at h
    case h_2 => simp at h
    rename_i ek j ks hmk hent
    split at h
    case isFalse => simp at h
    rename_i hlen
    refine ⟨_, _, h, Nat.le_refl _, ?_⟩
    intro base w0 E w q sim hargs hid
    obtain ⟨x, hx1, hx2⟩ := Option.map_eq_some_iff.1 hx
    have hxm := hargs x (by
      rw [hop]
      have : x ∈ args.toList := List.mem_of_getElem? hx1
      simp only [Op.operands, Call.operands]
      simpa using this)
    rw [hx2] at hxm
    simp only [RepV] at hxm
    obtain ⟨hlive, hqx⟩ := hxm
    have he := sim.ents p
    rw [hent] at he
    obtain ⟨_, hbase, es, c, hh, hes⟩ := he
    obtain ⟨⟨ve, hu⟩, hk⟩ := mapB_of (e := ek.1) (k := ek.2) hC hmk
    have hget : (getObj (E.blk p)).run P w = .ok (.map es c) w := by simp [getObj, Sem.run, hh]
    have hsz : es.size = ks.length := by
      have := congrArg List.length hes
      simpa using this
    have ha : (args.map q)[0]? = some (q x) := by
      rw [Array.getElem?_map]
      have : args[0]? = some x := by simpa using hx1
      rw [this]; rfl
    have hta : argTypes[0]? = some t := by simpa using ht
    refine ⟨goInt ks.length, w, E, .inl ?_, Env.Le.refl E, sim, ?_, fun x l => .inl l⟩
    · have : (Builtin.len_ argTypes o.type (args.map q)).run P w = .ok (goInt ks.length) w := by
        simp only [Builtin.len_, ha, hta, Sem.run_bind, run_underlying hu, Result.andThen_ok, hqx, hget, Sem.run_pure, hsz]
      simp only [execOp, hop, resolve, invoke, builtin, Sem.run_bind, Sem.run_pure, Result.andThen_ok, this]
    · refine rep_int ?_
      simp only [IntKind.min, IntKind.max, IntKind.bits, IntKind.signed]
      simp
      omega
  · simp at h
theorem touch_map {tab : Tab} {o : Oper} {r : Operand → V} (h : isMap o r = true) : touch tab o r = .all := by
  unfold isMap at h
  split at h
  · rename_i hop; simp [touch, hop]
  · rename_i hop; simp [touch, hop]
  · rename_i hop
    simp only [touch, hop]
    split at h
    · rename_i hx; simp only [hx]
    · simp at h
  · simp at h
theorem evOper_step [tI : Tst] (hC : RowsOK P C) (hT : TabOK P tab) (hcall : CallOK P call) {o : Oper} {i id : Nat} (ho : all[i]? = some o) {sl : List V} (hg : guardIs all o sl) {S : List Ent} {k : List V → List Ent → Option R} {r : R} (h : evOper C tab call o id sl S k = some r) :
    ∃ sl' S', Step P C tab all i id sl S (touch tab o (opd sl)) sl' S' ∧ k sl' S' = some r := by
  unfold evOper at h
  split at h
  · rename_i f as ts hop
    split at h
    · rename_i g fi cap hf
      cases htb : tab g with
      | some y =>
        rw [htb] at h
        simp only at h
        split at h
        · rename_i hrow
          split at h
          · rename_i b v us ht
            cases b with
            | false => simp [br] at h
            | true =>
            simp only [br] at h
            rw [setsE_eq, dstK_eq] at h
            have htc : touch tab o (opd sl) = .new := by simp only [touch, hop, hf, htb, hrow]
            exact ⟨_, _, by rw [htc]; exact .tab o ho hg f as ts hop g fi cap hf v us ht, h⟩
          · simp at h
        · rename_i hrow
          obtain ⟨v, S', k1, k2⟩ := rowCall_ok hT h
          rw [dstK_eq] at k1
          have htc : touch tab o (opd sl) = .all := by simp only [touch, hop, hf, htb, hrow]
          exact ⟨_, _, by rw [htc]; exact .call o ho hg f as ts hop g fi cap hf v S' k2, k1⟩
      | none =>
        rw [htb] at h
        simp only at h
        obtain ⟨v, S', k1, k2⟩ := hcall _ _ _ _ _ _ h
        rw [dstK_eq] at k1
        have htc : touch tab o (opd sl) = .all := by simp [touch, hop, hf, htb]
        exact ⟨_, _, by rw [htc]; exact .call o ho hg f as ts hop g fi cap hf v S' k2, k1⟩
    · simp at h
  · rename_i x name as ts hop
    obtain ⟨g, args, v, S', k1, k2, k3⟩ := invK_ok hC hT hcall hop h
    rw [dstK_eq] at k1
    have htc : touch tab o (opd sl) = .all := by simp [touch, hop]
    exact ⟨_, _, by rw [htc]; exact .inv o ho hg g args k2 v S' k3, k1⟩
  · rename_i t n ps hop
    split at h
    · split at h
      · rename_i g v us he
        cases g with
        | false => simp [br] at h
        | true =>
          simp only [br] at h
          rw [setsE_eq, dstK_eq] at h
          exact ⟨_, _, .op o ho hg ⟨fun f as ts e => by rw [hop] at e; simp at e, fun f m as ts e => by rw [hop] at e; simp at e⟩ v us he, h⟩
      · simp at h
    · rename_i hrow
      obtain ⟨v, S', k1, k2⟩ := rowBuild_ok hC h
      rw [dstK_eq] at k1
      have htc : touch tab o (opd sl) = .all := by simp only [touch, hop, hrow]
      exact ⟨_, _, by rw [htc]; exact .sem o ho hg v S' k2, k1⟩
  · rename_i h1 h2 h3
    split at h
    · rename_i hmap
      obtain ⟨v, S', k1, k2⟩ := mapK_ok hC h
      rw [dstK_eq] at k1
      have htc : touch tab o (opd sl) = .all := touch_map hmap
      exact ⟨_, _, by rw [htc]; exact .sem o ho hg v S' k2, k1⟩
    split at h
    · rename_i g v us he
      cases g with
      | false => simp [br] at h
      | true =>
        simp only [br] at h
        rw [setsE_eq, dstK_eq] at h
        exact ⟨_, _, .op o ho hg ⟨fun f as ts hop => h1 f as ts hop, fun f m as ts hop => h2 f m as ts hop⟩ v us he, h⟩
    · simp at h

theorem evOps_run [tI : Tst] (hC : RowsOK P C) (hT : TabOK P tab) (hcall : CallOK P call) {idOf : Nat → Nat} (hidOf : ∀ i o, all[i]? = some o → idOf (i + 1) = idOf i + need C o) : ∀ (os : List Oper) (i : Nat) (sl : List V) (S : List Ent) (ts : List Touch) (k : List V → List Ent → List Touch → Option R) (r : R),
    os = all.toList.drop i → evOps C tab call all os (idOf i) sl S ts k = some r → ∃ ts' sl' S', Run P C tab all idOf (List.range' i os.length) sl S ts' sl' S' ∧ ts'.length = os.length ∧ k sl' S' (ts'.reverse ++ ts) = some r
  | [], i, sl, S, ts, k, r, _, h => ⟨[], sl, S, .nil _ _, rfl, by simpa [evOps] using h⟩
  | o :: os, i, sl, S, ts, k, r, hos, h => by
    have ho : all[i]? = some o := by
      have : (all.toList.drop i)[0]? = some o := by rw [← hos]; rfl
      rw [List.getElem?_drop] at this
      simpa using this
    have hos' : os = all.toList.drop (i + 1) := by
      have := congrArg (List.drop 1) hos
      simpa [List.drop_drop] using this
    have next : ∀ (t : Touch) (sl1 : List V) (S1 : List Ent), Step P C tab all i (idOf i) sl S t sl1 S1 → evOps C tab call all os (idOf (i + 1)) sl1 S1 (t :: ts) k = some r →
        ∃ ts' sl' S', Run P C tab all idOf (List.range' i (o :: os).length) sl S ts' sl' S' ∧ ts'.length = (o :: os).length ∧ k sl' S' (ts'.reverse ++ ts) = some r := by
      intro t sl1 S1 hst hr
      obtain ⟨ts', sl', S', k1, k2, k3⟩ := evOps_run hC hT hcall hidOf os (i + 1) sl1 S1 (t :: ts) k r hos' hr
      refine ⟨t :: ts', sl', S', ?_, by simp [k2], by simpa using k3⟩
      rw [List.length_cons, List.range'_succ]
      exact .cons i _ _ _ _ _ _ _ _ _ hst k1
    have runs : guardIs all o sl → (runK C tab call o (idOf i) sl S ts fun id sl S ts => evOps C tab call all os id sl S ts k) = some r →
        ∃ ts' sl' S', Run P C tab all idOf (List.range' i (o :: os).length) sl S ts' sl' S' ∧ ts'.length = (o :: os).length ∧ k sl' S' (ts'.reverse ++ ts) = some r := by
      intro hg hr
      unfold runK at hr
      obtain ⟨sl1, S1, hst, h2⟩ := evOper_step hC hT hcall ho hg hr
      rw [addK_eq, forceT_eq, ← hidOf i o ho] at h2
      exact next _ _ _ hst h2
    have skips : guardNot all o sl → (skipK C o (idOf i) sl S ts fun id sl S ts => evOps C tab call all os id sl S ts k) = some r →
        ∃ ts' sl' S', Run P C tab all idOf (List.range' i (o :: os).length) sl S ts' sl' S' ∧ ts'.length = (o :: os).length ∧ k sl' S' (ts'.reverse ++ ts) = some r := by
      intro hg hr
      unfold skipK at hr
      rw [dstK_eq, addK_eq, ← hidOf i o ho] at hr
      exact next _ _ _ (.skip o ho hg) hr
    simp only [evOps, stepK] at h
    cases hgd : o.guard with
    | none =>
      rw [hgd] at h
      exact runs (by simp [guardIs, hgd]) h
    | some gw =>
      obtain ⟨j, want⟩ := gw
      rw [hgd] at h
      simp only at h
      cases hd : (all[j]?).bind (·.dst) with
      | none => rw [hd] at h; simp at h
      | some d =>
        rw [hd] at h
        simp only at h
        split at h
        · rename_i x hx
          have key : ∀ b, x = b → sl.set d (.d .bo b) = sl := by
            rintro b rfl
            exact set_look sl d _ hx (by simp)
          cases want with
          | true =>
            simp only at h
            cases x with
            | true =>
              simp only [br] at h
              rw [setK_eq, key true rfl] at h
              exact runs (by simp only [guardIs, hgd]; exact ⟨d, hd, hx⟩) h
            | false =>
              simp only [br] at h
              rw [setK_eq, key false rfl] at h
              exact skips (by simp only [guardNot, hgd]; exact ⟨d, hd, .inl hx⟩) h
          | false =>
            simp only at h
            cases x with
            | true =>
              simp only [br] at h
              rw [setK_eq, key true rfl] at h
              exact skips (by simp only [guardNot, hgd]; exact ⟨d, hd, .inl hx⟩) h
            | false =>
              simp only [br] at h
              rw [setK_eq, key false rfl] at h
              exact runs (by simp only [guardIs, hgd]; exact ⟨d, hd, hx⟩) h
        · rename_i hx
          exact skips (by simp only [guardNot, hgd]; exact ⟨d, hd, .inr hx⟩) h
        · simp at h

theorem length_setAt (sl : List V) (dst : Option Tmp) (v : V) : (setAt sl dst v).length = sl.length := by cases dst <;> simp [setAt]
theorem Step.len [tI : Tst] {i id : Nat} {sl sl' : List V} {S S' : List Ent} {t : Touch} (h : Step P C tab all i id sl S t sl' S') (hT : TabOK P tab) : S.length ≤ S'.length := by
  cases h with
  | skip => exact Nat.le_refl _
  | op _ _ _ _ v us => exact Nat.le_of_eq (length_sets us S).symm
  | tab _ _ _ _ _ _ _ _ _ _ _ v us => exact Nat.le_of_eq (length_sets us S).symm
  | call _ _ _ _ _ _ _ _ _ _ _ _ S' he => exact he.1
  | inv _ _ _ _ _ _ _ S' he => exact he.1
  | sem _ _ _ _ S' he => exact he.1

/-- ids of the entries that the operations to come may make: not there yet -/
def Fresh (C : Ctx) (all : Array Oper) (idOf : Nat → Nat) (is : List Nat) (E : Env) (S : List Ent) : Prop :=
  ∀ i ∈ is, ∀ o, all[i]? = some o → ∀ j, idOf i ≤ j → j < idOf i + need C o → ¬ E.live j ∧ j < S.length
def Apart (C : Ctx) (all : Array Oper) (idOf : Nat → Nat) : Prop := ∀ i i' o o', i ≠ i' → all[i]? = some o → all[i']? = some o' → ∀ x, idOf i ≤ x → x < idOf i + need C o → ¬ (idOf i' ≤ x ∧ x < idOf i' + need C o')
theorem Fresh.step {idOf : Nat → Nat} (hap : Apart C all idOf) {i : Nat} {is : List Nat} (hi : i ∉ is) {E E' : Env} {S S' : List Ent} (h : Fresh C all idOf (i :: is) E S) (hl : S.length ≤ S'.length) (hib : ∃ o, all[i]? = some o)
    (hlive : ∀ o, all[i]? = some o → ∀ x, E'.live x → E.live x ∨ (idOf i ≤ x ∧ x < idOf i + need C o) ∨ S.length ≤ x) : Fresh C all idOf is E' S' := by
  intro j hj o ho x hx hx'
  have h1 := h j (List.mem_cons_of_mem _ hj) o ho x hx hx'
  refine ⟨fun l => ?_, by omega⟩
  obtain ⟨o', ho'⟩ := hib
  rcases hlive o' ho' x l with l | l | l
  · exact h1.1 l
  · exact hap i j o' o (by rintro rfl; exact hi hj) ho' ho x l.1 l.2 ⟨hx, hx'⟩
  · omega
theorem Step.idx [tI : Tst] {i id : Nat} {sl sl' : List V} {S S' : List Ent} {t : Touch} (h : Step P C tab all i id sl S t sl' S') : ∃ o, all[i]? = some o := by
  cases h with
  | skip o ho => exact ⟨o, ho⟩
  | op o ho => exact ⟨o, ho⟩
  | tab o ho => exact ⟨o, ho⟩
  | call o ho => exact ⟨o, ho⟩
  | inv o ho => exact ⟨o, ho⟩
  | sem o ho => exact ⟨o, ho⟩

theorem Run.wpOps [tI : Tst] (hC : RowsOK P C) (hT : TabOK P tab) {idOf : Nat → Nat} (hap : Apart C all idOf) {N : Nat} (hN : ∀ i, N ≤ idOf i) {Q : Exit → Act → World → Prop} {w0 : World} {base : Nat} : ∀ {is : List Nat} {sl sl' : List V} {S S' : List Ent} {ts : List Touch}, Run P C tab all idOf is sl S ts sl' S' → is.Nodup → N ≤ S.length →
    ∀ {E : Env} {w : World} {a : Act}, Sim base w0 E S w → SimA E sl a → Fresh C all idOf is E S → (∀ E' a' w', E.Le E' → (∀ x, E'.live x → E.live x ∨ N ≤ x) → Sim base w0 E' S' w' → SimA E' sl' a' → Q .normal a' w') → wpOps P all Q is a w
  | [], _, _, _, _, _, .nil _ _, _, _, E, w, a, sim, ha, _, hQ => hQ E a w (Env.Le.refl E) (fun _ l => .inl l) sim ha
  | i :: is, _, _, _, _, _, .cons _ _ _ _ _ _ _ _ _ _ hst r, hnd, hNS, E, w, a, sim, ha, hf, hQ => by
    rw [wpOps_cons]
    rw [List.nodup_cons] at hnd
    refine hst.wp hC hT sim ha (hf i (List.mem_cons_self ..)) ?_
    intro E' a' w' k1 k2 k3 k4
    obtain ⟨o, ho⟩ := hst.idx
    exact Run.wpOps hC hT hap hN r hnd.2 (Nat.le_trans hNS (hst.len hT)) k2 k3 (hf.step hap hnd.1 (hst.len hT) hst.idx k4) (fun E2 a2 w2 l1 l0 l2 l3 => hQ E2 a2 w2 (k1.trans l1) (fun x l => (l0 x l).elim (fun l => (k4 o ho x l).imp_right fun h => h.elim (fun h => Nat.le_trans (hN i) h.1) (fun h => Nat.le_trans hNS h)) .inr) l2 l3)
end
end Go.Proofs.Ytmpmmfbgdpfnpaa.Ev
/- Where the order of a region's operations is left open: operations that are apart may be exchanged. -/
namespace Go.Proofs.Ytmpmmfbgdpfnpaa.Ev
open Go Go.RowKit
set_option linter.unusedVariables false
set_option linter.unusedSimpArgs false

section
variable {P : Program} {C : Ctx} {tab : Tab} {all : Array Oper}

theorem evOp_ext [tI : Tst] {o : Oper} {id : Nat} {r r' : Operand → V} {S : List Ent} (h : ∀ x ∈ o.op.operands, r x = r' x) : evOp C o id r S = evOp C o id r' S := by
  obtain ⟨dst, op, type, pos, after, guard⟩ := o
  have pairs : ∀ ps : Array (Nat × Operand), (∀ x ∈ ps.toList.map (·.2), r x = r' x) → (ps.toList.map fun (i, x) => (i, r x)) = (ps.toList.map fun (i, x) => (i, r' x)) := fun ps hp =>
    List.map_congr_left fun p hm => by
      obtain ⟨i, x⟩ := p
      simp only [hp x (List.mem_map.2 ⟨(i, x), hm, rfl⟩)]
  cases op <;> simp only [Op.operands] at h <;> simp only [evOp]
  case build t ps => rw [pairs ps fun x hx => h x (by simpa using hx)]
  case buildSlice t n ps => rw [pairs ps fun x hx => h x (by simpa using hx)]
  case makeFunc fn first captured =>
    cases fn <;> simp only []
    rw [List.map_congr_left (l := captured.toList) fun x hx => h x (by simp; right; simpa using hx), List.map_congr_left (l := first.toList) fun x hx => h x (by simp; left; simpa using hx)]
  case call c =>
    obtain ⟨callee, args, argTypes⟩ := c
    cases callee with
    | value f => rfl
    | invoke rv m => rfl
    | builtin b =>
      simp only [Call.operands] at h
      have hh : ∀ x ∈ args.toList, r x = r' x := fun x hx => h x (by simpa using hx)
      simp only []
      split
      · rename_i x t ha hat; rw [hh x (by rw [ha]; simp)]
      · rename_i s x st xt ha hat; rw [hh s (by rw [ha]; simp), hh x (by rw [ha]; simp)]
      · rename_i d x dt xt ha hat; rw [hh d (by rw [ha]; simp), hh x (by rw [ha]; simp)]
      · rename_i x t ha hat; rw [hh x (by rw [ha]; simp)]
      · rename_i x y ha; rw [hh x (by rw [ha]; simp), hh y (by rw [ha]; simp)]
      · rename_i x y ha; rw [hh x (by rw [ha]; simp), hh y (by rw [ha]; simp)]
      · rfl
  case slice t x lo hi mx => cases lo <;> cases hi <;> cases mx <;> simp_all
  all_goals (first | rfl | (simp_all; done))
theorem touch_ext {o : Oper} {r r' : Operand → V} (h : ∀ x ∈ o.op.operands, r x = r' x) : touch tab o r = touch tab o r' := by
  obtain ⟨dst, op, type, pos, after, guard⟩ := o
  cases op <;> simp only [Op.operands] at h <;> simp only [touch]
  case call c =>
    obtain ⟨callee, args, argTypes⟩ := c
    cases callee with
    | value f =>
      simp only [Call.operands] at h
      dsimp only
      rw [h f (by simp), List.map_congr_left (l := args.toList) (fun x hx => h x (by simp; right; simpa using hx))]
    | invoke rv m => rfl
    | builtin b =>
      simp only [Call.operands] at h
      have e : ∀ i : Nat, (args.toList[i]?).map r = (args.toList[i]?).map r' := by
        intro i
        cases hi : args.toList[i]? with
        | none => rfl
        | some x =>
          have := h x (by have := List.mem_of_getElem? hi
                          simpa using this)
          simp [this]
      cases b <;> dsimp only <;> (try rw [e 0]) <;> (try rw [e 1])
  case buildSlice t n ps =>
    rw [List.map_congr_left (l := ps.toList) (f := fun (x : Nat × Operand) => r x.2) (g := fun (x : Nat × Operand) => r' x.2) (fun x hx => h x.2 (by simp; exact ⟨x.1, by simpa using hx⟩))]
  case slice t x lo hi mx => cases mx <;> rfl
  case assign x => rw [h x (by simp)]
  case load t x => rw [h x (by simp)]
  case store t x y => rw [h x (by simp)]
  case convert s d x => rw [h x (by simp)]

theorem evOp_loc [tI : Tst] {o : Oper} {id : Nat} {r : Operand → V} {S S' : List Ent} (hna : touch tab o r ≠ .all) (h : ∀ n, touch tab o r = .rd n ∨ touch tab o r = .wr n → ent S n = ent S' n) : evOp C o id r S = evOp C o id r S' := by
  obtain ⟨dst, op, type, pos, after, guard⟩ := o
  cases op <;> simp only [touch] at h hna <;> simp only [evOp]
  case makeFunc fn _ _ => cases fn <;> rfl
  case convert s d x =>
    have : convS C s d (r x) S = convS C s d (r x) S' := by
      unfold convS
      split
      · rename_i e n xs hsd htd hx
        rw [hsd, hx] at h
        rw [h n (.inr rfl)]
      · rfl
    rw [this]
  case load t x =>
    unfold loadV
    split
    · rfl
    · split
      · rename_i n a hx; rw [hx] at h; rw [h n (.inl rfl)]
      · rfl
      · rename_i n k a s hx; rw [hx] at h; rw [h n (.inl rfl)]
      · rfl
  case store t x y =>
    unfold storeV
    split
    · rfl
    · split
      · rename_i n a hx; rw [hx] at h; rw [h n (.inr rfl)]
      · rename_i n k a s hx; rw [hx] at h; rw [h n (.inr rfl)]
      · rfl
  case call c =>
    obtain ⟨callee, args, argTypes⟩ := c
    cases callee with
    | value f => rfl
    | invoke rv m => rfl
    | builtin b =>
      simp only []
      split
      · rfl
      · rename_i s x st xt ha hat
        simp only [ha, List.getElem?_cons_zero, List.getElem?_cons_succ, Option.map_some] at h hna
        have hx : ∀ o k a n z c, r x ≠ .sr o k a n z c := by
          intro o k a n z c e
          rw [e] at hna
          simp at hna
        unfold appendV
        split
        · simp only [forceTy_eq]
          have hnews : ∀ (td : TD) (t : Ty), newsV S t td (r x) = newsV S' t td (r x) := by
            intro td t
            unfold newsV
            split <;> first | rfl | (rename_i hh; exact absurd hh (hx _ _ _ _ _ _))
          rw [hnews]
          congr 1
          funext y
          obtain ⟨g, ys⟩ := y
          simp only []
          have hs : ∀ n, ((∃ t xs, r s = .own n t xs) ∨ ∃ k a m z c, r s = .sr n k a m z c) → ent S n = ent S' n := by
            intro n hn
            refine h n (.inr ?_)
            rcases hn with ⟨t, xs, e⟩ | ⟨k, a, m, z, c, e⟩
            · rw [e]; split
              · rename_i hh; simp only [Option.some.injEq] at hh; exact absurd hh (hx _ _ _ _ _ _)
              · rfl
            · rw [e]; split
              · rename_i hh; simp only [Option.some.injEq] at hh; exact absurd hh (hx _ _ _ _ _ _)
              · rfl
          split
          · rfl
          · rename_i n k m z c hh
            rw [hs n (.inr ⟨_, _, _, _, _, hh⟩)]
          · rename_i n t' xs' hh
            rw [hs n (.inl ⟨_, _, hh⟩)]
          · rfl
        · rfl
      · rename_i ha hat; simp at hna
      · rename_i ha hat; simp at hna
      · rfl
      · rfl
      · rfl

theorem zeroFams_lt : ∀ (ts : List Ty) (id : Nat), ∀ x ∈ zeroFams ts id, x.1 < id + slices ts
  | [], _, _, h => by simp [zeroFams] at h
  | t :: ts, id, x, h => by
    cases t <;> simp only [zeroFams, List.mem_cons] at h <;> simp only [slices] <;> first
      | exact zeroFams_lt ts id x h
      | (rcases h with rfl | h
         · simp only []; omega
         · have := zeroFams_lt ts (id + 1) x h; omega)

theorem val_nil {v v' : V} {g : Bool} {us : List (Nat × Ent)} (h : val v = some (g, v', us)) : us = [] := by
  simp only [val, Option.some.injEq, Prod.mk.injEq] at h; exact h.2.2.symm

theorem evOp_foot [tI : Tst] {o : Oper} {id : Nat} {r : Operand → V} {S : List Ent} {g : Bool} {v : V} {us : List (Nat × Ent)} (hna : touch tab o r ≠ .all) (h : evOp C o id r S = some (g, v, us)) :
    ∀ p ∈ us, (id ≤ p.1 ∧ p.1 < id + need C o ∧ (touch tab o r = .new ∨ ∃ n, touch tab o r = .wr n)) ∨ touch tab o r = .wr p.1 := by
  have nil : us = [] → ∀ p ∈ us, (id ≤ p.1 ∧ p.1 < id + need C o ∧ (touch tab o r = .new ∨ ∃ n, touch tab o r = .wr n)) ∨ touch tab o r = .wr p.1 := by
    rintro rfl p hp; simp at hp
  obtain ⟨dst, op, type, pos, after, guard⟩ := o
  cases op <;> simp only [evOp] at h
  case move x => exact nil (val_nil h)
  case assign x =>
    split at h
    · rename_i hx
      split at h
      · rename_i t hty
        split at h
        all_goals
          simp only [Option.some.injEq, Prod.mk.injEq] at h
          obtain ⟨-, -, rfl⟩ := h
          intro p hp
          simp only [List.mem_singleton] at hp
          subst hp
          left
          refine ⟨Nat.le_refl _, by simp [need, hty], .inl ?_⟩
          simp [touch, hx]
      · exact nil (val_nil h)
    · exact nil (val_nil h)
  case pick c a b =>
    split at h
    · exact nil (val_nil h)
    · simp at h
  case alloc t =>
    split at h
    · split at h
      · simp only [Option.some.injEq, Prod.mk.injEq] at h
        obtain ⟨-, -, rfl⟩ := h
        intro p hp
        left
        refine ⟨?_, ?_, .inl (by simp [touch])⟩
        · rcases List.mem_cons.1 hp with rfl | hp
          · exact Nat.le_refl _
          · have := zeroFams_ne _ _ p hp; omega
        · simp only [need]
          rcases List.mem_cons.1 hp with rfl | hp
          · simp only []; omega
          · have := zeroFams_lt _ _ p hp; omega
      · simp only [Option.some.injEq, Prod.mk.injEq] at h
        obtain ⟨-, -, rfl⟩ := h
        intro p hp
        left
        refine ⟨?_, ?_, .inl (by simp [touch])⟩
        · rcases List.mem_cons.1 hp with rfl | hp
          · exact Nat.le_refl _
          · have := zeroRows_ne _ _ p hp; omega
        · simp only [need]
          rcases List.mem_cons.1 hp with rfl | hp
          · simp only []; omega
          · have := zeroRows_lt _ _ p hp; omega
    · simp at h
  case makeSlice t l c =>
    split at h
    · simp only [forceTy_eq, Option.some.injEq, Prod.mk.injEq] at h
      obtain ⟨-, -, rfl⟩ := h
      intro p hp
      simp only [List.mem_singleton] at hp
      subst hp
      exact .inl ⟨Nat.le_refl _, by simp [need], .inl (by simp [touch])⟩
    · simp at h
  case box t x =>
    simp only [Option.map_eq_some_iff, Prod.mk.injEq] at h
    obtain ⟨vs, -, -, -, rfl⟩ := h
    intro p hp
    simp only [List.mem_singleton] at hp
    subst hp
    exact .inl ⟨Nat.le_refl _, by simp [need], .inl (by simp [touch])⟩
  case build t ps =>
    split at h
    · simp only [Option.bind_eq_some_iff] at h; obtain ⟨_, _, h⟩ := h; exact nil (val_nil h)
    · simp only [Option.bind_eq_some_iff] at h; obtain ⟨_, _, h⟩ := h; exact nil (val_nil h)
    · simp at h
  case buildSlice t n ps =>
    split at h
    · split at h
      · simp only [forceTy_eq, Option.bind_eq_some_iff, Option.some.injEq, Prod.mk.injEq] at h
        obtain ⟨xs, -, h⟩ := h
        have hus : ∀ p ∈ us, p.1 = id := by
          split at h
          · simp only [Option.some.injEq, Prod.mk.injEq] at h
            obtain ⟨-, -, rfl⟩ := h
            intro p hp
            simp only [List.mem_singleton] at hp
            subst hp; rfl
          · simp only [Option.some.injEq, Prod.mk.injEq] at h
            obtain ⟨-, -, rfl⟩ := h
            intro p hp
            simp only [List.mem_singleton] at hp
            subst hp; rfl
        intro p hp
        refine .inl ⟨by rw [hus p hp]; exact Nat.le_refl _, by rw [hus p hp]; simp [need], .inl ?_⟩
        simp only [touch] at hna ⊢
        split
        · rfl
        · rename_i hrow; rw [hrow] at hna; simp at hna
      · simp at h
    · simp at h
  case load t x =>
    unfold loadV at h
    split at h
    · simp at h
    · split at h
      · split at h
        · split at h
          · split at h
            · exact nil (val_nil h)
            · split at h
              · exact nil (val_nil h)
              · simp at h
          · simp at h
        · simp at h
      · split at h
        · exact nil (val_nil h)
        · simp at h
      · split at h
        · split at h
          · simp only [Option.some.injEq, Prod.mk.injEq] at h; exact nil h.2.2.symm
          · simp at h
        · simp at h
      · simp at h
  case store t x y =>
    unfold storeV at h
    split at h
    · simp at h
    · split at h
      · rename_i n a hx
        split at h
        · simp only [Option.bind_eq_some_iff] at h
          obtain ⟨⟨vs, fs⟩, h1, h2⟩ := h
          simp only at h1 h2
          split at h2
          · simp only [Option.some.injEq, Prod.mk.injEq] at h2
            obtain ⟨-, -, rfl⟩ := h2
            have ht : touch tab { dst := dst, op := Op.store t x y, type := type, pos := pos, after := after, guard := guard } r = .wr n := by simp [touch, hx]
            intro p hp
            rcases List.mem_cons.1 hp with rfl | hp
            · exact .inr ht
            · split at h1
              · split at h1
                · rename_i e hty
                  simp only [Option.some.injEq, Prod.mk.injEq] at h1
                  obtain ⟨-, rfl⟩ := h1
                  simp only [List.mem_singleton] at hp
                  subst hp
                  exact .inl ⟨Nat.le_refl _, by simp [need, hty], .inr ⟨_, ht⟩⟩
                · simp at h1
              · simp only [Option.map_eq_some_iff, Prod.mk.injEq] at h1
                obtain ⟨_, _, _, rfl⟩ := h1
                simp at hp
          · simp at h2
        · simp at h
      · rename_i n k a s hx
        split at h
        · split at h
          · simp only [Option.map_eq_some_iff, Prod.mk.injEq] at h
            obtain ⟨z, -, -, -, rfl⟩ := h
            intro p hp
            simp only [List.mem_singleton] at hp
            subst hp
            exact .inr (by simp [touch, hx])
          · simp at h
        · simp at h
      · simp at h
  case nilCheck x => split at h <;> first | exact nil (val_nil h) | simp at h
  case binOp op t x y yt =>
    simp only [Option.map_eq_some_iff, Prod.mk.injEq] at h
    obtain ⟨_, _, _, _, h⟩ := h
    exact nil h.symm
  case unOp op t x => simp only [Option.bind_eq_some_iff] at h; obtain ⟨_, _, h⟩ := h; exact nil (val_nil h)
  case convert s d x =>
    split at h
    · rename_i out hcs
      simp only [Option.some.injEq] at h; subst h
      unfold convS at hcs
      split at hcs
      · rename_i e n xs hsd htd hx
        split at hcs
        · simp only [Option.some.injEq, Prod.mk.injEq] at hcs
          obtain ⟨-, -, rfl⟩ := hcs
          intro p hp
          simp only [List.mem_singleton] at hp
          subst hp
          right
          simp only [touch, hsd, hx]
        · simp at hcs
      · simp at hcs
    · simp only [Option.bind_eq_some_iff] at h; obtain ⟨_, _, h⟩ := h; exact nil (val_nil h)
  case makeInterface t x =>
    split at h
    · exact nil (val_nil h)
    · simp at h
  case makeFunc fn first cap =>
    cases fn <;> simp only [] at h
    case func f => exact nil (val_nil h)
    all_goals simp at h
  case slice t x lo hi mx =>
    unfold sliceV at h
    split at h
    · split at h
      · split at h
        · simp only [Option.map_eq_some_iff, Prod.mk.injEq] at h
          obtain ⟨_, _, _, _, h⟩ := h
          exact nil h.symm
        · simp at h
      · simp at h
    · split at h
      · split at h
        · simp only [Option.map_eq_some_iff] at h
          obtain ⟨⟨g', a, b, m⟩, -, h⟩ := h
          cases m <;> (simp only [Prod.mk.injEq] at h; exact nil h.2.2.symm)
        · simp at h
      · simp at h
    · split at h
      · simp only [Option.map_eq_some_iff, Prod.mk.injEq] at h
        obtain ⟨_, _, _, _, h⟩ := h
        exact nil h.symm
      · simp at h
    · split at h
      · simp only [Option.bind_eq_some_iff] at h
        obtain ⟨⟨s, xs⟩, -, h⟩ := h
        simp only at h
        split at h
        · simp only [Option.map_eq_some_iff] at h
          obtain ⟨⟨g', a, b, m⟩, hb, h⟩ := h
          cases m with
          | none => simp only [Prod.mk.injEq] at h; exact nil h.2.2.symm
          | some m =>
            simp only [Prod.mk.injEq] at h
            obtain ⟨-, -, rfl⟩ := h
            cases mx with
            | none =>
              simp only [boundsV, Option.map_none, Option.bind_eq_some_iff] at hb
              obtain ⟨_, _, _, _, hb⟩ := hb
              simp at hb
            | some mv =>
              intro p hp
              simp only [List.mem_singleton] at hp
              subst hp
              exact .inl ⟨Nat.le_refl _, by simp [need], .inl (by simp [touch])⟩
        · simp at h
      · simp at h
  case fieldAddr t x f => 
    unfold fieldAddrV at h
    repeat' (split at h)
    all_goals first | exact nil (val_nil h) | simp at h
  case field t x f =>
    unfold fieldV at h
    repeat' (split at h)
    all_goals first | exact nil (val_nil h) | simp at h
  case indexAddr t x i =>
    unfold indexAddrV at h
    repeat' (split at h)
    all_goals first | (simp only [Option.some.injEq, Prod.mk.injEq] at h; exact nil h.2.2.symm) | simp at h
  case index t x i =>
    unfold indexV at h
    repeat' (split at h)
    all_goals first | (simp only [Option.some.injEq, Prod.mk.injEq] at h; exact nil h.2.2.symm) | simp at h
  case typeAssert x xt t ok =>
    repeat' (split at h)
    all_goals first | exact nil (val_nil h) | simp at h
  case extract x i =>
    repeat' (split at h)
    all_goals first | exact nil (val_nil h) | simp at h
  case call c =>
    obtain ⟨callee, args, argTypes⟩ := c
    cases callee with
    | value f => simp at h
    | invoke rv m => simp at h
    | builtin b =>
      simp only [] at h
      split at h
      · simp only [Option.bind_eq_some_iff] at h; obtain ⟨_, _, h⟩ := h; exact nil (val_nil h)
      · rename_i s x st xt ha hat
        have htc : touch tab { dst := dst, op := Op.call { callee := Callee.builtin Builtin.append, args := args, argTypes := argTypes }, type := type, pos := pos, after := after, guard := guard } r = (match r x with
            | .sr .. => Touch.all
            | _ => match r s with | .own o _ _ => .wr o | .sr o .. => .wr o | _ => .new) := by
          simp only [touch, ha, List.getElem?_cons_zero, List.getElem?_cons_succ, Option.map_some]
          cases r x <;> cases r s <;> rfl
        have hnsr : ∀ o k a n z c, r x ≠ .sr o k a n z c := by
          intro o k a n z c e
          rw [htc, e] at hna
          simp at hna
        have htc' : touch tab { dst := dst, op := Op.call { callee := Callee.builtin Builtin.append, args := args, argTypes := argTypes }, type := type, pos := pos, after := after, guard := guard } r = (match r s with | .own o _ _ => .wr o | .sr o .. => .wr o | _ => .new) := by
          rw [htc]
          split
          · rename_i hh; exact absurd hh (hnsr _ _ _ _ _ _)
          · rfl
        unfold appendV at h
        split at h
        · simp only [forceTy_eq, Option.bind_eq_some_iff] at h
          obtain ⟨⟨g', ys⟩, -, h⟩ := h
          simp only at h
          split at h
          · rename_i hs
            split at h
            all_goals
              simp only [Option.some.injEq, Prod.mk.injEq] at h
              obtain ⟨-, -, rfl⟩ := h
              intro p hp
              simp only [List.mem_singleton] at hp
              subst hp
              refine .inl ⟨Nat.le_refl _, by simp [need], .inl ?_⟩
              rw [htc', hs]
          · rename_i n k m z c hs
            split at h
            · simp only [Option.bind_eq_some_iff] at h
              obtain ⟨xs, -, h⟩ := h
              split at h
              · simp only [Option.some.injEq, Prod.mk.injEq] at h
                obtain ⟨-, -, rfl⟩ := h
                intro p hp
                simp only [List.mem_singleton] at hp
                subst hp
                right
                rw [htc', hs]
              · simp only [Option.some.injEq, Prod.mk.injEq] at h
                obtain ⟨-, -, rfl⟩ := h
                intro p hp
                simp only [List.mem_singleton] at hp
                subst hp
                right
                rw [htc', hs]
              · simp at h
            · simp at h
          · rename_i n t' xs' hs
            simp only [Option.bind_eq_some_iff] at h
            obtain ⟨xs, -, h⟩ := h
            split at h
            · simp only [Option.some.injEq, Prod.mk.injEq] at h
              obtain ⟨-, -, rfl⟩ := h
              intro p hp
              simp only [List.mem_singleton] at hp
              subst hp
              right
              rw [htc', hs]
            · simp only [Option.some.injEq, Prod.mk.injEq] at h
              obtain ⟨-, -, rfl⟩ := h
              intro p hp
              simp only [List.mem_singleton] at hp
              subst hp
              right
              rw [htc', hs]
            · simp at h
          · simp at h
        · simp at h
      · exact absurd (by simp [touch]) hna
      · exact absurd (by simp [touch]) hna
      · simp only [Option.bind_eq_some_iff] at h; obtain ⟨_, _, h⟩ := h; exact nil (val_nil h)
      · simp only [Option.bind_eq_some_iff] at h; obtain ⟨_, _, h⟩ := h; exact nil (val_nil h)
      · simp at h
  all_goals simp at h

/-! ### exchanging two steps -/
theorem look_setAt [tI : Tst] {sl : List V} {dst : Option Tmp} {v : V} {t : Nat} (h : ∀ d, dst = some d → d ≠ t) : look (setAt sl dst v) t = look sl t := by
  cases dst with
  | none => rfl
  | some d =>
    have := h d rfl
    simp [setAt, look_eq, List.getD_eq_getElem?_getD, List.getElem?_set, this]
theorem setAt_comm {sl : List V} {d e : Option Tmp} {u v : V} (h : ∀ x, d = some x → e ≠ some x) : setAt (setAt sl d u) e v = setAt (setAt sl e v) d u := by
  cases d with
  | none => rfl
  | some d =>
    cases e with
    | none => rfl
    | some e =>
      have hne : d ≠ e := by rintro rfl; exact h d rfl rfl
      simp only [setAt]
      exact List.set_comm _ _ hne
theorem apartAt_spec {o p : Oper} (h : apartAt all o p = true) :
    (∀ d, o.dst = some d → d ∉ reads all p) ∧ (∀ d, o.dst = some d → p.dst ≠ some d) ∧ (∀ d, p.dst = some d → d ∉ reads all o) := by
  refine ⟨fun d hd => ?_, fun d hd => ?_, fun d hd => ?_⟩ <;> simp [apartAt, hd] at h
  · exact h.1.1
  · exact h.1.2
  · exact h.2
theorem opd_setAt [tI : Tst] {sl : List V} {p : Oper} {dst : Option Tmp} {v : V} (h : ∀ d, dst = some d → d ∉ reads all p) : ∀ x ∈ p.op.operands, opd (setAt sl dst v) x = opd sl x := by
  intro x hx
  cases x with
  | tmp t =>
    refine look_setAt fun d hd e => ?_
    subst e
    exact h d hd (List.mem_append_left _ (List.mem_filterMap.2 ⟨.tmp d, by simpa using hx, rfl⟩))
  | const v => rfl
  | func f => rfl
  | global g => rfl
theorem guard_slot {p : Oper} {j d : Nat} {want : Bool} (hg : p.guard = some (j, want)) (hd : (all[j]?).bind (·.dst) = some d) : d ∈ reads all p := by
  refine List.mem_append_right _ ?_
  rw [hg]
  simp [hd]
theorem guardIs_setAt [tI : Tst] {sl : List V} {p : Oper} {dst : Option Tmp} {v : V} (h : ∀ d, dst = some d → d ∉ reads all p) : guardIs all p (setAt sl dst v) ↔ guardIs all p sl := by
  unfold guardIs
  cases hg : p.guard with
  | none => simp
  | some gw =>
    obtain ⟨j, want⟩ := gw
    constructor <;> rintro ⟨d, h1, h2⟩ <;> refine ⟨d, h1, ?_⟩
    · rwa [look_setAt (fun e he => by rintro rfl; exact h _ he (guard_slot hg h1))] at h2
    · rwa [look_setAt (fun e he => by rintro rfl; exact h _ he (guard_slot hg h1))]
theorem guardNot_setAt [tI : Tst] {sl : List V} {p : Oper} {dst : Option Tmp} {v : V} (h : ∀ d, dst = some d → d ∉ reads all p) : guardNot all p (setAt sl dst v) ↔ guardNot all p sl := by
  unfold guardNot
  cases hg : p.guard with
  | none => simp
  | some gw =>
    obtain ⟨j, want⟩ := gw
    constructor <;> rintro ⟨d, h1, h2⟩ <;> refine ⟨d, h1, ?_⟩
    · rwa [look_setAt (fun e he => by rintro rfl; exact h _ he (guard_slot hg h1))] at h2
    · rwa [look_setAt (fun e he => by rintro rfl; exact h _ he (guard_slot hg h1))]

theorem sets_comm [tI : Tst] : ∀ (us vs : List (Nat × Ent)) (S : List Ent), (∀ x ∈ us, ∀ y ∈ vs, x.1 ≠ y.1) → sets (sets S us) vs = sets (sets S vs) us
  | [], _, _, _ => rfl
  | (n, e) :: us, vs, S, h => by
    simp only [sets]
    rw [sets_comm us vs _ (fun x hx y hy => h x (List.mem_cons_of_mem _ hx) y hy), sets_set vs S n e (fun y hy e' => h (n, e) (List.mem_cons_self ..) y hy e'.symm)]

/-- a step may be gone from elsewhere, where what it looks at is the same -/
theorem Step.move [tI : Tst] {i id : Nat} {sl sl1 : List V} {S S1 : List Ent} {t : Touch} (st : Step P C tab all i id sl S t sl1 S1) {o : Oper} (ho : all[i]? = some o) :
    ∃ v, sl1 = setAt sl o.dst v ∧
      ((t ≠ .all ∧ ∃ us, S1 = sets S us ∧ (∀ p ∈ us, (id ≤ p.1 ∧ p.1 < id + need C o ∧ t ≠ .no ∧ ∀ n, t ≠ .rd n) ∨ t = .wr p.1) ∧
          ∀ slx Sx, (∀ x ∈ o.op.operands, opd slx x = opd sl x) → (guardIs all o slx ↔ guardIs all o sl) → (guardNot all o slx ↔ guardNot all o sl) → (∀ n, t = .rd n ∨ t = .wr n → ent Sx n = ent S n) →
            Step P C tab all i id slx Sx t (setAt slx o.dst v) (sets Sx us)) ∨
       (t = .all ∧ ∀ slx, (∀ x ∈ o.op.operands, opd slx x = opd sl x) → (guardIs all o slx ↔ guardIs all o sl) → (guardNot all o slx ↔ guardNot all o sl) → Step P C tab all i id slx S .all (setAt slx o.dst v) S1)) := by
  cases st with
  | skip o' ho' hg =>
    rw [ho] at ho'; simp only [Option.some.injEq] at ho'; subst ho'
    exact ⟨.un, rfl, .inl ⟨by simp, [], rfl, by simp, fun slx Sx _ _ h2 _ => .skip o ho (h2.2 hg)⟩⟩
  | op o' ho' hg hp v us he =>
    rw [ho] at ho'; simp only [Option.some.injEq] at ho'; subst ho'
    by_cases hta : touch tab o (opd sl) = .all
    · refine ⟨v, rfl, .inr ⟨hta, ?_⟩⟩
      intro slx h1 h2 h3
      have ht : touch tab o (opd slx) = touch tab o (opd sl) := touch_ext h1
      have := Step.op (P := P) (C := C) (tab := tab) (all := all) (i := i) (id := id) (sl := slx) (S := S) o ho (h2.2 hg) hp v us (by
        rw [evOp_ext h1]
        exact he)
      rwa [ht, hta] at this
    refine ⟨v, rfl, .inl ⟨hta, us, rfl, ?_, ?_⟩⟩
    · intro p hp'
      rcases evOp_foot (tab := tab) hta he p hp' with ⟨h1, h2, h3⟩ | h
      · refine .inl ⟨h1, h2, ?_, ?_⟩
        · rcases h3 with h3 | ⟨n, h3⟩ <;> rw [h3] <;> simp
        · intro m; rcases h3 with h3 | ⟨n, h3⟩ <;> rw [h3] <;> simp
      · exact .inr h
    · intro slx Sx h1 h2 h3 h4
      have ht : touch tab o (opd slx) = touch tab o (opd sl) := touch_ext h1
      have := Step.op (P := P) (C := C) (tab := tab) (all := all) (i := i) (id := id) (sl := slx) (S := Sx) o ho (h2.2 hg) hp v us (by
        rw [evOp_ext h1, evOp_loc (tab := tab) (S' := S) hta (fun n hn => h4 n hn)]
        exact he)
      rwa [ht] at this
  | tab o' ho' hg f as ts hop g fi cap hf v us he =>
    rw [ho] at ho'; simp only [Option.some.injEq] at ho'; subst ho'
    refine ⟨v, rfl, .inl ⟨by simp, us, rfl, ?_, ?_⟩⟩
    · intro p hp
      left
      have hneed : need C o = 1 := by simp [need, hop]
      unfold tabV at he
      split at he
      · simp only [Option.bind_eq_some_iff, Option.map_eq_some_iff, Prod.mk.injEq] at he
        obtain ⟨_, _, _, _, _, _, he⟩ := he
        split at he
        · obtain rfl := he
          simp only [List.mem_singleton] at hp
          subst hp
          exact ⟨Nat.le_refl _, by simp only [hneed]; omega, by simp, by simp⟩
        · obtain rfl := he; simp at hp
      · simp at he
    · intro slx Sx h1 h2 h3 _
      have hff : f ∈ o.op.operands := by rw [hop]; simp [Op.operands, Call.operands]
      have has : as.toList.map (opd slx) = as.toList.map (opd sl) := List.map_congr_left fun x hx => h1 x (by rw [hop]; simp only [Op.operands, Call.operands]; simp; right; simpa using hx)
      exact .tab o ho (h2.2 hg) f as ts hop g fi cap (by rw [h1 f hff]; exact hf) v us (by rw [has]; exact he)
  | call o' ho' hg f as ts hop g fi cap hf v S' he =>
    rw [ho] at ho'; simp only [Option.some.injEq] at ho'; subst ho'
    refine ⟨v, rfl, .inr ⟨rfl, ?_⟩⟩
    intro slx h1 h2 h3
    have hff : f ∈ o.op.operands := by rw [hop]; simp [Op.operands, Call.operands]
    have has : as.toList.map (opd slx) = as.toList.map (opd sl) := List.map_congr_left fun x hx => h1 x (by rw [hop]; simp only [Op.operands, Call.operands]; simp; right; simpa using hx)
    exact .call o ho (h2.2 hg) f as ts hop g fi cap (by rw [h1 f hff]; exact hf) v S1 (by rw [has]; exact he)
  | inv o' ho' hg g args ht v S' he =>
    rw [ho] at ho'; simp only [Option.some.injEq] at ho'; subst ho'
    refine ⟨v, rfl, .inr ⟨rfl, ?_⟩⟩
    intro slx h1 h2 h3
    exact .inv o ho (h2.2 hg) g args ⟨ht.1, fun base w0 E w q sim hq => ht.2 base w0 E w q sim fun x hx => by rw [← h1 x hx]; exact hq x hx⟩ v S1 he
  | sem o' ho' hg v S' he =>
    rw [ho] at ho'; simp only [Option.some.injEq] at ho'; subst ho'
    refine ⟨v, rfl, .inr ⟨rfl, ?_⟩⟩
    intro slx h1 h2 h3
    refine .sem o ho (h2.2 hg) v S1 ⟨he.1, ?_⟩
    intro base w0 E w q sim hr hid
    exact he.2 base w0 E w q sim (fun x hx => by rw [← h1 x hx]; exact hr x hx) hid

theorem Step.swap [tI : Tst] {i j idi idj : Nat} {oi oj : Oper} (hi : all[i]? = some oi) (hj : all[j]? = some oj) (hap : apartAt all oj oi = true) {sl sl1 sl2 : List V} {S S1 S2 : List Ent} {ti tj : Touch} (ht : tj.apart ti = true)
    (hdis : ∀ x, idi ≤ x → x < idi + need C oi → ¬ (idj ≤ x ∧ x < idj + need C oj)) (hoj : tj.off idi (idi + need C oi) = true) (hoi : ti.off idj (idj + need C oj) = true)
    (hstj : Step P C tab all j idj sl S tj sl1 S1) (hsti : Step P C tab all i idi sl1 S1 ti sl2 S2) : ∃ sl' S', Step P C tab all i idi sl S ti sl' S' ∧ Step P C tab all j idj sl' S' tj sl2 S2 := by
  obtain ⟨h1, h2, h3⟩ := apartAt_spec hap
  obtain ⟨vj, rfl, mj⟩ := hstj.move hj
  obtain ⟨vi, rfl, mi⟩ := hsti.move hi
  have agI : (∀ x ∈ oi.op.operands, opd sl x = opd (setAt sl oj.dst vj) x) ∧ (guardIs all oi sl ↔ guardIs all oi (setAt sl oj.dst vj)) ∧ (guardNot all oi sl ↔ guardNot all oi (setAt sl oj.dst vj)) :=
    ⟨fun x hx => (opd_setAt h1 x hx).symm, (guardIs_setAt h1).symm, (guardNot_setAt h1).symm⟩
  have agJ : (∀ x ∈ oj.op.operands, opd (setAt sl oi.dst vi) x = opd sl x) ∧ (guardIs all oj (setAt sl oi.dst vi) ↔ guardIs all oj sl) ∧ (guardNot all oj (setAt sl oi.dst vi) ↔ guardNot all oj sl) :=
    ⟨fun x hx => opd_setAt h3 x hx, guardIs_setAt h3, guardNot_setAt h3⟩
  have hcomm : setAt (setAt sl oi.dst vi) oj.dst vj = setAt (setAt sl oj.dst vj) oi.dst vi := (setAt_comm h2).symm
  have off : ∀ {t : Touch} {a b n : Nat}, t.off a b = true → (t = .rd n ∨ t = .wr n) → ¬ (a ≤ n ∧ n < b) := by
    rintro t a b n h (rfl | rfl) <;> simp [Touch.off] at h <;> omega
  rcases mj with ⟨haj, usj, rfl, footj, movej⟩ | ⟨rfl, movej⟩
  · rcases mi with ⟨hai, usi, rfl, footi, movei⟩ | ⟨rfl, movei⟩
    · have neI : ∀ n, (ti = .rd n ∨ ti = .wr n) → ∀ x ∈ usj, x.1 ≠ n := by
        intro n hn x hx e
        rcases footj x hx with ⟨k1, k2, k3, k4⟩ | k
        · exact off hoi hn ⟨by omega, by omega⟩
        · rcases hn with rfl | rfl <;> rw [k] at ht <;> simp [Touch.apart] at ht <;> omega
      have neJ : ∀ n, (tj = .rd n ∨ tj = .wr n) → ∀ x ∈ usi, x.1 ≠ n := by
        intro n hn x hx e
        rcases footi x hx with ⟨k1, k2, k3, k4⟩ | k
        · exact off hoj hn ⟨by omega, by omega⟩
        · rcases hn with rfl | rfl <;> rw [k] at ht <;> simp [Touch.apart] at ht <;> omega
      have stI := movei sl S agI.1 agI.2.1 agI.2.2 (fun n hn => (ent_sets_other usj S n (neI n hn)).symm)
      have stJ := movej (setAt sl oi.dst vi) (sets S usi) agJ.1 agJ.2.1 agJ.2.2 (fun n hn => ent_sets_other usi S n (neJ n hn))
      refine ⟨_, _, stI, ?_⟩
      rw [hcomm] at stJ
      rw [sets_comm usj usi S ?_]
      · exact stJ
      · intro x hx y hy e
        rcases footj x hx with ⟨k1, k2, k3, k4⟩ | k
        · rcases footi y hy with ⟨l1, l2, l3, l4⟩ | l
          · exact hdis y.1 l1 l2 ⟨by omega, by omega⟩
          · exact neI y.1 (.inr l) x hx e
        · exact neJ x.1 (.inr k) y hy e.symm
    · have hjn : tj = .no := by cases tj <;> simp [Touch.apart] at ht ⊢
      subst hjn
      have hnil : usj = [] := by
        cases usj with
        | nil => rfl
        | cons x l => rcases footj x (List.mem_cons_self ..) with ⟨_, _, k, _⟩ | k <;> simp at k
      subst hnil
      have stI := movei sl agI.1 agI.2.1 agI.2.2
      have stJ := movej (setAt sl oi.dst vi) S2 agJ.1 agJ.2.1 agJ.2.2 (by simp)
      refine ⟨_, _, stI, ?_⟩
      rw [hcomm] at stJ
      exact stJ
  · have hin : ti = .no := by cases ti <;> simp [Touch.apart] at ht ⊢
    subst hin
    rcases mi with ⟨hai, usi, rfl, footi, movei⟩ | ⟨k, _⟩
    · have hnil : usi = [] := by
        cases usi with
        | nil => rfl
        | cons x l => rcases footi x (List.mem_cons_self ..) with ⟨_, _, k, _⟩ | k <;> simp at k
      subst hnil
      have stI := movei sl S agI.1 agI.2.1 agI.2.2 (by simp)
      have stJ := movej (setAt sl oi.dst vi) agJ.1 agJ.2.1 agJ.2.2
      refine ⟨_, _, stI, ?_⟩
      rw [hcomm] at stJ
      exact stJ
    · simp at k
end
end Go.Proofs.Ytmpmmfbgdpfnpaa.Ev
/- A region whose order is left open: every order that its edges allow comes to what the walker tells. -/
namespace Go.Proofs.Ytmpmmfbgdpfnpaa.Ev
open Go Go.RowKit
set_option linter.unusedVariables false
set_option linter.unusedSimpArgs false

section
variable {P : Program} {C : Ctx} {tab : Tab} {all : Array Oper} {idOf : Nat → Nat} {tOf : Nat → Touch}

inductive RunF [tI : Tst] (P : Program) (C : Ctx) (tab : Tab) (all : Array Oper) (idOf : Nat → Nat) (tOf : Nat → Touch) : List Nat → List V → List Ent → List V → List Ent → Prop
  | nil (sl : List V) (S : List Ent) : RunF P C tab all idOf tOf [] sl S sl S
  | cons (i : Nat) (is : List Nat) (sl sl1 sl' : List V) (S S1 S' : List Ent) (h : Step P C tab all i (idOf i) sl S (tOf i) sl1 S1) (r : RunF P C tab all idOf tOf is sl1 S1 sl' S') : RunF P C tab all idOf tOf (i :: is) sl S sl' S'

theorem Run.toF [tI : Tst] : ∀ {n i : Nat} {sl sl' : List V} {S S' : List Ent} {ts : List Touch}, Run P C tab all idOf (List.range' i n) sl S ts sl' S' → (∀ k, k < n → tOf (i + k) = ts.getD k .all) → RunF P C tab all idOf tOf (List.range' i n) sl S sl' S'
  | 0, _, _, _, _, _, _, .nil _ _, _ => .nil _ _
  | n + 1, i, _, _, _, _, _, .cons _ _ _ _ _ _ _ _ _ _ h r, ht => by
    rw [List.range'_succ]
    refine .cons i _ _ _ _ _ _ _ ?_ (Run.toF r fun k hk => ?_)
    · have := ht 0 (by omega)
      simp only [Nat.add_zero, List.getD_cons_zero] at this
      rw [this]; exact h
    · have := ht (k + 1) (by omega)
      rw [show i + 1 + k = i + (k + 1) from by omega, this]; simp

/-- nothing of one is looked at by the other -/
def Indep (C : Ctx) (all : Array Oper) (idOf : Nat → Nat) (tOf : Nat → Touch) (j i : Nat) : Prop :=
  ∀ oj oi, all[j]? = some oj → all[i]? = some oi → apartAt all oj oi = true ∧ (tOf j).apart (tOf i) = true ∧ (tOf j).off (idOf i) (idOf i + need C oi) = true ∧ (tOf i).off (idOf j) (idOf j + need C oj) = true

theorem RunF.front [tI : Tst] (hap : Apart C all idOf) {i : Nat} : ∀ {c1 c2 : List Nat} {sl sl' : List V} {S S' : List Ent}, RunF P C tab all idOf tOf (c1 ++ i :: c2) sl S sl' S' → (∀ j ∈ c1, j ≠ i ∧ Indep C all idOf tOf j i) → RunF P C tab all idOf tOf (i :: (c1 ++ c2)) sl S sl' S'
  | [], _, _, _, _, _, h, _ => h
  | j :: c1, c2, _, _, _, _, .cons _ _ _ _ _ _ _ _ hj r, hI => by
    have r' := RunF.front hap r fun k hk => hI k (List.mem_cons_of_mem _ hk)
    obtain ⟨hne, hind⟩ := hI j (List.mem_cons_self ..)
    cases r' with
    | cons _ _ _ _ _ _ _ _ hi r2 =>
      obtain ⟨oi, hoi⟩ := hi.idx
      obtain ⟨oj, hoj⟩ := hj.idx
      obtain ⟨k1, k2, k3, k4⟩ := hind oj oi hoj hoi
      obtain ⟨sl3, S3, s1, s2⟩ := Step.swap hoi hoj k1 k2 (hap i j oi oj (Ne.symm hne) hoi hoj) k3 k4 hj hi
      exact .cons _ _ _ _ _ _ _ _ s1 (.cons _ _ _ _ _ _ _ _ s2 r2)

/-! #### what is ahead of what -/
theorem mem_foldl_anc (acc : List (List Nat)) : ∀ (es : List Edge) (s : List Nat) (x : Nat), x ∈ es.foldl (fun s e => if Region.binds .any e then e.on :: (acc.getD e.on [] ++ s) else s) s → x ∈ s ∨ ∃ e ∈ es, Region.binds .any e = true ∧ (x = e.on ∨ x ∈ acc.getD e.on [])
  | [], s, x, h => .inl h
  | e :: es, s, x, h => by
    rw [List.foldl_cons] at h
    rcases mem_foldl_anc acc es _ x h with h | ⟨e', h1, h2⟩
    · split at h
      · rename_i hb
        rcases List.mem_cons.1 h with rfl | h
        · exact .inr ⟨e, List.mem_cons_self .., hb, .inl rfl⟩
        · rcases List.mem_append.1 h with h | h
          · exact .inr ⟨e, List.mem_cons_self .., hb, .inr h⟩
          · exact .inl h
      · exact .inl h
    · exact .inr ⟨e', List.mem_cons_of_mem _ h1, h2⟩
theorem ancs_spec [tI : Tst] : ∀ (os : List Oper) (acc : List (List Nat)), (∀ i, i < acc.length → (ancs os acc).getD i [] = acc.getD i []) ∧
    ∀ k o, os[k]? = some o → ∀ x, x ∈ (ancs os acc).getD (acc.length + k) [] → ∃ e ∈ o.after.toList, Region.binds .any e = true ∧ (x = e.on ∨ (e.on < acc.length + k → x ∈ (ancs os acc).getD e.on []))
  | [], acc => ⟨fun _ _ => rfl, by simp⟩
  | o :: os, acc => by
    obtain ⟨h1, h2⟩ := ancs_spec os (acc ++ [o.after.toList.foldl (fun s e => if Region.binds .any e then e.on :: (acc.getD e.on [] ++ s) else s) []])
    simp only [List.length_append, List.length_singleton] at h1 h2
    have hold : ∀ i, i < acc.length → (ancs (o :: os) acc).getD i [] = acc.getD i [] := by
      intro i hi
      rw [ancs, h1 i (by omega), List.getD_eq_getElem?_getD, List.getElem?_append_left hi, ← List.getD_eq_getElem?_getD]
    refine ⟨hold, ?_⟩
    intro k o' ho x hx
    cases k with
    | zero =>
      simp only [List.getElem?_cons_zero, Option.some.injEq] at ho; subst ho
      rw [Nat.add_zero, ancs, h1 _ (by omega), List.getD_eq_getElem?_getD, List.getElem?_append_right (Nat.le_refl _), Nat.sub_self] at hx
      simp only [List.getElem?_cons_zero, Option.getD_some] at hx
      rcases mem_foldl_anc acc _ _ x hx with h | ⟨e, he, hb, h⟩
      · simp at h
      · refine ⟨e, he, hb, ?_⟩
        rcases h with h | h
        · exact .inl h
        · by_cases hlt : e.on < acc.length
          · right; intro _; rw [hold _ hlt]; exact h
          · rw [List.getD_eq_getElem?_getD, List.getElem?_eq_none (by omega)] at h; simp at h
    | succ k =>
      rw [ancs, show acc.length + (k + 1) = acc.length + 1 + k from by omega] at hx
      obtain ⟨e, he, hb, h⟩ := h2 k o' (by simpa using ho) x hx
      refine ⟨e, he, hb, ?_⟩
      rcases h with h | h
      · exact .inl h
      · right; intro hlt; rw [ancs]; exact h (by omega)

theorem Act.tmps_ready {md : Region.Mode} {listed : Array Bool} {i : Nat} (h : i ∈ Region.ready md all listed) : i < all.size ∧ listed.getD i true = false ∧ ∃ o, all[i]? = some o ∧ ∀ e ∈ o.after.toList, Region.binds md e = true → listed.getD e.on false = true := by
  simp only [Region.ready, List.mem_filter, List.mem_range, Bool.and_eq_true, Bool.not_eq_true'] at h
  obtain ⟨h1, h2, h3⟩ := h
  refine ⟨h1, h2, ?_⟩
  cases ho : all[i]? with
  | none => rw [ho] at h3; simp at h3
  | some o =>
    refine ⟨o, rfl, fun e he hb => ?_⟩
    rw [ho] at h3
    simp only [Option.map_some, Option.getD_some, Array.all_eq_true_iff_forall_mem] at h3
    have := h3 e (by simpa using he)
    simpa [hb] using this

def Closed (all : Array Oper) (listed : Array Bool) : Prop := ∀ x o, all[x]? = some o → listed.getD x false = true → ∀ e ∈ o.after.toList, Region.binds .any e = true → listed.getD e.on false = true
def Backward (all : Array Oper) : Prop := ∀ x o, all[x]? = some o → ∀ e ∈ o.after.toList, Region.binds .any e = true → e.on < x

theorem anc_listed [tI : Tst] (hb : Backward all) {listed : Array Bool} (hcl : Closed all listed) : ∀ (i : Nat) (o : Oper), all[i]? = some o → (∀ e ∈ o.after.toList, Region.binds .any e = true → listed.getD e.on false = true) → ∀ x ∈ (ancs all.toList []).getD i [], listed.getD x false = true := by
  intro i
  induction i using Nat.strongRecOn with
  | _ i ih =>
    intro o ho hpre x hx
    obtain ⟨e, he, hbd, h⟩ := (ancs_spec all.toList []).2 i o (by simpa using ho) x (by simpa using hx)
    have hlt := hb i o ho e he hbd
    have hl := hpre e he hbd
    rcases h with rfl | h
    · exact hl
    · have hlt' : e.on < all.size := by
        have := (Array.getElem?_eq_some_iff.1 ho).1
        omega
      have hoe : all[e.on]? = some all[e.on] := by simp [hlt']
      exact ih e.on hlt _ hoe (hcl e.on _ hoe hl) x (h (by simpa using hlt))

/-- what is unlisted, in order -/
def rest (all : Array Oper) (listed : Array Bool) : List Nat := (List.range all.size).filter fun i => !listed.getD i true
theorem mem_rest {listed : Array Bool} {i : Nat} : i ∈ rest all listed ↔ i < all.size ∧ listed.getD i true = false := by simp [rest]
theorem rest_sorted (listed : Array Bool) : (rest all listed).Pairwise (· < ·) := by
  unfold rest
  exact List.Pairwise.filter _ List.pairwise_lt_range
theorem rest_nodup [tI : Tst] (listed : Array Bool) : (rest all listed).Nodup := (rest_sorted listed).imp fun h => Nat.ne_of_lt h

theorem rest_split [tI : Tst] {listed : Array Bool} {i : Nat} (hs : listed.size = all.size) (hi : i ∈ rest all listed) : ∃ c1 c2, rest all listed = c1 ++ i :: c2 ∧ rest all (listed.setIfInBounds i true) = c1 ++ c2 ∧ ∀ j ∈ c1, j < i := by
  obtain ⟨c1, c2, h⟩ := List.append_of_mem hi
  have hsort := rest_sorted (all := all) listed
  rw [h, List.pairwise_append] at hsort
  obtain ⟨s1, s2, s3⟩ := hsort
  refine ⟨c1, c2, h, ?_, fun j hj => s3 j hj i (List.mem_cons_self ..)⟩
  have hlt := (mem_rest.1 hi).1
  have : rest all (listed.setIfInBounds i true) = (rest all listed).filter fun j => decide (j ≠ i) := by
    unfold rest
    rw [List.filter_filter]
    apply List.filter_congr
    intro j hj
    have hj := List.mem_range.1 hj
    by_cases e : j = i
    · subst e; simp [Array.getD, hs, hj]
    · have : (listed.setIfInBounds i true).getD j true = listed.getD j true := by
        simp only [Array.getD_eq_getD_getElem?, Array.getElem?_setIfInBounds_ne (Ne.symm e)]
      rw [this]; simp [e]
  rw [this, h, List.filter_append, List.filter_cons]
  have n1 : ∀ j ∈ c1, j ≠ i := fun j hj => Nat.ne_of_lt (s3 j hj i (List.mem_cons_self ..))
  have n2 : ∀ j ∈ c2, j ≠ i := by
    intro j hj
    rw [List.pairwise_cons] at s2
    exact Nat.ne_of_gt (s2.1 j hj)
  rw [List.filter_eq_self.2 (by simpa using n1), List.filter_eq_self.2 (by simpa using n2)]
  simp

theorem RunF.any [tI : Tst] (hC : RowsOK P C) (hT : TabOK P tab) (hap : Apart C all idOf) {N : Nat} (hN : ∀ i, N ≤ idOf i) (hb : Backward all) (hind : ∀ j i, j < i → i < all.size → j ∈ (ancs all.toList []).getD i [] ∨ Indep C all idOf tOf j i)
    {Q : Exit → Act → World → Prop} {w0 : World} {base : Nat} : ∀ (fuel : Nat) (listed : Array Bool) {sl sl' : List V} {S S' : List Ent}, N ≤ S.length → listed.size = all.size → (rest all listed).length ≤ fuel → Closed all listed → RunF P C tab all idOf tOf (rest all listed) sl S sl' S' →
    ∀ {E : Env} {w : World} {a : Act}, Sim base w0 E S w → SimA E sl a → Fresh C all idOf (rest all listed) E S → (∀ E' a' w', E.Le E' → (∀ x, E'.live x → E.live x ∨ N ≤ x) → Sim base w0 E' S' w' → SimA E' sl' a' → Q .normal a' w') → wpAny P .any all Q fuel listed a w := by
  have noReady : ∀ {listed : Array Bool}, listed.size = all.size → Region.ready .any all listed = [] → rest all listed = [] := by
    intro listed hs hr
    cases hrest : rest all listed with
    | nil => rfl
    | cons i l =>
      exfalso
      have hi : i ∈ rest all listed := by rw [hrest]; exact List.mem_cons_self ..
      obtain ⟨hlt, hli⟩ := mem_rest.1 hi
      have hsort := rest_sorted (all := all) listed
      rw [hrest, List.pairwise_cons] at hsort
      have : i ∈ Region.ready .any all listed := by
        simp only [Region.ready, List.mem_filter, List.mem_range, Bool.and_eq_true, Bool.not_eq_true']
        refine ⟨hlt, hli, ?_⟩
        have ho : all[i]? = some all[i] := by simp [hlt]
        rw [ho]
        simp only [Option.map_some, Option.getD_some, Array.all_eq_true_iff_forall_mem]
        intro e he
        by_cases hbd : Region.binds .any e = true
        · have hel := hb i _ ho e (by simpa using he) hbd
          have : listed.getD e.on false = true := by
            have hin : e.on < listed.size := by omega
            cases hc : listed.getD e.on true with
            | true => simp [Array.getD, hin] at hc ⊢; exact hc
            | false =>
              have := mem_rest.2 ⟨(by omega : e.on < all.size), hc⟩
              rw [hrest] at this
              rcases List.mem_cons.1 this with h | h
              · omega
              · have := hsort.1 _ h; omega
          simp [this]
        · simp [hbd]
      rw [hr] at this
      simp at this
  intro fuel
  induction fuel with
  | zero =>
    intro listed sl sl' S S' hNS hs hl hcl hrun E w a sim ha hf hQ
    have hnil : rest all listed = [] := List.eq_nil_of_length_eq_zero (by omega)
    rw [hnil] at hrun
    cases hrun with
    | nil =>
      refine ⟨?_, hQ E a w (Env.Le.refl E) (fun _ l => .inl l) sim ha⟩
      cases hr : Region.ready .any all listed with
      | nil => rfl
      | cons i l =>
        have hi : i ∈ Region.ready .any all listed := by rw [hr]; exact List.mem_cons_self ..
        obtain ⟨h1, h2, -⟩ := Act.tmps_ready hi
        have := mem_rest.2 ⟨h1, h2⟩
        rw [hnil] at this
        simp at this
  | succ fuel ih =>
    intro listed sl sl' S S' hNS hs hl hcl hrun E w a sim ha hf hQ
    refine ⟨fun hr => ?_, fun i hi => ?_⟩
    · rw [noReady hs hr] at hrun
      cases hrun with
      | nil => exact hQ E a w (Env.Le.refl E) (fun _ l => .inl l) sim ha
    · obtain ⟨h1, h2, o, ho, hpre⟩ := Act.tmps_ready hi
      have hir := mem_rest.2 ⟨h1, h2⟩
      obtain ⟨c1, c2, e1, e2, e3⟩ := rest_split hs hir
      have hnd := rest_nodup (all := all) listed
      rw [e1] at hrun hf hnd
      have hfront := RunF.front hap hrun (fun j hj => by
        refine ⟨Nat.ne_of_lt (e3 j hj), ?_⟩
        rcases hind j i (e3 j hj) h1 with h | h
        · exfalso
          have hjl := anc_listed hb hcl i o ho hpre j h
          have hjr : j ∈ rest all listed := by rw [e1]; exact List.mem_append_left _ hj
          obtain ⟨k1, k2⟩ := mem_rest.1 hjr
          have hin : j < listed.size := by omega
          simp [Array.getD, hin] at hjl k2
          rw [hjl] at k2
          simp at k2
        · exact h)
      cases hfront with
      | cons _ _ _ sl1 _ _ S1 _ hst r =>
        have hni : i ∉ c1 ++ c2 := by
          rw [List.nodup_append] at hnd
          obtain ⟨n1, n2, n3⟩ := hnd
          rw [List.nodup_cons] at n2
          intro hm
          rcases List.mem_append.1 hm with hm | hm
          · exact n3 i hm i (List.mem_cons_self ..) rfl
          · exact n2.1 hm
        have hf' : Fresh C all idOf (i :: (c1 ++ c2)) E S := by
          intro j hj
          refine hf j ?_
          rcases List.mem_cons.1 hj with rfl | hj
          · simp
          · rcases List.mem_append.1 hj with hj | hj <;> simp [hj]
        refine hst.wp hC hT sim ha (hf' i (List.mem_cons_self ..)) ?_
        intro E' a' w' k1 k2 k3 k4
        refine ih (listed.setIfInBounds i true) (Nat.le_trans hNS (hst.len hT)) (by simpa using hs) (by rw [e2]; rw [e1] at hl; simp at hl ⊢; omega) ?_ (by rw [e2]; exact r) k2 k3 (by rw [e2]; exact hf'.step hap hni (hst.len hT) hst.idx k4) (fun E2 a2 w2 l1 l0 l2 l3 => hQ E2 a2 w2 (k1.trans l1) (fun x l => (l0 x l).elim (fun l => (k4 o ho x l).imp_right fun h => h.elim (fun h => Nat.le_trans (hN i) h.1) (fun h => Nat.le_trans hNS h)) .inr) l2 l3)
        intro x ox hox hlx e he hbd
        have mono : ∀ y, listed.getD y false = true → (listed.setIfInBounds i true).getD y false = true := by
          intro y hy
          by_cases hyi : y = i
          · subst hyi; simp [Array.getD, hs, h1]
          · simp only [Array.getD_eq_getD_getElem?, Array.getElem?_setIfInBounds_ne (Ne.symm hyi)] at hy ⊢; exact hy
        by_cases hxi : x = i
        · subst hxi
          rw [ho] at hox
          simp only [Option.some.injEq] at hox; subst hox
          exact mono _ (hpre e he hbd)
        · simp only [Array.getD_eq_getD_getElem?, Array.getElem?_setIfInBounds_ne (Ne.symm hxi)] at hlx
          exact mono _ (hcl x ox hox (by rw [Array.getD_eq_getD_getElem?]; exact hlx) e he hbd)
end
end Go.Proofs.Ytmpmmfbgdpfnpaa.Ev
/- The walker's way through code is the machine's: regions, blocks, loops. -/
namespace Go.Proofs.Ytmpmmfbgdpfnpaa.Ev
open Go Go.RowKit
set_option linter.unusedVariables false
set_option linter.unusedSimpArgs false

/-! ### what a round leaves behind -/
def Env.cut (E : Env) (n : Nat) : Env := { E with live := fun o => E.live o ∧ o < n }
theorem Env.le_cut {E0 E : Env} {n : Nat} (h : E0.Le E) (hn : ∀ o, E0.live o → o < n) : E0.Le (E.cut n) :=
  ⟨h.m, fun o l => ⟨h.live o l, hn o l⟩, h.blk, h.sz, h.len, h.plc, h.m0, h.lent, h.rm⟩
theorem scrubs_rep {E : Env} {n : Nat} : ∀ {vs : List V} {us : List Value}, RepVs E vs us → RepVs (E.cut n) (scrub.scrubs n vs) us
  | [], [], _ => by simp [scrub.scrubs, RepVs]
  | c :: cs, u :: us, h => by
    simp only [RepVs] at h
    have h2 := scrubs_rep (n := n) h.2
    have h1 := h.1
    cases c with
    | own o t xs =>
      simp only [scrub.scrubs, RepVs]
      refine ⟨?_, h2⟩
      split
      · simp only [RepV, Env.cut] at h1 ⊢; rename_i ho; exact ⟨h1.1, ⟨h1.2.1, ho⟩, h1.2.2⟩
      · simp only [RepV, Env.cut] at h1 ⊢; exact h1.1
    | p o a =>
      simp only [scrub.scrubs, RepVs]
      refine ⟨?_, h2⟩
      split
      · simp only [RepV, Env.cut] at h1 ⊢; rename_i ho; exact ⟨⟨h1.1, ho⟩, h1.2⟩
      · simp [RepV]
    | sr o k a l s c =>
      simp only [scrub.scrubs, RepVs]
      refine ⟨?_, h2⟩
      split
      · simp only [RepV, Env.cut] at h1 ⊢; rename_i ho; exact ⟨⟨h1.1, ho⟩, h1.2⟩
      · simp [RepV]
    | d t x => simp only [scrub.scrubs, RepVs]; refine ⟨?_, h2⟩; simp only [RepV, Env.cut] at h1 ⊢; exact h1
    | _ => simp only [scrub.scrubs, RepVs]; exact ⟨by simp [RepV], h2⟩
  | [], _ :: _, h => by simp [RepVs] at h
  | _ :: _, [], h => by simp [RepVs] at h
theorem scrub_rep [tI : Tst] {E : Env} {n : Nat} {v : V} {u : Value} (h : RepV E v u) : RepV (E.cut n) (scrub n v) u := by
  cases v with
  | own o t xs =>
    simp only [scrub]
    split
    · simp only [RepV, Env.cut] at h ⊢; rename_i ho; exact ⟨h.1, ⟨h.2.1, ho⟩, h.2.2⟩
    · simp only [RepV, Env.cut] at h ⊢; exact h.1
  | p o a =>
    simp only [scrub]
    split
    · simp only [RepV, Env.cut] at h ⊢; rename_i ho; exact ⟨⟨h.1, ho⟩, h.2⟩
    · simp [RepV]
  | sr o k a l s c =>
    simp only [scrub]
    split
    · simp only [RepV, Env.cut] at h ⊢; rename_i ho; exact ⟨⟨h.1, ho⟩, h.2⟩
    · simp [RepV]
  | pr o k i s =>
    simp only [scrub]
    split
    · simp only [RepV, Env.cut] at h ⊢; rename_i ho; exact ⟨⟨h.1, ho⟩, h.2⟩
    · simp [RepV]
  | agg cs =>
    simp only [scrub, RepV] at h ⊢
    obtain ⟨us, h1, h2, h3⟩ := h
    exact ⟨us, h1, scrubs_rep h2, h3⟩
  | fn f fs cs =>
    simp only [scrub, RepV] at h ⊢
    obtain ⟨zs, us, h1, h2, h3⟩ := h
    exact ⟨zs, us, h1, scrubs_rep h2, scrubs_rep h3⟩
  | tup _ => simp [scrub, RepV]
  | ifc t x =>
    cases x with
    | d s y => simp only [scrub, RepV, Env.cut] at h ⊢; exact h
    | p o a =>
      simp only [scrub]
      split
      · simp only [RepV, Env.cut] at h ⊢; rename_i ho; obtain ⟨u, h1, h2, h3⟩ := h; exact ⟨u, h1, ⟨h2, ho⟩, h3⟩
      · simp [RepV]
    | _ => simp [scrub, RepV]
  | bad => simp [scrub, RepV]
  | un => simpa [scrub, RepV] using h
  | nils => simpa [scrub, RepV] using h
  | d t x => simpa [scrub, RepV, Env.cut] using h
  | nn t x => simpa [scrub, RepV, Env.cut] using h
  | mp o =>
    simp only [scrub]
    split
    · simp only [RepV, Env.cut] at h ⊢; rename_i ho; exact ⟨⟨h.1, ho⟩, h.2⟩
    · simp [RepV]
  | ro t x => simpa [scrub, RepV, Env.cut] using h
def pickL (n : Nat) (live : List Nat) : Nat → List V → List V
  | _, [] => []
  | i, v :: vs => (if live.contains i then scrub n v else .bad) :: pickL n live (i + 1) vs
theorem pickK_eq [tI : Tst] {R : Type} (n : Nat) (live : List Nat) : ∀ (vs : List V) (i : Nat) (k : List V → Option R), pickK n live i vs k = k (pickL n live i vs)
  | [], _, _ => rfl
  | v :: vs, i, k => by
    rw [pickK, pickL]
    split
    · rw [pickK_eq n live vs]; rw [forceV_eq]
    · rw [pickK_eq n live vs]
theorem pickL_rep [tI : Tst] {E : Env} {n : Nat} {live : List Nat} : ∀ {vs : List V} {us : List Value} (i : Nat), RepVs E vs us → RepVs (E.cut n) (pickL n live i vs) us
  | [], [], _, _ => by simp [pickL, RepVs]
  | c :: cs, u :: us, i, h => by
    simp only [RepVs] at h
    simp only [pickL, RepVs]
    refine ⟨?_, pickL_rep _ h.2⟩
    split
    · exact scrub_rep h.1
    · simp [RepV]
  | [], _ :: _, _, h => by simp [RepVs] at h
  | _ :: _, [], _, h => by simp [RepVs] at h
def scrubE (n : Nat) : Ent → Ent
  | .obj cs => .obj (cs.map (scrub n))
  | e => e
theorem scrubsK_eq [tI : Tst] {R : Type} (n : Nat) : ∀ (vs : List V) (k : List V → Option R), scrubsK n vs k = k (vs.map (scrub n))
  | [], _ => rfl
  | v :: vs, k => by rw [scrubsK, scrubsK_eq n vs, forceV_eq]; rfl
theorem truncGo_eq [tI : Tst] {R : Type} (m : Nat) : ∀ (j : Nat) (S : List Ent) (k : List Ent → Option R), truncK.go m j S k = k ((S.take j).map (scrubE m))
  | 0, _, _ => by simp [truncK.go]
  | _ + 1, [], _ => by simp [truncK.go]
  | j + 1, e :: es, k => by
    rw [truncK.go, truncGo_eq m j es]
    cases e <;> simp [scrubE, scrubsK_eq]
def truncL (n : Nat) (S : List Ent) : List Ent := (S.take n).map (scrubE n)
theorem truncK_eq [tI : Tst] {R : Type} (n : Nat) (S : List Ent) (k : List Ent → Option R) : truncK n S k = k (truncL n S) := truncGo_eq n n S k
theorem truncL_len {n : Nat} {S : List Ent} (h : n ≤ S.length) : (truncL n S).length = n := by simp [truncL]; omega
theorem ent_trunc [tI : Tst] (n : Nat) (S : List Ent) (o : Nat) : ent (truncL n S) o = if o < n then scrubE n (ent S o) else .gone := by
  simp only [ent_eq, truncL, List.getD_eq_getElem?_getD, List.getElem?_map, List.getElem?_take]
  by_cases h : o < n
  · simp only [h, if_true]
    cases S[o]? <;> rfl
  · simp [h]
theorem mapScrub_rep [tI : Tst] {E : Env} {n : Nat} : ∀ {vs : List V} {us : List Value}, RepVs E vs us → RepVs (E.cut n) (vs.map (scrub n)) us
  | [], [], _ => by simp [RepVs]
  | c :: cs, u :: us, h => by
    simp only [RepVs, List.map_cons] at h ⊢
    exact ⟨scrub_rep h.1, mapScrub_rep h.2⟩
  | [], _ :: _, h => by simp [RepVs] at h
  | _ :: _, [], h => by simp [RepVs] at h
theorem owns_scrub (E : Env) (n o : Nat) (e : Ent) : owns (E.cut n) o (scrubE n e) = owns E o e := by cases e <;> rfl
theorem Sim.cut [tI : Tst] {base : Nat} {w0 w : World} {E : Env} {S : List Ent} (sim : Sim base w0 E S w) (n : Nat) (hn : n ≤ S.length) : Sim base w0 (E.cut n) (truncL n S) w where
  below := sim.below
  base_le := sim.base_le
  mem := sim.mem
  old := sim.old
  rmem := sim.rmem
  lt o l := by rw [truncL_len hn]; exact l.2
  ents o := by
    rw [ent_trunc]
    split
    · rename_i ho
      have h := sim.ents o
      cases he : ent S o with
      | gone => trivial
      | obj cs =>
        rw [he] at h
        obtain ⟨h1, h2, us, t, h3, h4, h5, h6⟩ := h
        exact ⟨⟨h1, ho⟩, h2, us, t, h3, mapScrub_rep h4, h5, h6⟩
      | row k t xs =>
        rw [he] at h
        obtain ⟨h1, h2⟩ := h
        exact ⟨⟨h1, ho⟩, h2⟩
      | frz k t xs =>
        rw [he] at h
        obtain ⟨h1, h2⟩ := h
        exact ⟨⟨h1, ho⟩, h2⟩
      | rdo k t xs =>
        rw [he] at h
        obtain ⟨h1, h2⟩ := h
        exact ⟨⟨h1, ho⟩, h2⟩
      | fam k =>
        rw [he] at h
        obtain ⟨h1, h2, h3⟩ := h
        exact ⟨⟨h1, ho⟩, h2, h3⟩
      | lit k =>
        rw [he] at h
        obtain ⟨⟨h1, h2, h3⟩, h4⟩ := h
        exact ⟨⟨⟨h1, ho⟩, h2, h3⟩, h4⟩
      | keys k ks =>
        rw [he] at h
        obtain ⟨h1, h2⟩ := h
        exact ⟨⟨h1, ho⟩, h2⟩
    · trivial
  apart o o' B hne h1 h2 := by
    have key : ∀ o, owns (E.cut n) o (ent (truncL n S) o) = some B → owns E o (ent S o) = some B := by
      intro o h
      rw [ent_trunc] at h
      split at h
      · rwa [owns_scrub] at h
      · simp [owns] at h
    exact sim.apart o o' B hne (key o h1) (key o' h2)
theorem SimA.pick [tI : Tst] {E : Env} {sl : List V} {a : Act} (h : SimA E sl a) (n : Nat) (live : List Nat) : SimA (E.cut n) (pickL n live 0 sl) a := ⟨h.defers, pickL_rep 0 h.rep⟩

/-! ### a region -/
theorem repK_eq {R : Type} : ∀ (n : Nat) (es : List Ent) (k : List Ent → R), repK n es k = k (List.replicate n .gone ++ es)
  | 0, es, k => by simp [repK]
  | n + 1, es, k => by
    rw [repK, repK_eq n]
    congr 1
    rw [show Ent.gone :: es = [.gone] ++ es from rfl, ← List.append_assoc, List.replicate_succ']
theorem growK_eq [tI : Tst] {R : Type} : ∀ (S : List Ent) (n : Nat) (k : List Ent → R), growK S n k = k (S ++ List.replicate n .gone)
  | [], n, k => by rw [growK, repK_eq]; simp
  | e :: es, n, k => by rw [growK, growK_eq es]; rfl
theorem foldl_add : ∀ (l : List Nat) (a : Nat), l.foldl (· + ·) a = a + l.foldl (· + ·) 0
  | [], a => by simp
  | x :: l, a => by rw [List.foldl_cons, List.foldl_cons, foldl_add l (a + x), foldl_add l (0 + x)]; omega
theorem reserve_cons [tI : Tst] (C : Ctx) (o : Oper) (os : List Oper) : reserve C (o :: os) = need C o + reserve C os := by
  simp only [reserve, List.map_cons, List.foldl_cons]
  rw [foldl_add]; omega
theorem idAt_step (C : Ctx) {all : Array Oper} (n i : Nat) {o : Oper} (h : all[i]? = some o) : idAt C all n (i + 1) = idAt C all n i + need C o := by simp [idAt, h]
theorem idAt_le (C : Ctx) (all : Array Oper) (n : Nat) {i j : Nat} (h : i ≤ j) : idAt C all n i ≤ idAt C all n j := by
  induction h with
  | refl => exact Nat.le_refl _
  | step _ ih => exact Nat.le_trans ih (by rw [idAt]; omega)
theorem idAt_end [tI : Tst] (C : Ctx) (all : Array Oper) (n : Nat) : ∀ (os : List Oper) (i : Nat), os = all.toList.drop i → idAt C all n i + reserve C os = idAt C all n (i + os.length)
  | [], i, _ => by simp [reserve]
  | o :: os, i, h => by
    have ho : all[i]? = some o := by
      have : (all.toList.drop i)[0]? = some o := by rw [← h]; rfl
      rw [List.getElem?_drop] at this
      simpa using this
    have hos' : os = all.toList.drop (i + 1) := by
      have := congrArg (List.drop 1) h
      simpa [List.drop_drop] using this
    rw [reserve_cons, ← Nat.add_assoc, ← idAt_step C n i ho, idAt_end C all n os (i + 1) hos', List.length_cons]
    congr 1; omega
theorem apart_idAt [tI : Tst] (C : Ctx) (all : Array Oper) (n : Nat) : Apart C all (idAt C all n) := by
  intro i i' o o' hne ho ho' x h1 h2 h3
  rw [← idAt_step C n i ho] at h2
  rw [← idAt_step C n i' ho'] at h3
  rcases Nat.lt_or_gt_of_ne hne with h | h
  · have := idAt_le C all n (i := i + 1) (j := i') h; omega
  · have := idAt_le C all n (i := i' + 1) (j := i) h; omega
theorem fresh_idAt [tI : Tst] {C : Ctx} {all : Array Oper} {base : Nat} {w0 w : World} {E : Env} {S : List Ent} (sim : Sim base w0 E S w) :
    Fresh C all (idAt C all S.length) (List.range' 0 all.size) E (S ++ List.replicate (reserve C all.toList) .gone) := by
  intro i hi o ho j h1 h2
  have h0 : S.length ≤ idAt C all S.length i := idAt_le C all S.length (Nat.zero_le i)
  refine ⟨fun l => ?_, ?_⟩
  · have := sim.lt j l; omega
  · rw [← idAt_step C _ i ho] at h2
    have hlt : i < all.size := (Array.getElem?_eq_some_iff.1 ho).1
    have h3 := idAt_le C all S.length (i := i + 1) (j := all.size) hlt
    have h4 := idAt_end C all S.length all.toList 0 rfl
    simp only [idAt, Nat.zero_add, Array.length_toList] at h4
    simp only [List.length_append, List.length_replicate]
    omega
theorem Sim.grow [tI : Tst] {base : Nat} {w0 w : World} {E : Env} {S : List Ent} (sim : Sim base w0 E S w) (n : Nat) : Sim base w0 E (S ++ List.replicate n .gone) w := by
  have he : ∀ o, ent (S ++ List.replicate n .gone) o = ent S o := fun o => ent_app S _ o (fun e h => List.eq_of_mem_replicate h)
  refine ⟨sim.below, sim.base_le, sim.mem, fun o => by rw [he]; exact sim.ents o, fun o o' B hne h1 h2 => ?_, fun o l => ?_, sim.old, sim.rmem⟩
  · rw [he] at h1 h2; exact sim.apart o o' B hne h1 h2
  · have := sim.lt o l; simp only [List.length_append]; omega
theorem Sim.drew {base : Nat} {w0 w : World} {E : Env} {S : List Ent} (sim : Sim base w0 E S w) : Sim base w0 E S { w with drawn := w.drawn + 1 } :=
  ⟨sim.below.trans ⟨rfl, rfl, rfl, Nat.le_refl _, fun _ _ _ => rfl⟩, sim.base_le, sim.mem, sim.ents, sim.apart, sim.lt, sim.old, sim.rmem⟩

def Ex.to : Ex → Exit
  | .normal => .normal | .exit id => .exit id | .ret => .ret

/-- what code comes to, in whatever world -/
def CodeRes (P : Program) (c : Code) (sl : List V) (S : List Ent) (e : Ex) (sl' : List V) (S' : List Ent) : Prop :=
  S.length ≤ S'.length ∧ ∀ (base : Nat) (w0 : World) (E : Env) (w : World) (a : Act) (Q : Exit → Act → World → Prop), Sim base w0 E S w → SimA E sl a →
    (∀ E' a' w', E.Le E' → (∀ x, E'.live x → E.live x ∨ S.length ≤ x) → Sim base w0 E' S' w' → SimA E' sl' a' → Q e.to a' w') → c.wp P Q a w

section
variable {R : Type} {P : Program} {C : Ctx} {tab : Tab} {call : CallH R} {fuel : Nat}
theorem Run.slen [tI : Tst] {all : Array Oper} {idOf : Nat → Nat} (hT : TabOK P tab) : ∀ {is : List Nat} {sl sl' : List V} {S S' : List Ent} {ts : List Touch}, Run P C tab all idOf is sl S ts sl' S' → S.length ≤ S'.length
  | [], _, _, _, _, _, .nil _ _ => Nat.le_refl _
  | _ :: _, _, _, _, _, _, .cons _ _ _ _ _ _ _ _ _ _ h r => Nat.le_trans (h.len hT) (Run.slen hT r)

theorem ordOK_back {C : Ctx} {all : Array Oper} {n : Nat} {ts : List Touch} (h : ordOK C all n ts = true) : Backward all := by
  intro x o ho e he hb
  simp only [ordOK, Bool.and_eq_true, List.all_eq_true, List.mem_range] at h
  have hx : x < all.size := (Array.getElem?_eq_some_iff.1 ho).1
  have := h.2 x hx
  rw [ho] at this
  simp only [Option.any_some, Bool.and_eq_true, List.all_eq_true] at this
  have := this.1 e he
  simpa [hb] using this
theorem ordOK_indep [tI : Tst] {C : Ctx} {all : Array Oper} {n : Nat} {ts : List Touch} (h : ordOK C all n ts = true) (j i : Nat) (hji : j < i) (hi : i < all.size) :
    j ∈ (ancs all.toList []).getD i [] ∨ Indep C all (idAt C all n) (fun k => ts.getD k .all) j i := by
  simp only [ordOK, Bool.and_eq_true, List.all_eq_true, List.mem_range] at h
  have := h.2 i hi
  rw [show all[i]? = some all[i] from by simp [hi]] at this
  simp only [Option.any_some, Bool.and_eq_true, List.all_eq_true, List.mem_range] at this
  have := this.2 j hji
  simp only [Bool.or_eq_true, List.contains_iff_mem] at this
  rcases this with h | h
  · exact .inl h
  · right
    rw [show all[j]? = some all[j] from by simp [Nat.lt_trans hji hi]] at h
    simp only [Option.any_some, Bool.and_eq_true] at h
    intro oj oi hj hi'
    rw [show all[j]? = some all[j] from by simp [Nat.lt_trans hji hi]] at hj
    rw [show all[i]? = some all[i] from by simp [hi]] at hi'
    simp only [Option.some.injEq] at hj hi'
    subst hj; subst hi'
    rw [← idAt_step C n i (by simp [hi]), ← idAt_step C n j (by simp [Nat.lt_trans hji hi])]
    exact ⟨h.1.1.1, h.1.1.2, h.1.2, h.2⟩

theorem region_ok [tI : Tst] (hC : RowsOK P C) (hT : TabOK P tab) (hcall : CallOK P call) (hm : P.follows .mixedOrders = true) {cur id : Nat} {ops : Array Oper} {draw : Bool} {sl : List V} {S : List Ent} {k : Ex → List V → List Ent → Option R} {r : R}
    (h : evC C tab call fuel cur (.region id ops draw) sl S k = some r) : ∃ sl' S', k .normal sl' S' = some r ∧ CodeRes P (.region id ops draw) sl S .normal sl' S' := by
  simp only [evC] at h
  rw [lenK_eq, growK_eq, Nat.zero_add] at h
  obtain ⟨ts, sl', S', hrun, hl, hk⟩ := evOps_run (P := P) (all := ops) hC hT hcall (idOf := idAt C ops S.length) (fun i o ho => idAt_step C _ i ho) ops.toList 0 sl _ [] _ r rfl h
  rw [List.append_nil, List.reverse_reverse] at hk
  rw [Array.length_toList] at hrun hl
  have hlen0 : S.length ≤ (S ++ List.replicate (reserve C ops.toList) Ent.gone).length := by simp
  have hlen : S.length ≤ S'.length := Nat.le_trans hlen0 (hrun.slen hT)
  cases draw with
  | false =>
    refine ⟨sl', S', hk, hlen, ?_⟩
    intro base w0 E w a Q sim ha hQ
    refine wp_region ?_
    rw [List.range_eq_range']
    exact hrun.wpOps hC hT (apart_idAt C ops S.length) (fun i => idAt_le C ops S.length (Nat.zero_le i)) List.nodup_range' hlen0 (sim.grow _) ha (fresh_idAt sim) hQ
  | true =>
    simp only at hk
    cases ho : ordB C ops S.length ts with
    | false => rw [ho] at hk; simp [br] at hk
    | true =>
      rw [br_t ho] at hk
      have hord : ordOK C ops S.length ts = true := tst_iff.1 ho
      refine ⟨sl', S', hk, hlen, ?_⟩
      intro base w0 E w a Q sim ha hQ
      refine wp_region_any hm ?_
      have hrest : rest ops (Array.replicate ops.size false) = List.range' 0 ops.size := by
        rw [← List.range_eq_range']
        unfold rest
        refine List.filter_eq_self.2 fun i hi => ?_
        have := List.mem_range.1 hi
        simp [Array.getD, this]
      refine RunF.any (N := S.length) (S := S ++ List.replicate (reserve C ops.toList) .gone) (idOf := idAt C ops S.length) (tOf := fun k => ts.getD k .all) hC hT (apart_idAt C ops S.length) (fun i => idAt_le C ops S.length (Nat.zero_le i)) (ordOK_back hord) (ordOK_indep hord) ops.size _ hlen0 (by simp) (by rw [hrest]; simp) ?_ ?_ (sim.grow _).drew ha ?_ hQ
      · intro x o hx hl
        exfalso
        have : x < ops.size := (Array.getElem?_eq_some_iff.1 hx).1
        simp [Array.getD, this] at hl
      · rw [hrest]
        exact hrun.toF (fun k hk => by simp)
      · rw [hrest]
        exact fresh_idAt sim
end
end Go.Proofs.Ytmpmmfbgdpfnpaa.Ev
/- The walker's way through a function's code. -/
namespace Go.Proofs.Ytmpmmfbgdpfnpaa.Ev
open Go Go.RowKit
set_option linter.unusedVariables false
set_option linter.unusedSimpArgs false

section
variable {R : Type} {P : Program} {C : Ctx} {tab : Tab} {call : CallH R}

/-- rounds of a loop -/
theorem loopN_ok [tI : Tst] {n : Nat} {live : List Nat} {c : Code} {body : List V → List Ent → (Ex → List V → List Ent → Option R) → Option R}
    (hbody : ∀ sl S k r, body sl S k = some r → ∃ e sl' S', k e sl' S' = some r ∧ CodeRes P c sl S e sl' S') {r : R} : ∀ (f : Nat) (sl : List V) (S : List Ent) (k : Ex → List V → List Ent → Option R), S.length = n → loopN n live body f sl S k = some r →
      ∃ e sl' S', k e sl' S' = some r ∧ S.length ≤ S'.length ∧ ∀ (base : Nat) (w0 : World) (E : Env) (w : World) (a : Act) (Q : Exit → Act → World → Prop), Sim base w0 E S w → SimA E sl a →
        (∀ E' a' w', E.Le E' → (∀ x, E'.live x → E.live x ∨ S.length ≤ x) → Sim base w0 E' S' w' → SimA E' sl' a' → Q e.to a' w') → Code.rounds P c Q f a w
  | 0, _, _, _, _, h => by simp [loopN] at h
  | f + 1, sl, S, k, hS, h => by
    rw [loopN] at h
    obtain ⟨e, sl1, S1, hk, hlen, hc⟩ := hbody _ _ _ _ h
    cases e with
    | normal =>
      simp only at hk
      rw [pickK_eq, truncK_eq] at hk
      have hl1 : (truncL n S1).length = n := truncL_len (by omega)
      obtain ⟨e2, sl2, S2, hk2, hlen2, hc2⟩ := loopN_ok hbody f _ _ k hl1 hk
      refine ⟨e2, sl2, S2, hk2, by omega, ?_⟩
      intro base w0 E w a Q sim ha hQ
      refine hc base w0 E w a _ sim ha ?_
      intro E' a' w' k1 k0 k2 k3
      simp only [Ex.to, Exit.then]
      refine hc2 base w0 (E'.cut n) w' a' Q (k2.cut n (by omega)) (k3.pick n live) ?_
      intro E2 a2 w2 l1 l0 l2 l3
      refine hQ E2 a2 w2 ((Env.le_cut k1 (fun o l => by have := sim.lt o l; omega)).trans l1) (fun x l => ?_) l2 l3
      rcases l0 x l with l | l
      · rcases k0 x l.1 with h | h
        · exact .inl h
        · exact .inr h
      · right; omega
    | exit id =>
      refine ⟨.exit id, sl1, S1, hk, hlen, ?_⟩
      intro base w0 E w a Q sim ha hQ
      exact hc base w0 E w a _ sim ha hQ
    | ret =>
      refine ⟨.ret, sl1, S1, hk, hlen, ?_⟩
      intro base w0 E w a Q sim ha hQ
      exact hc base w0 E w a _ sim ha hQ

theorem evC_ok [tI : Tst] (hC : RowsOK P C) (hT : TabOK P tab) (hcall : CallOK P call) (hm : P.follows .mixedOrders = true) (fuel : Nat) : ∀ (c : Code) (cur : Nat) (sl : List V) (S : List Ent) (k : Ex → List V → List Ent → Option R) (r : R),
    evC C tab call fuel cur c sl S k = some r → ∃ e sl' S', k e sl' S' = some r ∧ CodeRes P c sl S e sl' S' := by
  intro c
  induction c with
  | skip =>
    intro cur sl S k r h
    exact ⟨.normal, sl, S, by simpa [evC] using h, Nat.le_refl _, fun base w0 E w a Q sim ha hQ => wp_skip (hQ E a w (Env.Le.refl E) (fun _ l => .inl l) sim ha)⟩
  | scope body ih =>
    intro cur sl S k r h
    simp only [evC] at h
    obtain ⟨e, sl1, S1, hk, hl, hc⟩ := ih _ _ _ _ _ h
    refine ⟨e, sl1, S1, hk, hl, fun base w0 E w a Q sim ha hQ => wp_scope_straight (hc base w0 E w a _ sim ha ?_)⟩
    intro E' a' w' k1 k0 k2 k3
    have := hQ E' a' w' k1 k0 k2 k3
    cases e <;> exact this
  | label l =>
    intro cur sl S k r h
    exact ⟨.normal, sl, S, by simpa [evC] using h, Nat.le_refl _, fun base w0 E w a Q sim ha hQ => wp_label (hQ E a w (Env.Le.refl E) (fun _ l => .inl l) sim ha)⟩
  | region id ops draw =>
    intro cur sl S k r h
    obtain ⟨sl', S', h1, h2⟩ := region_ok hC hT hcall hm h
    exact ⟨.normal, sl', S', h1, h2⟩
  | seq x y ihx ihy =>
    intro cur sl S k r h
    simp only [evC] at h
    obtain ⟨e, sl1, S1, hk, hl, hc⟩ := ihx _ _ _ _ _ h
    cases e with
    | normal =>
      simp only [seqK] at hk
      obtain ⟨e2, sl2, S2, hk2, hl2, hc2⟩ := ihy _ _ _ _ _ hk
      refine ⟨e2, sl2, S2, hk2, Nat.le_trans hl hl2, ?_⟩
      intro base w0 E w a Q sim ha hQ
      refine wp_seq (hc base w0 E w a _ sim ha ?_)
      intro E' a' w' k1 k0 k2 k3
      exact hc2 base w0 E' w' a' Q k2 k3 (fun E2 a2 w2 l1 l0 l2 l3 => hQ E2 a2 w2 (k1.trans l1) (fun x l => (l0 x l).elim (k0 x) (fun h => .inr (Nat.le_trans hl h))) l2 l3)
    | exit id =>
      exact ⟨.exit id, sl1, S1, hk, hl, fun base w0 E w a Q sim ha hQ => wp_seq (hc base w0 E w a _ sim ha hQ)⟩
    | ret =>
      exact ⟨.ret, sl1, S1, hk, hl, fun base w0 E w a Q sim ha hQ => wp_seq (hc base w0 E w a _ sim ha hQ)⟩
  | cond c x y ihx ihy =>
    intro cur sl S k r h
    simp only [evC] at h
    split at h
    · rename_i b hb
      cases b with
      | true =>
        simp only [br] at h
        obtain ⟨e, sl1, S1, hk, hl, hc⟩ := ihx _ _ _ _ _ h
        refine ⟨e, sl1, S1, hk, hl, fun base w0 E w a Q sim ha hQ => wp_cond_true ?_ (hc base w0 E w a Q sim ha hQ)⟩
        have := ha.opd c
        rw [hb] at this
        exact rep_bool_iff.1 this
      | false =>
        simp only [br] at h
        obtain ⟨e, sl1, S1, hk, hl, hc⟩ := ihy _ _ _ _ _ h
        refine ⟨e, sl1, S1, hk, hl, fun base w0 E w a Q sim ha hQ => wp_cond_false ?_ (hc base w0 E w a Q sim ha hQ)⟩
        have := ha.opd c
        rw [hb] at this
        exact rep_bool_iff.1 this
    · simp at h
  | block id body ih =>
    intro cur sl S k r h
    simp only [evC] at h
    rw [lenK_eq, Nat.zero_add] at h
    obtain ⟨e, sl1, S1, hk, hl, hc⟩ := ih _ _ _ _ _ h
    have fin : ∀ (ex : Ex), (∀ Q a w, Exit.inBlock id Q ex.to a w = Q .normal a w) → e = ex → (pickK S.length (C.live id).2 0 sl1 fun sl => truncK S.length S1 fun S => k .normal sl S) = some r →
        ∃ e sl' S', k e sl' S' = some r ∧ CodeRes P (.block id body) sl S e sl' S' := by
      intro ex hex he hk
      subst he
      rw [pickK_eq, truncK_eq] at hk
      refine ⟨.normal, _, _, hk, by rw [truncL_len hl]; exact Nat.le_refl _, ?_⟩
      intro base w0 E w a Q sim ha hQ
      refine wp_block (hc base w0 E w a _ sim ha ?_)
      intro E' a' w' k1 k0 k2 k3
      rw [hex]
      exact hQ _ _ _ (Env.le_cut k1 sim.lt) (fun x l => k0 x l.1) (k2.cut S.length hl) (k3.pick _ _)
    cases e with
    | normal => exact fin .normal (fun _ _ _ => rfl) rfl hk
    | exit j =>
      simp only [blockK] at hk
      split at hk
      · rename_i hj
        exact fin (.exit j) (fun Q a w => by simp [Ex.to, Exit.inBlock, hj]) rfl hk
      · rename_i hj
        refine ⟨.exit j, sl1, S1, hk, hl, fun base w0 E w a Q sim ha hQ => wp_block (hc base w0 E w a _ sim ha ?_)⟩
        intro E' a' w' k1 k0 k2 k3
        simp only [Ex.to, Exit.inBlock, if_neg hj]
        exact hQ E' a' w' k1 k0 k2 k3
    | ret =>
      refine ⟨.ret, sl1, S1, hk, hl, fun base w0 E w a Q sim ha hQ => wp_block (hc base w0 E w a _ sim ha ?_)⟩
      intro E' a' w' k1 k0 k2 k3
      exact hQ E' a' w' k1 k0 k2 k3
  | loop body ih =>
    intro cur sl S k r h
    simp only [evC] at h
    rw [lenK_eq, Nat.zero_add, pickK_eq] at h
    obtain ⟨e, sl1, S1, hk, hl, hc⟩ := loopN_ok (P := P) (c := body) (fun sl S k r hb => ih _ _ _ _ _ hb) fuel _ S k rfl h
    refine ⟨e, sl1, S1, hk, hl, ?_⟩
    intro base w0 E w a Q sim ha hQ
    refine wp_loop_rounds fuel (hc base w0 (E.cut S.length) w a Q ?_ (ha.pick _ _) ?_)
    · exact { below := sim.below, base_le := sim.base_le, mem := sim.mem, old := sim.old, rmem := sim.rmem, lt := fun o l => l.2, apart := sim.apart
              ents := fun o => by
                have h := sim.ents o
                cases he : ent S o with
                | gone => trivial
                | obj cs =>
                  rw [he] at h
                  obtain ⟨h1, h2, us, t, h3, h4, h5, h6⟩ := h
                  refine ⟨⟨h1, sim.lt o h1⟩, h2, us, t, h3, ?_, h5, h6⟩
                  have hle : E.Le (E.cut S.length) := Env.le_cut (Env.Le.refl E) sim.lt
                  exact RepVs.mono hle _ _ h4
                | row k t xs => rw [he] at h; obtain ⟨h1, h2⟩ := h; exact ⟨⟨h1, sim.lt o h1⟩, h2⟩
                | frz k t xs => rw [he] at h; obtain ⟨h1, h2⟩ := h; exact ⟨⟨h1, sim.lt o h1⟩, h2⟩
                | rdo k t xs => rw [he] at h; obtain ⟨h1, h2⟩ := h; exact ⟨⟨h1, sim.lt o h1⟩, h2⟩
                | keys k ks => rw [he] at h; obtain ⟨h1, h2⟩ := h; exact ⟨⟨h1, sim.lt o h1⟩, h2⟩
                | fam m => rw [he] at h; obtain ⟨h1, h2, h3⟩ := h; exact ⟨⟨h1, sim.lt o h1⟩, h2, h3⟩
                | lit m => rw [he] at h; obtain ⟨⟨h1, h2, h3⟩, h4⟩ := h; exact ⟨⟨⟨h1, sim.lt o h1⟩, h2, h3⟩, h4⟩ }
    · intro E' a' w' k1 k0 k2 k3
      exact hQ E' a' w' ((Env.le_cut (Env.Le.refl E) sim.lt).trans k1) (fun x l => (k0 x l).imp_left fun h => h.1) k2 k3
  | exit id =>
    intro cur sl S k r h
    exact ⟨.exit id, sl, S, by simpa [evC] using h, Nat.le_refl _, fun base w0 E w a Q sim ha hQ => wp_exit (hQ E a w (Env.Le.refl E) (fun _ l => .inl l) sim ha)⟩
  | ret =>
    intro cur sl S k r h
    exact ⟨.ret, sl, S, by simpa [evC] using h, Nat.le_refl _, fun base w0 E w a Q sim ha hQ => wp_ret (hQ E a w (Env.Le.refl E) (fun _ l => .inl l) sim ha)⟩
  | _ => intro cur sl S k r h; simp [evC] at h
end
end Go.Proofs.Ytmpmmfbgdpfnpaa.Ev
/- A whole function: called in whatever world; by contract; gone into. -/
namespace Go.Proofs.Ytmpmmfbgdpfnpaa.Ev
open Go Go.RowKit
set_option linter.unusedVariables false
set_option linter.unusedSimpArgs false

/-- what a call of a function comes to, in whatever world -/
def FnRes (P : Program) (f : FuncId) (args : List V) (S : List Ent) (v : V) (S' : List Ent) : Prop :=
  S.length ≤ S'.length ∧ ∀ (base : Nat) (w0 : World) (E : Env) (w : World) (us : List Value) (R : Ending → World → Prop), Sim base w0 E S w → RepVs E args us →
    (∀ E' u w', E.Le E' → (∀ x, E'.live x → E.live x ∨ S.length ≤ x) → Sim base w0 E' S' w' → RepV E' v u → R (.returned u) w') → Calls P f us.toArray w R

theorem repVs_un {E : Env} : ∀ (n : Nat), RepVs E (List.replicate n .un) (List.replicate n undef)
  | 0 => by simp [RepVs]
  | n + 1 => by simp only [List.replicate_succ, RepVs]; exact ⟨by simp [RepV], repVs_un n⟩

theorem asT_d [tI : Tst] {E : Env} {t : Ty} {v : V} {u : Value} {x : t.den} (h : asT t v = some x) (r : RepV E v u) : RepV E (.d t x) u := by
  have one : ∀ (ht : t.agg = false), RepV E (.d t x) u := fun ht => by
    simp only [RepV]
    exact ⟨[u], asT_one ht h r, by rw [ht]; rfl⟩
  have cell : ∀ {v : V}, cellT t v = some x → (∀ s y, v ≠ .d s y) → t.agg = false := by
    intro v h hv
    cases v with
    | d s y => exact absurd rfl (hv s y)
    | own o s ys => simp only [cellT] at h; obtain ⟨rfl, -⟩ := cast_rep h; rfl
    | nn s ys => simp only [cellT] at h; obtain ⟨rfl, -⟩ := cast_rep h; rfl
    | nils => cases t <;> simp [cellT] at h <;> rfl
    | _ => simp [cellT] at h
  cases v with
  | d s y =>
    simp only [asT] at h
    obtain ⟨rfl, rfl⟩ := cast_rep h
    exact r
  | agg cs =>
    simp only [asT] at h
    split at h
    · rename_i ht
      have h' : asT t (.agg cs) = some x := by simp only [asT, if_pos ht]; exact h
      obtain ⟨zs, k1, k2⟩ := asT_rep h' r
      simp only [RepV] at r ⊢
      obtain ⟨us, rfl, -, -⟩ := r
      simp only [Value.cells] at k1
      have : us = zs := by simpa using congrArg Array.toList k1
      subst this
      exact ⟨us, k2, by rw [ht]; rfl⟩
    · simp at h
  | _ => exact one (cell (by simpa only [asT] using h) (by intro s y; simp))

theorem dataV_rep [tI : Tst] {C : Ctx} {E : Env} {t : TypeId} {v : V} {u : Value} (h : RepV E v u) : RepV E (dataV C t v) u := by
  unfold dataV
  split
  · rename_i cs
    rw [forceTy_eq]
    split
    · rename_i x hx
      exact asT_d hx h
    · exact h
  · exact h
theorem resV_rep [tI : Tst] {C : Ctx} {base : Nat} {w0 : World} {E : Env} {S : List Ent} {sl : List V} {a : Act} {P : Program} (hC : RowsOK P C) {w : World} (sim : Sim base w0 E S w) (ha : SimA E sl a) : ∀ (ts : List TypeId) (rs : List ResultVar) (vs : List V), resV C S sl ts rs = some vs → vs.all (fun v => match v with | .bad => false | _ => true) = true →
    ∃ us, RepVs E vs us ∧ (rs.mapM (m := Sem) fun | .tmp t => pure (a.tmps.getD t undef) | .cell c t => do loadVar t (← asAddr (a.tmps.getD c undef))).run P w = .ok us w
  | ts, [], vs, h, _ => by
    simp only [resV, Option.some.injEq] at h; subst h
    exact ⟨[], by simp [RepVs], by simp⟩
  | ts, .tmp t :: rs, vs, h, hb => by
    rw [resV] at h
    cases hr : resV C S sl (ts.drop 1) rs with
    | none => rw [hr] at h; simp at h
    | some vs' =>
      rw [hr] at h
      simp only [Option.map_some, Option.some.injEq] at h; subst h
      simp only [List.all_cons, Bool.and_eq_true] at hb
      obtain ⟨us, h1, h2⟩ := resV_rep hC sim ha (ts.drop 1) rs vs' hr hb.2
      obtain ⟨u, h3, h4⟩ := ha.slot t rfl (by intro e; rw [e] at hb; simp [dataV] at hb)
      refine ⟨u :: us, by simp only [RepVs]; exact ⟨dataV_rep h4, h1⟩, ?_⟩
      have hu : a.tmps.getD t undef = u := by simp [Array.getD_eq_getD_getElem?, h3]
      simp only [List.mapM_cons, Sem.run_bind, Sem.run_pure, Result.andThen_ok, h2, hu]
  | ts, .cell c t :: rs, vs, h, hb => by
    rw [resV] at h
    split at h
    case h_2 => simp at h
    rename_i o off hlk
    split at h
    case h_2 => simp at h
    rename_i v us0 hld
    cases hr : resV C S sl (ts.drop 1) rs with
    | none => rw [hr] at h; simp at h
    | some vs' =>
      rw [hr] at h
      simp only [Option.map_some, Option.some.injEq] at h; subst h
      simp only [List.all_cons, Bool.and_eq_true] at hb
      obtain ⟨us, h1, h2⟩ := resV_rep hC sim ha (ts.drop 1) rs vs' hr hb.2
      obtain ⟨u, h3, h4⟩ := ha.slot c hlk (by simp)
      obtain ⟨-, z, h5, h6⟩ := load_ok (P := P) hC sim hld rfl h4
      refine ⟨z :: us, by simp only [RepVs]; exact ⟨dataV_rep h6, h1⟩, ?_⟩
      have hu : a.tmps.getD c undef = u := by simp [Array.getD_eq_getD_getElem?, h3]
      simp only [RepV] at h4
      obtain ⟨-, rfl⟩ := h4
      have h7 : (loadVar t ⟨E.blk o, off, none⟩).run P w = .ok z w := by simpa [Instr.loadAt, Instr.sureAddr] using h5
      have h8 : (do loadVar t (← asAddr (a.tmps.getD c undef)) : Sem Value).run P w = .ok z w := by rw [hu]; simp [asAddr, h7]
      rw [List.mapM_cons, Sem.run_bind]
      refine (congrArg (fun x => Result.andThen x _) h8).trans ?_
      simp only [Result.andThen_ok, Sem.run_bind, h2, Sem.run_pure]

def notBad (v : V) : Bool := match v with | .bad => false | .tup vs => vs.all (fun v => match v with | .bad => false | _ => true) | _ => true

section
variable {R : Type} {P : Program} {C : Ctx} {tab : Tab} {call : CallH R}
theorem fn_ok [tI : Tst] (hC : RowsOK P C) (hT : TabOK P tab) (hcall : CallOK P call) (hm : P.follows .mixedOrders = true) (fuel : Nat) {f : FuncId} {fn : Func} (hf : P.funcs[f]? = some fn) {args : List V} {S : List Ent} {k : V → List Ent → Option R} {r : R}
    (h : evFn C tab call fuel fn args S k = some r) : ∃ v S', k v S' = some r ∧ (notBad v = true → FnRes P f args S v S') := by
  unfold evFn at h
  split at h
  · simp at h
  rename_i c hb
  obtain ⟨e, sl', S', hk, hl, hc⟩ := evC_ok hC hT hcall hm fuel _ _ _ _ _ _ h
  have fin : ∀ (vs : List V) (v : V), resV C S' sl' fn.resultTypes.toList fn.results.toList = some vs → (vs = [v] ∨ (v = .tup vs ∧ ∀ x, vs ≠ [x])) → (e = .normal ∨ e = .ret) → notBad v = true → FnRes P f args S v S' := by
    intro vs v hr hv he hnb
    refine ⟨hl, ?_⟩
    intro base w0 E w us R sim hargs hR
    refine calls_of_wp hf hb ?_
    have hsz : us.toArray.size = args.length := by simpa using hargs.length.symm
    have ha : SimA E (args ++ List.replicate (fn.ntmps - args.length) .un) { tmps := us.toArray ++ Array.replicate (fn.ntmps - us.toArray.size) undef, defers := [] } := by
      refine ⟨rfl, ?_⟩
      simp only [Array.toList_append, Array.toList_replicate, hsz]
      exact RepVs.append hargs (repVs_un _)
    refine hc base w0 E w _ _ sim ha ?_
    intro E' a' w' k1 k0 k2 k3
    have hall : vs.all (fun v => match v with | .bad => false | _ => true) = true := by
      rcases hv with rfl | ⟨rfl, _⟩
      · cases v <;> simp_all [notBad]
      · simpa [notBad] using hnb
    obtain ⟨us', r1, r2⟩ := resV_rep hC k2 k3 _ _ vs hr hall
    have hres : ∃ u, (results fn a'.tmps).run P w' = .ok u w' ∧ RepV E' v u := by
      have hlen := r1.length
      have hrun : (fn.results.mapM (m := Sem) fun | .tmp t => pure (a'.tmps.getD t undef) | .cell c t => do loadVar t (← asAddr (a'.tmps.getD c undef))).run P w' = .ok us'.toArray w' := by
        rw [Array.mapM_eq_mapM_toList, ← bind_pure_comp, Sem.run_bind, r2]
        rfl
      rcases hv with rfl | ⟨rfl, hne⟩
      · obtain ⟨u, rfl⟩ := List.length_eq_one_iff.1 (by rw [← hlen]; rfl : us'.length = 1)
        refine ⟨u, ?_, by simpa [RepVs] using r1⟩
        unfold results
        rw [Sem.run_bind]
        refine (congrArg (fun x => Result.andThen x _) hrun).trans ?_
        simp
      · refine ⟨.tuple us'.toArray, ?_, by simp only [RepV]; exact ⟨us', rfl, r1⟩⟩
        unfold results
        rw [Sem.run_bind]
        refine (congrArg (fun x => Result.andThen x _) hrun).trans ?_
        have : us'.toArray.size ≠ 1 := by
          intro h1
          obtain ⟨x, hx⟩ := List.length_eq_one_iff.1 (by rw [hlen]; simpa using h1 : vs.length = 1)
          exact hne x hx
        simp only [Result.andThen_ok, Sem.run_pure, this, dite_false]
    obtain ⟨u, h1, h2⟩ := hres
    rcases he with rfl | rfl
    · exact ⟨k3.defers, u, h1, hR E' u w' k1 k0 k2 h2⟩
    · exact ⟨k3.defers, u, h1, hR E' u w' k1 k0 k2 h2⟩
  have fin2 : (e = .normal ∨ e = .ret) → (match resV C S' sl' fn.resultTypes.toList fn.results.toList with | some [v] => k v S' | some vs => k (.tup vs) S' | none => none) = some r → ∃ v S', k v S' = some r ∧ (notBad v = true → FnRes P f args S v S') := by
    intro he hk
    split at hk
    · rename_i v hr
      exact ⟨v, S', hk, fin _ v hr (.inl rfl) he⟩
    · rename_i vs hne hr
      exact ⟨.tup vs, S', hk, fin vs _ hr (.inr ⟨rfl, fun x hx => hne x (by rw [hx])⟩) he⟩
    · simp at hk
  cases e with
  | exit id => simp at hk
  | normal => exact fin2 (.inl rfl) hk
  | ret => exact fin2 (.inr rfl) hk
end
end Go.Proofs.Ytmpmmfbgdpfnpaa.Ev
/- Calls by contract: a function that is called on data, by whom ever. -/
namespace Go.Proofs.Ytmpmmfbgdpfnpaa.Ev
open Go Go.RowKit
set_option linter.unusedVariables false
set_option linter.unusedSimpArgs false

/-- what a call hands out: data, and slices of its own that nothing else lies in -/
def exportV1 [tI : Tst] {R : Type} (S : List Ent) : V → (V → Option R) → Option R
  | .d t x, k => k (.d t x)
  | .nils, k => k .nils
  | .un, k => k .un
  | .own o t xs, k => match ent S o with
    | .fam n => br (tst (n = List.length xs)) (k (.own 0 t xs)) none
    | .lit n => br (tst (n = List.length xs)) (k (.own 0 t xs)) none
    | _ => none
  | _, _ => none
def exportVs [tI : Tst] {R : Type} (S : List Ent) : List V → (List V → Option R) → Option R
  | [], k => k []
  | v :: vs, k => exportV1 S v fun v => exportVs S vs fun vs => k (v :: vs)
def exportK [tI : Tst] {R : Type} (S : List Ent) : V → (V → Option R) → Option R
  | .tup vs, k => exportVs S vs fun vs => k (.tup vs)
  | v, k => exportV1 S v k
def exportV [tI : Tst] (S : List Ent) (v : V) : Option V := exportK S v some

/-- what stands for what is handed out -/
inductive Exp (S : List Ent) : V → V → Prop
  | d (t : Ty) (x : t.den) : Exp S (.d t x) (.d t x)
  | nils : Exp S .nils .nils
  | un : Exp S .un .un
  | own (o : Nat) (t : Ty) (xs : List t.den) (h : ent S o = .fam (List.length xs) ∨ ent S o = .lit (List.length xs)) : Exp S (.own o t xs) (.own 0 t xs)
inductive Exps (S : List Ent) : List V → List V → Prop
  | nil : Exps S [] []
  | cons (v v' : V) (vs vs' : List V) (h : Exp S v v') (hs : Exps S vs vs') : Exps S (v :: vs) (v' :: vs')
theorem exportV1_exp [tI : Tst] {R : Type} {S : List Ent} {v : V} {r : R} {k : V → Option R} (h : exportV1 S v k = some r) : ∃ v', Exp S v v' ∧ k v' = some r := by
  cases v with
  | d t x => exact ⟨_, .d t x, h⟩
  | nils => exact ⟨_, .nils, h⟩
  | un => exact ⟨_, .un, h⟩
  | own o t xs =>
    simp only [exportV1] at h
    split at h
    · rename_i n hn
      cases hb : tst (n = List.length xs) with
      | false => rw [hb] at h; simp [br] at h
      | true =>
        rw [br_t hb] at h
        have := tst_iff.1 hb
        subst this
        exact ⟨_, .own o t xs (.inl hn), h⟩
    · rename_i n hn
      cases hb : tst (n = List.length xs) with
      | false => rw [hb] at h; simp [br] at h
      | true =>
        rw [br_t hb] at h
        have := tst_iff.1 hb
        subst this
        exact ⟨_, .own o t xs (.inr hn), h⟩
    · simp at h
  | _ => simp [exportV1] at h
theorem exportVs_exp [tI : Tst] {R : Type} {S : List Ent} : ∀ {vs : List V} {r : R} {k : List V → Option R}, exportVs S vs k = some r → ∃ vs', Exps S vs vs' ∧ k vs' = some r
  | [], _, _, h => ⟨[], .nil, h⟩
  | v :: vs, r, k, h => by
    rw [exportVs] at h
    obtain ⟨v', h1, h2⟩ := exportV1_exp h
    obtain ⟨vs', h3, h4⟩ := exportVs_exp h2
    exact ⟨v' :: vs', .cons _ _ _ _ h1 h3, h4⟩
theorem exportK_exp [tI : Tst] {R : Type} {S : List Ent} {v : V} {r : R} {k : V → Option R} (h : exportK S v k = some r) : ∃ v', ((∃ vs vs', v = .tup vs ∧ v' = .tup vs' ∧ Exps S vs vs') ∨ Exp S v v') ∧ k v' = some r := by
  unfold exportK at h
  split at h
  · rename_i vs
    obtain ⟨vs', h1, h2⟩ := exportVs_exp h
    exact ⟨_, .inl ⟨vs, vs', rfl, rfl, h1⟩, h2⟩
  · obtain ⟨v', h1, h2⟩ := exportV1_exp h
    exact ⟨v', .inr h1, h2⟩
theorem exportVs_of [tI : Tst] {R : Type} {S : List Ent} : ∀ {vs vs' : List V} {k : List V → Option R}, Exps S vs vs' → exportVs S vs k = k vs'
  | [], _, _, .nil => rfl
  | v :: vs, _, k, .cons _ v' _ vs' h hs => by
    have h1 : ∀ (j : V → Option R), exportV1 S v j = j v' := by
      intro j
      cases h with
      | d t x => rfl
      | nils => rfl
      | un => rfl
      | own o t xs ho =>
        rcases ho with ho | ho
        · simp only [exportV1, ho]; rw [br_t (tst_iff.2 trivial)]
        · simp only [exportV1, ho]; rw [br_t (tst_iff.2 trivial)]
    rw [exportVs, h1, exportVs_of hs]
theorem exportV_of [tI : Tst] {S : List Ent} {v v' : V} (h : (∃ vs vs', v = .tup vs ∧ v' = .tup vs' ∧ Exps S vs vs') ∨ Exp S v v') : exportV S v = some v' := by
  rcases h with ⟨vs, vs', rfl, rfl, hs⟩ | h
  · exact exportVs_of hs
  · cases h with
    | d t x => rfl
    | nils => rfl
    | un => rfl
    | own o t xs ho =>
      rcases ho with ho | ho
      · simp only [exportV, exportK, exportV1, ho]; rw [br_t (tst_iff.2 trivial)]
      · simp only [exportV, exportK, exportV1, ho]; rw [br_t (tst_iff.2 trivial)]
theorem exportV_exp [tI : Tst] {S : List Ent} {v r : V} (h : exportV S v = some r) : (∃ vs vs', v = .tup vs ∧ r = .tup vs' ∧ Exps S vs vs') ∨ Exp S v r := by
  obtain ⟨v', h1, h2⟩ := exportK_exp h
  simp only [Option.some.injEq] at h2; subst h2
  exact h1
theorem exps_notBad {S : List Ent} : ∀ {vs vs' : List V}, Exps S vs vs' → vs.all (fun v => match v with | .bad => false | _ => true) = true
  | [], _, _ => rfl
  | v :: vs, _, .cons _ _ _ _ h hs => by
    rw [List.all_cons, exps_notBad hs]
    cases h <;> rfl
theorem export_notBad [tI : Tst] {S : List Ent} {v r : V} (h : exportV S v = some r) : notBad v = true := by
  rcases exportV_exp h with ⟨vs, vs', rfl, rfl, hs⟩ | hs
  · exact exps_notBad hs
  · cases hs <;> rfl

/-- what is handed out, rows too: they are written to no more -/
def dataVs (C : Ctx) : List TypeId → List V → List V
  | _, [] => []
  | ts, v :: vs => dataV C (ts.headD 0) v :: dataVs C (ts.drop 1) vs
def exportF [tI : Tst] (C : Ctx) (ts : List TypeId) (v : V) (S : List Ent) : Option V :=
  match rowR v with
  | false => exportV S v
  | true => match v with
    | .tup vs => frzA S vs fun vs S => exportV S (.tup (dataVs C ts vs))
    | v => frzV S v fun v S => exportV S (dataV C (ts.headD 0) v)
theorem dataVs_rep [tI : Tst] {C : Ctx} {E : Env} : ∀ {vs : List V} {ts : List TypeId} {us : List Value}, RepVs E vs us → RepVs E (dataVs C ts vs) us
  | [], _, [], _ => by simp [dataVs, RepVs]
  | v :: vs, ts, u :: us, h => by
    simp only [RepVs, dataVs] at h ⊢
    exact ⟨dataV_rep h.1, dataVs_rep h.2⟩
  | [], _, _ :: _, h => by simp [RepVs] at h
  | _ :: _, _, [], h => by simp [RepVs] at h
def nb (v : V) : Bool := match v with | .bad => false | _ => true
theorem nb_frz [tI : Tst] {R : Type} {S : List Ent} {v : V} {k : V → List Ent → Option R} {r : R} (h : frzV S v k = some r) : ∃ v' S', k v' S' = some r ∧ FrzRes S v S' v' ∧ (nb v' = true → nb v = true) := by
  cases v with
  | bad => exact ⟨.bad, S, h, ⟨rfl, fun base w0 E w u sim hr => ⟨E, Env.Le.refl E, sim, hr, fun _ l => l⟩⟩, fun h => h⟩
  | _ =>
    obtain ⟨v', S', h1, h2⟩ := frzV_ok h
    exact ⟨v', S', h1, h2, fun _ => rfl⟩
theorem nb_frzA [tI : Tst] {R : Type} : ∀ {vs : List V} {S : List Ent} {k : List V → List Ent → Option R} {r : R}, frzA S vs k = some r → ∃ vs' S', k vs' S' = some r ∧ FrzsRes S vs S' vs' ∧ (vs'.all nb = true → vs.all nb = true)
  | [], S, k, r, h => ⟨[], S, h, FrzsRes.nil, fun h => h⟩
  | v :: vs, S, k, r, h => by
    rw [frzA] at h
    obtain ⟨v', S1, h1, h2, h3⟩ := nb_frz h
    obtain ⟨vs', S2, g1, g2, g3⟩ := nb_frzA h1
    refine ⟨v' :: vs', S2, g1, FrzsRes.cons h2 g2, fun hb => ?_⟩
    simp only [List.all_cons, Bool.and_eq_true] at hb ⊢
    exact ⟨h3 hb.1, g3 hb.2⟩
theorem nb_dataV {C : Ctx} {t : TypeId} {v : V} (h : nb (dataV C t v) = true) : nb v = true := by
  cases v <;> first | rfl | exact h
theorem nb_dataVs {C : Ctx} : ∀ {vs : List V} {ts : List TypeId}, (dataVs C ts vs).all nb = true → vs.all nb = true
  | [], _, _ => rfl
  | v :: vs, ts, h => by
    simp only [dataVs, List.all_cons, Bool.and_eq_true] at h ⊢
    exact ⟨nb_dataV h.1, nb_dataVs h.2⟩
theorem exportF_rep [tI : Tst] {C : Ctx} {ts : List TypeId} {v r : V} {S : List Ent} (h : exportF C ts v S = some r) : notBad v = true ∧ ∀ (base : Nat) (w0 : World) (E : Env) (w : World) (u : Value), Sim base w0 E S w → RepV E v u →
    ∃ E' S' v', E.Le E' ∧ Sim base w0 E' S' w ∧ RepV E' v' u ∧ exportV S' v' = some r := by
  unfold exportF at h
  split at h
  · exact ⟨export_notBad h, fun base w0 E w u sim hr => ⟨E, S, v, Env.Le.refl E, sim, hr, h⟩⟩
  · split at h
    · rename_i vs _
      obtain ⟨vs', S', h1, h2, h3⟩ := nb_frzA h
      have hb := export_notBad h1
      refine ⟨h3 (nb_dataVs (C := C) (ts := ts) hb), ?_⟩
      intro base w0 E w u sim hr
      simp only [RepV] at hr
      obtain ⟨us, rfl, hr⟩ := hr
      obtain ⟨E', k1, k2, k3, k4⟩ := h2.2 base w0 E w us sim hr
      exact ⟨E', S', _, k1, k2, by simp only [RepV]; exact ⟨us, rfl, dataVs_rep k3⟩, h1⟩
    · rename_i hnt
      obtain ⟨v', S', h1, h2, h3⟩ := nb_frz h
      have hb := export_notBad h1
      refine ⟨?_, ?_⟩
      · cases v with
        | bad =>
          have : nb v' = true := by
            have hq : nb (dataV C (ts.headD 0) v') = true := by
              generalize dataV C (ts.headD 0) v' = x at hb
              cases x <;> first | rfl | simp [notBad] at hb
            exact nb_dataV hq
          exact absurd (h3 this) (by simp [nb])
        | tup vs => exact absurd rfl (hnt vs)
        | _ => rfl
      · intro base w0 E w u sim hr
        obtain ⟨E', k1, k2, k3, k4⟩ := h2.2 base w0 E w u sim hr
        exact ⟨E', S', _, k1, k2, dataV_rep k3, h1⟩

/-- a call of a function on data, from whatever world -/
def FarRes [tI : Tst] (P : Program) (g : FuncId) (xs : List V) (v : V) : Prop :=
  ∀ (m : Mem) (w : World) (us : List Value) (R : Ending → World → Prop), m.lies w → RepVs (Env.of m) xs us →
    (∀ E' S' v' u w', (Env.of m).Le E' → Sim w.heap.size w E' S' w' → RepV E' v' u → exportV S' v' = some v → R (.returned u) w') → Calls P g us.toArray w R

section
variable {R : Type} {P : Program} {C : Ctx} {tab : Tab} {call : CallH V}
theorem sim_start {m : Mem} {w : World} (hm : m.lies w) : Sim w.heap.size w (Env.of m) [] w where
  below := below_toX (Below.refl _ _)
  base_le := Nat.le_refl _
  mem := hm
  ents o := by simp [ent, EntOK]
  apart o o' B _ h := by simp [ent, owns] at h
  lt o l := l.elim
  old _ _ _ := rfl
  rmem _ _ _ h := by simp [Env.of] at h

theorem far_fn [tI : Tst] (hC : RowsOK P C) (hT : TabOK P tab) (hcall : CallOK P call) (hm : P.follows .mixedOrders = true) (fuel : Nat) {f : FuncId} {fn : Func} (hf : P.funcs[f]? = some fn) {args : List V} {v : V}
    (h : evFn C tab call fuel fn args [] (fun v S => exportV S v) = some v) : FarRes P f args v := by
  obtain ⟨v', S', h1, h2⟩ := fn_ok hC hT hcall hm fuel hf h
  have h3 := h2 (export_notBad h1)
  intro m w us R hl hr hR
  refine h3.2 w.heap.size w (Env.of m) w us R (sim_start hl) hr ?_
  intro E' u w' k1 k0 k2 k3
  exact hR E' S' v' u w' k1 k2 k3 h1
end

theorem far_fnF [tI : Tst] {P : Program} {C : Ctx} {tab : Tab} {call : CallH V} (hC : RowsOK P C) (hT : TabOK P tab) (hcall : CallOK P call) (hm : P.follows .mixedOrders = true) (fuel : Nat) {f : FuncId} {fn : Func} (hf : P.funcs[f]? = some fn) {args : List V} {v : V} {ts : List TypeId}
    (h : evFn C tab call fuel fn args [] (fun v S => exportF C ts v S) = some v) : FarRes P f args v := by
  obtain ⟨v', S', h1, h2⟩ := fn_ok hC hT hcall hm fuel hf h
  obtain ⟨hnb, h4⟩ := exportF_rep h1
  have h3 := h2 hnb
  intro m w us R hl hr hR
  refine h3.2 w.heap.size w (Env.of m) w us R (sim_start hl) hr ?_
  intro E' u w' k1 k0 k2 k3
  obtain ⟨E2, S2, v2, l1, l2, l3, l4⟩ := h4 _ _ E' w' u k2 k3
  exact hR E2 S2 v2 u w' (k1.trans l1) l2 l3 l4

/-! ### seen by the caller -/
def Env.imp (E E' : Env) (id o : Nat) : Env := (E.setM E'.m).add id (E'.blk o) (E'.sz o) (E'.plc o) (E'.len o) (E'.ex o)

theorem RepD.of_own {E : Env} {o : Nat} {t : Ty} {xs : List t.den} {u : Value} (h : RepV E (.own o t xs) u) : RepD E.m (.li t) xs u := by simp only [RepV] at h; exact h.1

/-- as data alone -/
theorem rest_rep [tI : Tst] {E E' : Env} (hm : E.m = E'.m) {S : List Ent} : ∀ {vs vs' : List V} {us : List Value}, Exps S vs vs' → RepVs E' vs us → RepVs E (importV.rest vs') us
  | _, _, [], .nil, _ => by simp [importV.rest, RepVs]
  | _, _, u :: us, .cons v v' vs vs' h hs, hr => by
    simp only [RepVs] at hr
    have ih := rest_rep hm hs hr.2
    cases h with
    | d t x => simp only [importV.rest, RepVs]; refine ⟨?_, ih⟩; have := hr.1; simp only [RepV] at this ⊢; rw [hm]; exact this
    | nils => simp only [importV.rest, RepVs]; refine ⟨?_, ih⟩; have := hr.1; simp only [RepV] at this ⊢; exact this
    | un => simp only [importV.rest, RepVs]; refine ⟨?_, ih⟩; have := hr.1; simp only [RepV] at this ⊢; exact this
    | own o t xs ho => simp only [importV.rest, RepVs]; refine ⟨?_, ih⟩; have := RepD.of_own hr.1; simp only [RepV]; rw [hm]; exact this
  | _, _, [], .cons _ _ _ _ _ _, hr => by simp [RepVs] at hr
  | _, _, _ :: _, .nil, hr => by simp [RepVs] at hr

theorem go_rep [tI : Tst] {E E' : Env} (id : Nat) {S : List Ent} : ∀ {vs vs' : List V} {us : List Value}, Exps S vs vs' → RepVs E' vs us →
    ((importV.go id vs').2 = none ∧ ∀ E2 : Env, E2.m = E'.m → RepVs E2 (importV.go id vs').1 us) ∨
    (∃ o n t, (ent S o = .fam n ∨ ent S o = .lit n) ∧ (importV.go id vs').2 = some n ∧ E'.live o ∧ E'.sz o = Ty.size t ∧ RepVs (E.imp E' id o) (importV.go id vs').1 us)
  | _, _, [], .nil, _ => .inl ⟨rfl, fun _ _ => by simp [importV.go, RepVs]⟩
  | _, _, u :: us, .cons v v' vs vs' h hs, hr => by
    simp only [RepVs] at hr
    have ih := go_rep (E := E) id hs hr.2
    have plain : ∀ (hd : ∀ E2 : Env, E2.m = E'.m → RepV E2 v' u), ((importV.go id vs').2 = none ∧ ∀ E2 : Env, E2.m = E'.m → RepVs E2 (v' :: (importV.go id vs').1) (u :: us)) ∨
        (∃ o n t, (ent S o = .fam n ∨ ent S o = .lit n) ∧ (importV.go id vs').2 = some n ∧ E'.live o ∧ E'.sz o = Ty.size t ∧ RepVs (E.imp E' id o) (v' :: (importV.go id vs').1) (u :: us)) := by
      intro hd
      rcases ih with ⟨h1, h2⟩ | ⟨o, n, t, h1, h2, h3, h4, h5⟩
      · exact .inl ⟨h1, fun E2 hE => by simp only [RepVs]; exact ⟨hd E2 hE, h2 E2 hE⟩⟩
      · exact .inr ⟨o, n, t, h1, h2, h3, h4, by simp only [RepVs]; exact ⟨hd _ rfl, h5⟩⟩
    cases h with
    | d t x => exact plain (fun E2 hE => by have := hr.1; simp only [RepV] at this ⊢; rw [hE]; exact this)
    | nils => exact plain (fun E2 hE => by have := hr.1; simp only [RepV] at this ⊢; exact this)
    | un => exact plain (fun E2 hE => by have := hr.1; simp only [RepV] at this ⊢; exact this)
    | own o t xs ho =>
      have h1 := hr.1
      simp only [RepV] at h1
      refine .inr ⟨o, _, t, ho, rfl, h1.2.1, h1.2.2.1, ?_⟩
      simp only [importV.go, RepVs]
      refine ⟨?_, rest_rep (E := E.imp E' id o) (E' := E') rfl hs hr.2⟩
      simp only [RepV, Env.imp, Env.add, Env.setM, if_true]
      exact ⟨h1.1, .inl trivial, h1.2.2⟩
  | _, _, [], .cons _ _ _ _ _ _, hr => by simp [RepVs] at hr
  | _, _, _ :: _, .nil, hr => by simp [RepVs] at hr

theorem import_rep [tI : Tst] {E E' : Env} (id : Nat) {S : List Ent} {v v' : V} {u : Value} (h : exportV S v = some v') (hr : RepV E' v u) :
    ((importV id v').2 = none ∧ ∀ E2 : Env, E2.m = E'.m → RepV E2 (importV id v').1 u) ∨
    (∃ o n, (ent S o = .fam n ∨ ent S o = .lit n) ∧ (importV id v').2 = some n ∧ RepV (E.imp E' id o) (importV id v').1 u) := by
  rcases exportV_exp h with ⟨vs, vs', rfl, rfl, hs⟩ | hs
  · simp only [RepV] at hr
    obtain ⟨us, rfl, hr⟩ := hr
    rcases go_rep (E := E) id hs hr with ⟨h1, h2⟩ | ⟨o, n, t, h1, h2, h3, h4, h5⟩
    · exact .inl ⟨h1, fun E2 hE => by simp only [importV, RepV]; exact ⟨us, rfl, h2 E2 hE⟩⟩
    · exact .inr ⟨o, n, h1, h2, by simp only [importV, RepV]; exact ⟨us, rfl, h5⟩⟩
  · cases hs with
    | d t x => exact .inl ⟨rfl, fun E2 hE => by simp only [importV, RepV] at hr ⊢; rw [hE]; exact hr⟩
    | nils => exact .inl ⟨rfl, fun E2 hE => by simp only [importV, RepV] at hr ⊢; exact hr⟩
    | un => exact .inl ⟨rfl, fun E2 hE => by simp only [importV, RepV] at hr ⊢; exact hr⟩
    | own o t xs ho =>
      simp only [RepV] at hr
      refine .inr ⟨o, _, ho, rfl, ?_⟩
      simp only [importV, RepV, Env.imp, Env.add, Env.setM, if_true]
      exact ⟨hr.1, .inl trivial, hr.2.2⟩

theorem argsV_rep [tI : Tst] {E : Env} : ∀ {ts : List Ty} {vs xs : List V} {us : List Value}, argsV ts vs = some xs → RepVs E vs us → RepVs E xs us ∧ ∀ E2 : Env, E2.m = E.m → RepVs E2 xs us
  | [], [], _, us, h, hr => by
    simp only [argsV, Option.some.injEq] at h; subst h
    cases us with
    | nil => simp [RepVs]
    | cons _ _ => simp [RepVs] at hr
  | t :: ts, v :: vs, _, u :: us, h, hr => by
    rw [argsV] at h
    simp only [RepVs] at hr
    cases hx : asT t v with
    | none => rw [hx] at h; simp at h
    | some x =>
      rw [hx] at h
      simp only [Option.bind_some] at h
      cases hy : argsV ts vs with
      | none => rw [hy] at h; simp at h
      | some ys =>
        rw [hy] at h
        simp only [Option.map_some, Option.some.injEq] at h; subst h
        obtain ⟨k1, k2⟩ := argsV_rep hy hr.2
        have hd := asT_d hx hr.1
        simp only [RepVs]
        refine ⟨⟨hd, k1⟩, fun E2 hE => ⟨?_, k2 E2 hE⟩⟩
        simp only [RepV] at hd ⊢
        rw [hE]; exact hd
  | _ :: _, _ :: _, _, [], _, hr => by simp [RepVs] at hr
  | [], _ :: _, _, _, h, _ => by simp [argsV] at h
  | _ :: _, [], _, _, h, _ => by simp [argsV] at h

/-- a call that the machine answers itself, with data and at once -/
def ExtRes (P : Program) (g : FuncId) (xs : List V) (v : V) : Prop :=
  (∀ id, importV id v = (v, none)) ∧ ∀ (m : Mem) (w : World) (us : List Value), m.lies w → RepVs (Env.of m) xs us →
    ∃ u, (callFunc g us.toArray).run P w = .ok (.value u) w ∧ ∀ E : Env, E.m = m → RepV E v u
/-- the table's contracts hold -/
def TabFar [tI : Tst] (P : Program) (tab : Tab) : Prop :=
  ∀ g ts F, tab g = some (ts, F) → ∀ vs xs v, argsV ts vs = some xs → F xs = some (true, v) →
    ((∃ fn, P.funcs[g]? = some fn ∧ (fn.name == "runtime.NumGoroutine") = false ∧ fn.body.isNone = false) ∧ FarRes P g xs v) ∨ ExtRes P g xs v

theorem tabFar_ok [tI : Tst] {P : Program} {tab : Tab} (h : TabFar P tab) : TabOK P tab := by
  intro g args id v us ht S
  unfold tabV at ht
  cases hg : tab g with
  | none => rw [hg] at ht; simp at ht
  | some y =>
    obtain ⟨ts, F⟩ := y
    rw [hg] at ht
    simp only at ht
    cases hx : argsV ts args with
    | none => rw [hx] at ht; simp at ht
    | some xs =>
      rw [hx] at ht
      simp only [Option.bind_some] at ht
      cases hF : F xs with
      | none => rw [hF] at ht; simp at ht
      | some v0 =>
        obtain ⟨b0, v0⟩ := v0
        rw [hF] at ht
        simp only [Option.map_some, Option.some.injEq, Prod.mk.injEq] at ht
        obtain ⟨rfl, rfl, rfl⟩ := ht
        rcases h g ts F hg _ _ _ hx hF with hl | hr
        rotate_left
        · rw [hr.1 id]
          refine ⟨Nat.le_refl _, ?_⟩
          intro base w0 E w us sim hargs hid
          obtain ⟨u, h1, h2⟩ := hr.2 E.m w us sim.mem ((argsV_rep hx hargs).2 _ rfl)
          unfold Called
          rw [h1]
          exact ⟨E, Env.Le.refl _, sim, h2 E rfl, fun _ l => .inl l⟩
        obtain ⟨⟨fn, hfn, hn, hb⟩, hfar⟩ := hl
        refine ⟨Nat.le_of_eq (length_sets _ _).symm, ?_⟩
        intro base w0 E w us sim hargs hid
        unfold Called
        have hrun : (callFunc g us.toArray).run P w = .ok (.enter g us.toArray) w := by
          have hn' : fn.name ≠ "runtime.NumGoroutine" := by simpa using hn
          have hb' : fn.body ≠ none := by intro e; rw [e] at hb; simp at hb
          simp [callFunc, hfn, hn', hb']
        rw [hrun]
        refine hfar E.m w us _ sim.mem ((argsV_rep hx hargs).2 _ rfl) ?_
        intro E' S' v' u w' k1 k2 k3 k4
        refine ⟨u, rfl, ?_⟩
        have hold : ∀ b, b < w.heap.size → ∀ j, E'.m b j = E.m b j := fun b hb j => by rw [k2.old b hb j, k1.m0]; rfl
        have kb : Below w.heap.size w w' := by have := k2.below; rw [k1.lent] at this; exact this.to
        have hbel : BelowX E.lent base w w' := below_toX ⟨kb.os, kb.tape, kb.output, kb.size, fun k hk => kb.block k (Nat.lt_of_lt_of_le hk sim.base_le)⟩
        have hblk : ∀ o B, owns E o (ent S o) = some B → w'.heap[B]? = w.heap[B]? ∧ ∀ j, E'.m B j = E.m B j := fun o B hB => ⟨kb.block B (owns_lt sim hB).2, hold B (owns_lt sim hB).2⟩
        rcases import_rep (E := E) id k4 k3 with ⟨hi, hr⟩ | ⟨o, n, ho, hi, hr⟩
        · rw [hi]
          refine ⟨E.setM E'.m, Env.le_setM k1.m, ?_, hr _ rfl, fun _ l => .inl l⟩
          refine sim.step (Env.le_setM k1.m) hbel (fun _ => False) (fun _ _ => ⟨rfl, fun _ => ⟨rfl, rfl⟩⟩) (fun o B _ hB => hblk o B hB) k2.mem (fun _ h => h.elim) (fun _ _ h => h.elim) (fun _ _ _ h => h.elim) sim.lt (fun b hb j => hold b (Nat.lt_of_lt_of_le hb sim.base_le) j)
        · rw [hi]
          simp only [sets]
          have hm1 : E.m.le E'.m := k1.m
          have hle : E.Le (E.imp E' id o) := (Env.le_setM hm1).trans (Env.le_add (E := E.setM E'.m) hid.1 _ _ _ _ _)
          refine ⟨E.imp E' id o, hle, ?_, hr, fun x l => l.elim (fun h => .inr (.inl h)) (fun h => .inl h)⟩
          have he := k2.ents o
          obtain ⟨f1, f2, f3⟩ : E'.live o ∧ n = E'.len o ∧ FamOK E' w.heap.size w' o := by
            rcases ho with ho | ho
            · rw [ho] at he; exact he
            · rw [ho] at he; exact he.1
          refine sim.step hle hbel (fun i => i = id) ?_ (fun o B _ hB => hblk o B hB) k2.mem ?_ ?_ ?_ ?_ (fun b hb j => hold b (Nat.lt_of_lt_of_le hb sim.base_le) j)
          · intro i hi
            exact ⟨ent_set_ne _ hi, fun _ => ⟨if_neg (h := instDecidableEqNat i id) hi, if_neg (h := instDecidableEqNat i id) hi⟩⟩
          · rintro i rfl
            rw [ent_set_same _ hid.2]
            refine ⟨.inl rfl, by simp [Env.imp, Env.add, f2], ?_⟩
            unfold FamOK at f3 ⊢
            simp only [Env.imp, Env.add, Env.setM, if_true]
            cases hx : E'.ex o with
            | none => rw [hx] at f3; exact f3
            | some g =>
              rw [hx] at f3
              obtain ⟨cap, cur, e, q1, q2, q3⟩ := f3
              exact ⟨cap, cur, e, q1, Nat.le_trans sim.base_le q2, q3⟩
          · rintro i B rfl hB i' hi' hB'
            rw [ent_set_same _ hid.2] at hB
            simp only [owns, Env.imp, Env.add, if_true] at hB
            unfold FamOK at f3
            rw [hB] at f3
            obtain ⟨cap, cur, e, q1, q2, q3⟩ := f3
            have := (owns_lt sim hB').2
            omega
          · rintro i i' B rfl rfl hne; exact absurd rfl hne
          · rintro i (rfl | l)
            · rw [List.length_set]; exact hid.2
            · rw [List.length_set]; exact sim.lt _ l
end Go.Proofs.Ytmpmmfbgdpfnpaa.Ev
/- Arguments of a law opened: what lies at a type of the table reads as data of its kind. -/
namespace Go.Proofs.Ytmpmmfbgdpfnpaa.Ev
open Go Go.RowKit Go.Deep
set_option linter.unusedVariables false
set_option linter.unusedSimpArgs false

/-- bytes that it takes, at least -/
def Ty.bytes : Ty → Nat
  | .bo => 1 | .it k => k.bits / 8 | .st => 16 | .ni => 8 | .li _ => 24 | .ue => 0 | .co t r => t.bytes + r.bytes | .ar n t => n * t.bytes
def fieldsO (C : Ctx) (f : TypeId → Bool) : List (Nat × TypeId) → Ty → Nat → Bool
  | [], .ue, _ => true
  | (o, e) :: fs, .co a r, off => o == off && decide ((C.row e).ty = a) && f e && fieldsO C f fs r (off + a.size)
  | _, _, _ => false
def openB (C : Ctx) : Nat → TypeId → Bool
  | 0, _ => false
  | n + 1, t => match (C.row t).td with
    | .int _ | .bool | .str => true
    | .slice e => openB C n e && decide ((C.row e).ty.bytes ≤ (C.row e).bytes)
    | .arr _ e => openB C n e
    | .struct fs => fieldsO C (fun e => openB C n e) fs (C.row t).ty 0
    | _ => false

/-- no larger than any argument is -/
def Small : (t : Ty) → t.den → Prop
  | .it k, n => k.min ≤ n ∧ n ≤ k.max
  | .st, l => List.length l ≤ 140737488351232
  | .li t, xs => List.length xs * t.bytes ≤ 140737488351232 ∧ ∀ x ∈ (xs : List t.den), Small t x
  | .co t r, x => Small t x.1 ∧ Small r x.2
  | .ar n t, xs => List.length xs = n ∧ ∀ x ∈ (xs : List t.den), Small t x
  | _, _ => True

theorem add_block (a : Addr) (n : Nat) : (a.add n).block = a.block := by unfold Addr.add; split <;> rfl
theorem add_off (a : Addr) (n : Nat) : (a.add n).off = a.off + n := by unfold Addr.add; split <;> simp_all

section
variable {P : Program} {C : Ctx}
theorem cells_row [tI : Tst] (hC : RowsOK P C) {t : TypeId} (hg : (C.row t).td.good = true) : P.cellsOf t = (C.row t).size ∧ P.bytesOf t = (C.row t).bytes := by
  obtain ⟨i, z, h1, h2, h3, _⟩ := (hC.row hg).info
  simp [Program.cellsOf, Program.bytesOf, h1, h2, h3]
theorem openB_good {n : Nat} {t : TypeId} (h : openB C n t = true) : (C.row t).td.good = true := by
  cases n with
  | zero => simp [openB] at h
  | succ n =>
    rw [openB] at h
    split at h <;> first | (rename_i h'; rw [h']; rfl) | (rename_i h' _; rw [h']; rfl) | (simp at h; done) | skip
theorem mem_weightsAll {H : Type} {P : Program} {e : TypeId} {d : DataW H} {n : Nat} : ∀ {l : List (DataW H)}, d ∈ l → n ∈ d.weights P e → n ∈ DataW.weightsAll P e l
  | [], h, _ => by cases h
  | x :: l, h, hn => by
    simp only [DataW.weightsAll, List.mem_append]
    rcases List.mem_cons.mp h with h | h
    · subst h; exact .inl hn
    · exact .inr (mem_weightsAll h hn)

/-- what lies here reads as data of this kind -/
structure OpensAt (P : Program) (t : TypeId) (y : Ty) : Prop where
  get : ∀ {H : Type} {enc : TypeId × Value → H} {w : World} {base : Nat} {held : Bool} {fuel : Nat} {cs : List Value} {x : DataW H × List MemPlace},
    DataW.trod enc P w base (fun _ => true) held fuel t cs = some x → (∀ n ∈ x.1.weights P t, n ≤ reachBytes) → ∃ v : y.den, RepL (memOf w) y v cs ∧ Small y v

theorem opens_slice' [tI : Tst] (hC : RowsOK P C) {t e : TypeId} (ht : (C.row t).td = .slice e) (hb : (C.row e).ty.bytes ≤ (C.row e).bytes) (he : OpensAt P e (C.row e).ty) : OpensAt P t (.li (C.row e).ty) := by
  obtain ⟨hu, -, -, hge, hpos⟩ := hC.slice ht
  obtain ⟨hce, hbe⟩ := cells_row hC hge
  have hsz := (hC.row hge).size
  refine ⟨fun {H enc w base held fuel cs x} h hw => ?_⟩
  rcases open_slice hu h with ⟨rfl, _⟩ | ⟨a, len, cap, m, n, D, Pl, rfl, hbb, hl, hm, hmm, rfl, hx⟩
  · exact ⟨([] : List (C.row e).ty.den), ⟨none, 0, rfl, Nat.le_refl _, Nat.zero_le _, Nat.zero_le _, rfl, rfl⟩, by simp [Small]⟩
  · simp only [if_true] at hmm
    subst hmm
    have hww : ∀ k, k ∈ (DataW.slice ((List.range len).map D) ((List.range (m - len)).map fun j => D (len + j))).weights P t → k ≤ reachBytes := hw
    simp only [DataW.weights, hu, List.mem_cons, List.mem_append] at hww
    have hlen : len * (C.row e).ty.bytes ≤ 140737488351232 := by
      have := hww _ (.inl rfl)
      simp only [List.length_map, List.length_range, hbe] at this
      have h2 : len * (C.row e).ty.bytes ≤ (len + (m - len)) * (C.row e).bytes := Nat.mul_le_mul (by omega) hb
      exact Nat.le_trans h2 this
    have hmem : ∀ ad : Addr, ∀ v, w.cell? ad = some v → ad.spot = none ∧ memOf w ad.block ad.off = some v := by
      intro ad v hv
      obtain ⟨b, o, s⟩ := ad
      have hs : s = none := by
        unfold World.cell? at hv
        split at hv
        · cases s with
          | none => rfl
          | some s => simp at hv
        · simp at hv
      subst hs
      exact ⟨rfl, hv⟩
    have each : ∀ i, i < len → ∃ v : (C.row e).ty.den, ∃ c, Lies (memOf w) a.block (a.off + i * (C.row e).ty.size) c ∧ RepL (memOf w) (C.row e).ty v c ∧ Small (C.row e).ty v := by
      intro i hi
      obtain ⟨cs', h1, h2⟩ := hx i (by omega)
      obtain ⟨_, h3, h4⟩ := World.cells?_some h1
      obtain ⟨v, hv, hok⟩ := he.get h2 (fun k hk => hww k (.inr (.inl (mem_weightsAll (l := (List.range len).map D) (d := D i) (List.mem_map.mpr ⟨i, List.mem_range.mpr hi, rfl⟩) hk))))
      refine ⟨v, cs', fun j u hu => ?_, hv, hok⟩
      have hj : j < P.cellsOf e := by
        rw [← h3]
        exact (List.getElem?_eq_some_iff.1 hu).1
      have := h4 j hj
      rw [hu, hce, ← hsz] at this
      have := (hmem _ _ this).2
      simpa only [add_block, add_off] using this
    have pick : ∃ f : Fin len → (C.row e).ty.den, ∀ i : Fin len, ∃ c, Lies (memOf w) a.block (a.off + i.val * (C.row e).ty.size) c ∧ RepL (memOf w) (C.row e).ty (f i) c ∧ Small (C.row e).ty (f i) :=
      ⟨fun i => Classical.choose (each i.val i.isLt), fun i => Classical.choose_spec (each i.val i.isLt)⟩
    obtain ⟨f, hf⟩ := pick
    have hspot : 0 < m → a.spot = none := by
      intro hm0
      obtain ⟨cs', h1, -⟩ := hx 0 hm0
      obtain ⟨_, h3, h4⟩ := World.cells?_some h1
      have h0 : 0 < P.cellsOf e := by rw [hce]; exact hpos
      have := h4 0 h0
      rw [List.getElem?_eq_getElem (by omega)] at this
      have := (hmem _ _ this).1
      simpa [Addr.add] using this
    have hb1 : 0 < (C.row e).ty.bytes ∨ len ≤ 140737488355328 := by
      right
      have := hww _ (.inl rfl)
      simp only [List.length_map, List.length_range, hbe, reachBytes] at this
      have hbp := (hC.row hge).byte
      have : len * 1 ≤ (len + (m - len)) * (C.row e).bytes := Nat.mul_le_mul (by omega) (by omega)
      omega
    refine ⟨(List.ofFn f : List (C.row e).ty.den), ⟨some a, m, by rw [List.length_ofFn], by rw [List.length_ofFn]; exact hl, ?_, hm, hspot, fun i hi => ?_⟩, ?_, ?_⟩
    · rw [List.length_ofFn]
      have := hww _ (.inl rfl)
      simp only [List.length_map, List.length_range, hbe, reachBytes] at this
      have hbp := (hC.row hge).byte
      have : len * 1 ≤ (len + (m - len)) * (C.row e).bytes := Nat.mul_le_mul (by omega) (by omega)
      simp only [maxL]
      omega
    · rw [List.length_ofFn] at hi
      obtain ⟨c, c1, c2, _⟩ := hf ⟨i, hi⟩
      exact ⟨c, c1, by rw [List.getElem_ofFn]; exact c2⟩
    · rw [List.length_ofFn]; exact hlen
    · intro x hx
      obtain ⟨i, rfl⟩ := List.mem_ofFn.mp hx
      obtain ⟨c, _, _, h3⟩ := hf i
      exact h3

theorem opens_fields [tI : Tst] (hC : RowsOK P C) {n : Nat} (ih : ∀ e, openB C n e = true → OpensAt P e (C.row e).ty) {H : Type} {enc : TypeId × Value → H} {w : World} {base : Nat} {held : Bool} {fuel : Nat} {cs : List Value} :
    ∀ (fs : List (Nat × TypeId)) (y : Ty) (off : Nat) (gs : List Field) (Y : Ty) (k : Nat) (xs : List (DataW H × List MemPlace)), fieldsO C (fun e => openB C n e) fs y off = true → fieldsB C Y k fs gs = true → cs.length = off + y.size →
      (∀ (i : Nat) (f : Field), gs[i]? = some f → ∃ x, xs[i]? = some x ∧ DataW.trod enc P w base (fun _ => true) held fuel f.type ((cs.drop f.offset).take (P.cellsOf f.type)) = some x ∧ ∀ n ∈ x.1.weights P f.type, n ≤ reachBytes) →
      ∃ v : y.den, RepL (memOf w) y v (cs.drop off) ∧ Small y v
  | [], .ue, off, gs, Y, k, xs, _, _, hl, _ => ⟨(), by simp only [Ty.size] at hl; simp only [RepL]; exact List.drop_eq_nil_of_le (by omega), trivial⟩
  | (o, e) :: fs, .co a r, off, g :: gs, Y, k, xs, ho, hf, hl, hx => by
    simp only [fieldsO, Bool.and_eq_true, beq_iff_eq, decide_eq_true_eq] at ho
    obtain ⟨⟨⟨rfl, rfl⟩, ho2⟩, ho3⟩ := ho
    simp only [fieldsB, Bool.and_eq_true, beq_iff_eq, decide_eq_true_eq] at hf
    obtain ⟨⟨⟨⟨⟨hf1, hf2⟩, hf3⟩, hf4⟩, hf5⟩, hf6⟩ := hf
    simp only [Ty.size] at hl
    obtain ⟨x, hx1, hx2, hx3⟩ := hx 0 g rfl
    rw [hf2, (cells_row hC hf3).1, hf1, ← (hC.row hf3).size] at hx2
    rw [hf2] at hx3
    obtain ⟨v, hv, hs⟩ := (ih e ho2).get hx2 hx3
    obtain ⟨v2, hv2, hs2⟩ := opens_fields hC ih (enc := enc) (w := w) (base := base) (held := held) (fuel := fuel) (cs := cs) fs r (o + (C.row e).ty.size) gs Y (k + 1) (xs.drop 1) ho3 hf6 (by omega) (by
      intro i f hi
      obtain ⟨x, h1, h2⟩ := hx (i + 1) f (by simpa using hi)
      exact ⟨x, by rw [List.getElem?_drop, Nat.add_comm]; exact h1, h2⟩)
    exact ⟨(v, v2), ⟨_, _, by rw [← List.drop_drop, List.take_append_drop], hv, hv2⟩, hs, hs2⟩
  | _ :: _, .co _ _, _, [], _, _, _, _, hf, _, _ => by simp [fieldsB] at hf
  | [], .co _ _, _, _, _, _, _, h, _, _, _ => by simp [fieldsO] at h
  | [], .bo, _, _, _, _, _, h, _, _, _ => by simp [fieldsO] at h
  | [], .it _, _, _, _, _, _, h, _, _, _ => by simp [fieldsO] at h
  | [], .st, _, _, _, _, _, h, _, _, _ => by simp [fieldsO] at h
  | [], .ni, _, _, _, _, _, h, _, _, _ => by simp [fieldsO] at h
  | [], .li _, _, _, _, _, _, h, _, _, _ => by simp [fieldsO] at h
  | [], .ar _ _, _, _, _, _, _, h, _, _, _ => by simp [fieldsO] at h
  | _ :: _, .bo, _, _, _, _, _, h, _, _, _ => by simp [fieldsO] at h
  | _ :: _, .it _, _, _, _, _, _, h, _, _, _ => by simp [fieldsO] at h
  | _ :: _, .st, _, _, _, _, _, h, _, _, _ => by simp [fieldsO] at h
  | _ :: _, .ni, _, _, _, _, _, h, _, _, _ => by simp [fieldsO] at h
  | _ :: _, .li _, _, _, _, _, _, h, _, _, _ => by simp [fieldsO] at h
  | _ :: _, .ar _ _, _, _, _, _, _, h, _, _, _ => by simp [fieldsO] at h
  | _ :: _, .ue, _, _, _, _, _, h, _, _, _ => by simp [fieldsO] at h

theorem opens_at [tI : Tst] (hC : RowsOK P C) : ∀ (n : Nat) (t : TypeId), openB C n t = true → OpensAt P t (C.row t).ty
  | 0, t, h => by simp [openB] at h
  | n + 1, t, h => by
    have hg := openB_good h
    rw [openB] at h
    split at h
    · rename_i k htd
      obtain ⟨hu, hty⟩ := hC.int htd
      rw [hty]
      refine ⟨fun {H enc w base held fuel cs x} hx _ => ?_⟩
      obtain ⟨m, rfl, _, hw⟩ := DataW.trod_int hu hx
      have hr : k.min ≤ m ∧ m ≤ k.max := by simpa [Lit.wf] using hw
      exact ⟨m, ⟨rfl, hr⟩, hr⟩
    · rename_i htd
      have hu := hC.bool htd
      have hty : (C.row t).ty = .bo := by
        obtain ⟨d, hd, hb⟩ := (hC.row hg).desc
        simp only [descB, htd] at hb
        split at hb <;> simp_all
      rw [hty]
      refine ⟨fun {H enc w base held fuel cs x} hx _ => ?_⟩
      obtain ⟨b, rfl, _⟩ := DataW.trod_bool hu hx
      exact ⟨b, rfl, trivial⟩
    · rename_i htd
      have hu := hC.str htd
      have hty : (C.row t).ty = .st := by
        obtain ⟨d, hd, hb⟩ := (hC.row hg).desc
        simp only [descB, htd] at hb
        split at hb <;> simp_all
      rw [hty]
      refine ⟨fun {H enc w base held fuel cs x} hx hw => ?_⟩
      obtain ⟨s, rfl, hx', _⟩ := DataW.trod_string hu hx
      have := hw s.data.toList.length (by rw [hx']; simp [DataW.weights])
      have e : s.size = s.data.toList.length := rfl
      simp only [reachBytes] at this
      refine ⟨strInts s, ⟨s, rfl, rfl, by simp only [maxL]; omega⟩, ?_⟩
      simp only [Small, strInts, List.length_map]
      omega
    · rename_i e htd
      simp only [Bool.and_eq_true, decide_eq_true_eq] at h
      rw [(hC.slice htd).2.1]
      exact opens_slice' hC htd h.2 (opens_at hC n e h.1)
    · rename_i k e htd
      obtain ⟨hu, hty, hsz, hge, hpos⟩ := hC.arr htd
      have hse := (hC.row hge).size
      have ihe := opens_at hC n e h
      rw [hty]
      refine ⟨fun {H enc w base held fuel cs x} hx hw => ?_⟩
      obtain ⟨xs, m, rfl, rfl, hcl, hxl, hxe⟩ := DataW.trod_array hu hx
      rw [(cells_row hC hg).1, hsz] at hcl
      rw [(cells_row hC hge).1] at hxe
      have hww : ∀ j, j ∈ (DataW.agg (xs.map (·.1)) : DataW H).weights P t → j ≤ reachBytes := hw
      simp only [DataW.weights, hu] at hww
      have each : ∀ i, i < k → ∃ v : (C.row e).ty.den, RepL (memOf w) (C.row e).ty v ((cs.drop (i * (C.row e).size)).take (C.row e).size) ∧ Small (C.row e).ty v := by
        intro i hi
        have h1 := hxe i hi
        rw [List.getElem?_eq_getElem (by omega)] at h1
        exact ihe.get h1 (fun j hj => hww j (mem_weightsAll (d := xs[i].1) (List.mem_map.mpr ⟨xs[i], List.getElem_mem _, rfl⟩) hj))
      have pick : ∃ f : Fin k → (C.row e).ty.den, ∀ i : Fin k, RepL (memOf w) (C.row e).ty (f i) ((cs.drop (i.val * (C.row e).size)).take (C.row e).size) ∧ Small (C.row e).ty (f i) :=
        ⟨fun i => Classical.choose (each i.val i.isLt), fun i => Classical.choose_spec (each i.val i.isLt)⟩
      obtain ⟨f, hf⟩ := pick
      refine ⟨(List.ofFn f : List (C.row e).ty.den), ⟨List.length_ofFn, by rw [hcl, hse], fun i hi => ?_⟩, List.length_ofFn, fun y hy => ?_⟩
      · rw [List.length_ofFn] at hi
        rw [List.getElem_ofFn, hse]
        exact (hf ⟨i, hi⟩).1
      · obtain ⟨i, rfl⟩ := List.mem_ofFn.mp hy
        exact (hf i).2
    · rename_i fs htd
      obtain ⟨gs, hu, hfb⟩ := hC.struct htd
      have ih := opens_at hC n
      refine ⟨fun {H enc w base held fuel cs x} hx hw => ?_⟩
      obtain ⟨xs, m, rfl, rfl, hcl, hxl, hxe⟩ := DataW.trod_struct hu hx
      have hww : ∀ j, j ∈ (DataW.agg (xs.map (·.1)) : DataW H).weights P t → j ≤ reachBytes := hw
      simp only [DataW.weights, hu] at hww
      have := opens_fields hC ih (enc := enc) (w := w) (base := base) (held := held) (fuel := m) (cs := cs) fs (C.row t).ty 0 gs.toList (C.row t).ty 0 xs h hfb (by rw [hcl, (cells_row hC hg).1, (hC.row hg).size]; omega) (by
        intro i f hi
        have hi' : gs[i]? = some f := by simpa using hi
        have h1 := hxe i f hi'
        have hil : i < xs.length := by rw [hxl]; exact (Array.getElem?_eq_some_iff.1 hi').1
        rw [List.getElem?_eq_getElem hil] at h1
        refine ⟨xs[i], by rw [List.getElem?_eq_getElem hil], h1, fun j hj => hww j ?_⟩
        exact DataW.weights_mem_each (j := i) (by simp [hi']) (by rw [List.getElem?_map, List.getElem?_eq_getElem hil]; rfl) j hj)
      simpa using this
    · simp at h

/-- an argument, as data -/
theorem opens_arg [tI : Tst] (hC : RowsOK P C) {n : Nat} {t : TypeId} (h : openB C n t = true) {H : Type} {enc : TypeId × Value → H} {W : World} {base : Nat} {held : Bool} {v : Value} {dd : DataW H} {ps : List MemPlace} {ts : List TypeId} {ds : List (DataW H)} {j : Nat}
    (ho : DataW.Trod enc P W base (fun _ => true) held t v dd ps) (hsz : (DataW.weightsEach P ts ds).all (· ≤ reachBytes) = true) (ht : ts[j]? = some t) (hd : ds[j]? = some dd) (hform : v.cells = #[v] ∨ ∃ us : Array Value, v = .agg us) (hag : (C.row t).ty.agg = false → v.cells = #[v]) :
    ∃ x : (C.row t).ty.den, RepL (memOf W) (C.row t).ty x v.cells.toList ∧ Small (C.row t).ty x := by
  obtain ⟨fuel, hf⟩ := ho
  refine (opens_at hC n t h).get hf fun n hn => ?_
  have := List.all_eq_true.1 hsz _ (DataW.weights_mem_each ht hd n hn)
  simpa using this
end
end Go.Proofs.Ytmpmmfbgdpfnpaa.Ev
/- A law whose function tells 'true' of all data: its row. -/
namespace Go.Proofs.Ytmpmmfbgdpfnpaa.Ev
open Go Go.RowKit Go.Deep Go.ChangeShapes Go.WideShapes Go.ChangeAt
set_option linter.unusedVariables false
set_option linter.unusedSimpArgs false

inductive Typed (C : Ctx) : List TypeId → List V → Prop
  | nil : Typed C [] []
  | cons (t : TypeId) (ts : List TypeId) (x : (C.row t).ty.den) (xs : List V) (h : Small (C.row t).ty x) (hs : Typed C ts xs) : Typed C (t :: ts) (.d (C.row t).ty x :: xs)

section
variable {P : Program} {C : Ctx}
theorem form_rep [tI : Tst] (hC : RowsOK P C) {n : Nat} {t : TypeId} (h : openB C n t = true) {W : World} {base : Nat} {v : Value} (hv : Value.okWide P W .any base t v) {m : Mem} {x : (C.row t).ty.den} (hr : RepL m (C.row t).ty x v.cells.toList) : RepD m (C.row t).ty x v := by
  cases n with
  | zero => simp [openB] at h
  | succ n =>
    have hg := openB_good h
    have hag := (hC.row hg).agg
    have one : (C.row t).isAgg = false → v.cells = #[v] → RepD m (C.row t).ty x v := by
      intro h1 h2
      rw [h2] at hr
      exact ⟨[v], by simpa using hr, by rw [hag, h1]; rfl⟩
    have many : (C.row t).isAgg = true → (∃ cs, v = .agg cs) → RepD m (C.row t).ty x v := by
      rintro h1 ⟨cs, rfl⟩
      simp only [Value.cells] at hr
      exact ⟨cs.toList, hr, by rw [hag, h1]; simp [toV]⟩
    rw [openB] at h
    split at h
    · rename_i k htd
      obtain ⟨n, rfl⟩ := okWide_int (hC.int htd).1 hv
      exact one (by simp [TRow.isAgg, htd]) rfl
    · rename_i htd
      obtain ⟨n, rfl⟩ := okWide_bool (hC.bool htd) hv
      exact one (by simp [TRow.isAgg, htd]) rfl
    · rename_i htd
      obtain ⟨n, rfl⟩ := okWide_string (hC.str htd) hv
      exact one (by simp [TRow.isAgg, htd]) rfl
    · rename_i e htd
      obtain ⟨a, l, c, rfl⟩ := okWide_slice (hC.slice htd).1 hv
      exact one (by simp [TRow.isAgg, htd]) rfl
    · rename_i k e htd
      refine many (by simp [TRow.isAgg, htd]) ?_
      simp only [Value.okWide, (hC.arr htd).1] at hv
      obtain ⟨cs, h1, _⟩ := hv
      exact ⟨cs, h1⟩
    · rename_i fs htd
      obtain ⟨gs, hu, _⟩ := hC.struct htd
      refine many (by simp [TRow.isAgg, htd]) ?_
      obtain ⟨cs, h1, _⟩ := okWide_struct hu hv
      exact ⟨cs, h1⟩
    · simp at h

theorem args_open [tI : Tst] (hC : RowsOK P C) {n : Nat} {H : Type} {enc : TypeId × Value → H} {W : World} {base : Nat} : ∀ {ts : List TypeId} {vs : List Value} {ds : List (DataW H)} {ps : List MemPlace}, DataW.TrodAll enc P W 0 (fun _ => true) true ts vs ds ps →
    (∀ (j : Nat) t v, ts[j]? = some t → vs[j]? = some v → Value.okWide P W .any base t v) → ts.all (openB C n) = true → (∀ (j : Nat) t d, ts[j]? = some t → ds[j]? = some d → ∀ k ∈ d.weights P t, k ≤ reachBytes) →
    ∃ xs, Typed C ts xs ∧ RepVs (Env.of (memOf W)) xs vs
  | [], _, _, _, h, _, _, _ => by
    obtain ⟨rfl, rfl, rfl⟩ := trodAll_nil h
    exact ⟨[], .nil, by simp [RepVs]⟩
  | t :: ts, _, _, _, h, hok, ho, hw => by
    obtain ⟨v, vs, d, ds, p, q, rfl, rfl, rfl, h1, h2⟩ := trodAll_cons h
    simp only [List.all_cons, Bool.and_eq_true] at ho
    obtain ⟨fuel, hf⟩ := h1
    obtain ⟨x, hx, hs⟩ := (opens_at hC n t ho.1).get hf (hw 0 t d rfl rfl)
    obtain ⟨xs, hx2, hr⟩ := args_open hC (n := n) h2 (fun j t v h1 h2 => hok (j + 1) t v (by simpa using h1) (by simpa using h2)) ho.2 (fun j t d h1 h2 => hw (j + 1) t d (by simpa using h1) (by simpa using h2))
    refine ⟨_, .cons t ts x xs hs hx2, ?_⟩
    simp only [RepVs]
    refine ⟨?_, hr⟩
    simp only [RepV]
    exact form_rep hC ho.1 (hok 0 t v rfl rfl) hx

theorem args_stay (hl : laidOutB P = true) {H : Type} {enc : TypeId × Value → H} {W W' : World} (hb : Below W.heap.size W W') : ∀ {ts : List TypeId} {vs : List Value} {ds : List (DataW H)} {ps : List MemPlace}, DataW.TrodAll enc P W 0 (fun _ => true) true ts vs ds ps →
    ts.all (fun t => P.readableRec t && decide (t < P.types.size)) = true → DataW.TrodAll enc P W' 0 (fun b => decide (b < W.heap.size)) true ts vs ds ps
  | [], _, _, _, h, _ => by
    obtain ⟨rfl, rfl, rfl⟩ := trodAll_nil h
    rfl
  | t :: ts, _, _, _, h, ho => by
    obtain ⟨v, vs, d, ds, p, q, rfl, rfl, rfl, h1, h2⟩ := trodAll_cons h
    simp only [List.all_cons, Bool.and_eq_true, decide_eq_true_eq] at ho
    have hlt : ∀ x ∈ p, x.block < W.heap.size := by obtain ⟨m, hm⟩ := h1; exact DataW.trod_lt m _ _ _ hm
    exact trodAll_cons_mk (Below.trod hl ho.1.1 ho.1.2 h1 hb hlt) (args_stay hl hb h2 ho.2)

theorem trodAll_len {H : Type} {enc : TypeId × Value → H} {w : World} {base : Nat} {spare : Nat → Bool} {held : Bool} : ∀ {ts : List TypeId} {vs : List Value} {ds : List (DataW H)} {ps : List MemPlace}, DataW.TrodAll enc P w base spare held ts vs ds ps → vs.length = ts.length ∧ ds.length = ts.length
  | [], _, _, _, h => by
    obtain ⟨rfl, rfl, _⟩ := trodAll_nil h
    exact ⟨rfl, rfl⟩
  | _ :: _, _, _, _, h => by
    obtain ⟨v, vs1, d, ds1, a, b, rfl, rfl, rfl, _, h2⟩ := trodAll_cons h
    have := trodAll_len h2
    simp [this.1, this.2]
theorem law_lifted [tI : Tst] {K : Checked} {C : Ctx} {os : Os} {H : Type} {enc : TypeId × Value → H} {f : FuncId} {fn : Func} {s : ChangeSpec} {conds : List PathCond} (hC : RowsOK K.prog C) (n : Nat)
    (own : ownKnob K.prog.godebug = none) (started : os.Started) (noInit : K.prog.inits.idxOf? f = none) (hfn : K.prog.funcs[f]? = some fn) (laid : laidOutB K.prog = true)
    (witness : ∃ (w : World) (tape : Tape) (i : Input), w.os = os ∧ (w.forCall tape i).Shaped K.prog ∧ i.vars = [] ∧ Input.okWide K.prog (w.forCall tape i) .any w.heap.size f i ∧
      s.pre6 enc K.prog fn conds false (w.forCall tape i).memory i.args ∧ Assume.holds {} K.prog (lone (Frame.enter K.prog f i.args .normal) [] (w.forCall tape i)))
    (hvars : s.vars = []) {tb : TypeId} (hres : fn.resultTypes.toList = [tb]) (hrs : fn.resultTypes.size = 1) (htb : K.prog.underlying tb = some .bool) (hspec : ∀ ds : List (DataW H), ds.length = fn.params.toList.length → s.fn H ds = { results := [.lit (.bool true)], args := ds })
    (hopen : fn.params.toList.all (openB C n) = true) (hread : fn.params.toList.all (fun t => K.prog.readableRec t && decide (t < K.prog.types.size)) = true)
    (hlaw : ∀ xs, Typed C fn.params.toList xs → FarRes K.prog f xs (.d .bo true)) :
    ReturnsInHanded {} K os f .any (s.pre6 enc K.prog fn conds false) (s.post enc K.prog fn false true false false) := by
  refine returnsInHanded_of_change_sized own started noInit hfn witness ?_
  intro W base args ds gs before hval hW _ hsz _
  have hW' := hW
  obtain ⟨p, q, hA, hV, rfl, hfz, hnd⟩ := hW
  rw [hvars] at hV
  obtain ⟨rfl, rfl⟩ := trodVars_none hV
  obtain ⟨l1, l2⟩ := trodAll_len hA
  have hvt : s.plain.varTypes K.prog = [] := by simp [DataSpec.varTypes, ChangeSpec.plain, hvars]
  rw [hvt, List.append_nil, List.append_nil] at hsz
  obtain ⟨xs, ht, hr⟩ := args_open hC (n := n) hA (fun j t v h1 h2 => hval j t v (by simpa using h1) (by simpa using h2)) hopen (fun j t d h1 h2 k hk => by
    have := List.all_eq_true.1 hsz _ (DataW.weights_mem_each h1 h2 k hk)
    simpa using this)
  have := hlaw xs ht (memOf W) W args.toList (fun e W' => e = .returned (.bool true) ∧ Below W.heap.size W W') (memOf_lies W) hr (by
    intro E' S' v' u w' k1 k2 k3 k4
    refine ⟨?_, by have := k2.below; rw [k1.lent] at this; exact this.to⟩
    rcases exportV_exp k4 with ⟨vs, vs', _, h, _⟩ | h
    · simp at h
    · generalize hz : V.d .bo true = z at h
      cases h with
      | d t x =>
        rw [← hz] at k3
        rw [rep_bool_iff.1 k3]
      | nils => simp at hz
      | un => simp at hz
      | own => simp at hz)
  rw [Array.toArray_toList] at this
  refine this.mono ?_
  rintro e W' ⟨rfl, bel⟩
  have hds : s.fn H (ds ++ []) = { results := [.lit (.bool true)], args := ds } := by rw [List.append_nil]; exact hspec ds l2
  refine ⟨_, rfl, ds, [], _, [], p, [], hW', ?_, ?_, ?_, bel.frame _, fun h => by cases h⟩
  · rw [hds, hres, hrs]
    exact trodAll_mk1 (shut_bool htb _)
  · rw [hds]
    exact args_stay laid bel hA hread
  · rw [hds, hvars]
    rfl
end
end Go.Proofs.Ytmpmmfbgdpfnpaa.Ev
/- Calls that the walker goes into: closures, methods on things of the function's own. -/
namespace Go.Proofs.Ytmpmmfbgdpfnpaa.Ev
open Go Go.RowKit
set_option linter.unusedVariables false
set_option linter.unusedSimpArgs false

/-- what a call that was gone into tells: what it made is let go -/
def finV (n : Nat) : V → V
  | .tup vs => .tup (vs.map (scrub n))
  | v => scrub n v
theorem finV_rep [tI : Tst] {E : Env} {n : Nat} {v : V} {u : Value} (h : RepV E v u) : RepV (E.cut n) (finV n v) u := by
  cases v with
  | tup vs =>
    simp only [finV, RepV] at h ⊢
    obtain ⟨us, h1, h2⟩ := h
    exact ⟨us, h1, mapScrub_rep h2⟩
  | _ => exact scrub_rep h

/-- what is told together with all that was made: rows, pointers -/
def ptrs : List V → Bool
  | [] => false
  | .p _ _ :: _ => true
  | _ :: vs => ptrs vs
def keepR : V → Bool
  | .p _ _ => true
  | .tup vs => match ptrs vs with | true => true | false => rowy vs
  | v => rowV v
def inlH [tI : Tst] {R : Type} (C : FuncId → Ctx) (tab : Tab) (fuel : Nat) (fns : FuncId → Option Func) : Nat → CallH R
  | 0 => fun _ _ _ _ _ => none
  | d + 1 => fun g args id S k => match fns g with
    | some fn => lenK S 0 fun n => evFn (C g) tab (inlH C tab fuel fns d) fuel fn args S fun v S' => match notBad v with
      | true => (match keepR v with
        | false => forceV (finV n v) fun v => truncK n S' fun S => k v S
        | true => forceV v fun v => k v S')
      | false => none
    | none => none
def FnsOK (P : Program) (fns : FuncId → Option Func) : Prop := ∀ g fn, fns g = some fn → P.funcs[g]? = some fn ∧ (fn.name == "runtime.NumGoroutine") = false ∧ fn.body.isNone = false

theorem inl_ok [tI : Tst] {R : Type} {P : Program} {C : FuncId → Ctx} {tab : Tab} {fuel : Nat} {fns : FuncId → Option Func} (hC : ∀ g, RowsOK P (C g)) (hT : TabOK P tab) (hm : P.follows .mixedOrders = true) (hf : FnsOK P fns) : ∀ d, CallOK P (inlH C tab fuel fns d : CallH R)
  | 0 => by intro g args id S k r h; simp [inlH] at h
  | d + 1 => by
    intro g args id S k r h
    rw [inlH] at h
    simp only at h
    cases hg : fns g with
    | none => rw [hg] at h; simp at h
    | some fn =>
      rw [hg] at h
      simp only at h
      rw [lenK_eq, Nat.zero_add] at h
      obtain ⟨hfn, hn, hb⟩ := hf g fn hg
      obtain ⟨v, S', h1, h2⟩ := fn_ok (hC g) hT (inl_ok hC hT hm hf d) hm fuel hfn h
      split at h1
      · rename_i hnb
        obtain ⟨hl, h3⟩ := h2 hnb
        have hrun : ∀ (us : List Value) (w : World), (callFunc g us.toArray).run P w = .ok (.enter g us.toArray) w := by
          intro us w
          have hn' : fn.name ≠ "runtime.NumGoroutine" := by simpa using hn
          have hb' : fn.body ≠ none := by intro e; rw [e] at hb; simp at hb
          simp [callFunc, hfn, hn', hb']
        split at h1
        rotate_left
        · rw [forceV_eq] at h1
          refine ⟨v, S', h1, hl, ?_⟩
          intro base w0 E w us sim hargs hid
          unfold Called
          rw [hrun]
          refine h3 base w0 E w us _ sim hargs ?_
          intro E' u w' k1 k0 k2 k3
          exact ⟨u, rfl, E', k1, k2, k3, fun o l => (k0 o l).imp_right .inr⟩
        rw [forceV_eq, truncK_eq] at h1
        refine ⟨finV S.length v, truncL S.length S', h1, Nat.le_of_eq (truncL_len hl).symm, ?_⟩
        intro base w0 E w us sim hargs hid
        unfold Called
        rw [hrun]
        refine h3 base w0 E w us _ sim hargs ?_
        intro E' u w' k1 k0 k2 k3
        refine ⟨u, rfl, E'.cut S.length, Env.le_cut k1 sim.lt, k2.cut _ hl, finV_rep k3, ?_⟩
        intro o l
        rcases k0 o l.1 with h | h
        · exact .inl h
        · exact absurd l.2 (by omega)
      · simp at h1
end Go.Proofs.Ytmpmmfbgdpfnpaa.Ev
