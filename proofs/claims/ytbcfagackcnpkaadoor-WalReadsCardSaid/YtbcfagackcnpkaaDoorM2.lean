/- Parts of the proof, joined by a program of this session: EvRows, EvKit, EvCode, EvFns, EvAuto, EvMeth, EvCon, EvConM. -/
import Derived.Test.YtbcfagackcnpkaaDoorM0
import Derived.Test.YtbcfagackcnpkaaDoorProg
import Derived.Test.YtbcfagackcnpkaaDoorM1
import Derived.Test.YtbcfagackcnpkaaDoorChecked
set_option linter.unusedVariables false
set_option linter.unusedSimpArgs false
set_option linter.unusedSectionVars false
/- The table of types, read off the translation. Written by a program of this session. -/
namespace Go.Proofs.YtbcfagackcnpkaaDoor.Ev
open Go
set_option maxRecDepth 100000
def rows : List TRow := [
  ⟨.other, 0, 0, .ue, []⟩,
  ⟨.other, 0, 0, .ue, []⟩,
  ⟨.int .i64, 1, 8, (.it .i64), [(.it .i64)]⟩,
  ⟨.int .i64, 1, 8, (.it .i64), [(.it .i64)]⟩,
  ⟨.bool, 1, 1, .bo, [.bo]⟩,
  ⟨.int .u8, 1, 1, (.it .u8), [(.it .u8)]⟩,
  ⟨.int .u8, 1, 1, (.it .u8), [(.it .u8)]⟩,
  ⟨.struct [(0, 2), (1, 3), (2, 4), (3, 6)], 4, 24, (.co (.it .i64) (.co (.it .i64) (.co .bo (.co (.it .u8) .ue)))), [(.it .i64), (.it .i64), .bo, (.it .u8)]⟩,
  ⟨.struct [(0, 2), (1, 3), (2, 4), (3, 6)], 4, 24, (.co (.it .i64) (.co (.it .i64) (.co .bo (.co (.it .u8) .ue)))), [(.it .i64), (.it .i64), .bo, (.it .u8)]⟩,
  ⟨.str, 1, 16, .st, [.st]⟩,
  ⟨.str, 1, 16, .st, [.st]⟩,
  ⟨.str, 1, 16, .st, [.st]⟩,
  ⟨.int .u64, 1, 8, (.it .u64), [(.it .u64)]⟩,
  ⟨.struct [(0, 9), (1, 12)], 2, 24, (.co .st (.co (.it .u64) .ue)), [.st, (.it .u64)]⟩,
  ⟨.struct [(0, 9), (1, 12)], 2, 24, (.co .st (.co (.it .u64) .ue)), [.st, (.it .u64)]⟩,
  ⟨.ptr 89, 1, 8, .ni, [.ni]⟩,
  ⟨.ptr 92, 1, 8, .ni, [.ni]⟩,
  ⟨.ptr 101, 1, 8, .ni, [.ni]⟩,
  ⟨.struct [(0, 17)], 1, 8, (.co .ni .ue), [.ni]⟩,
  ⟨.struct [(0, 17)], 1, 8, (.co .ni .ue), [.ni]⟩,
  ⟨.other, 0, 0, .ue, []⟩,
  ⟨.int .i32, 1, 4, (.it .i32), [(.it .i32)]⟩,
  ⟨.slice 5, 1, 24, (.li (.it .u8)), [(.li (.it .u8))]⟩,
  ⟨.other, 0, 0, .ue, []⟩,
  ⟨.slice 22, 1, 24, (.li (.li (.it .u8))), [(.li (.li (.it .u8)))]⟩,
  ⟨.other, 0, 0, .ue, []⟩,
  ⟨.other, 0, 0, .ue, []⟩,
  ⟨.other, 0, 0, .ue, []⟩,
  ⟨.other, 0, 0, .ue, []⟩,
  ⟨.other, 0, 0, .ue, []⟩,
  ⟨.other, 0, 0, .ue, []⟩,
  ⟨.other, 0, 0, .ue, []⟩,
  ⟨.slice 3, 1, 24, (.li (.it .i64)), [(.li (.it .i64))]⟩,
  ⟨.other, 0, 0, .ue, []⟩,
  ⟨.other, 0, 0, .ue, []⟩,
  ⟨.other, 0, 0, .ue, []⟩,
  ⟨.slice 4, 1, 24, (.li .bo), [(.li .bo)]⟩,
  ⟨.other, 0, 0, .ue, []⟩,
  ⟨.other, 0, 0, .ue, []⟩,
  ⟨.int .i64, 1, 8, (.it .i64), [(.it .i64)]⟩,
  ⟨.other, 0, 0, .ue, []⟩,
  ⟨.other, 0, 0, .ue, []⟩,
  ⟨.other, 0, 0, .ue, []⟩,
  ⟨.other, 0, 0, .ue, []⟩,
  ⟨.other, 0, 0, .ue, []⟩,
  ⟨.other, 0, 0, .ue, []⟩,
  ⟨.other, 0, 0, .ue, []⟩,
  ⟨.other, 0, 0, .ue, []⟩,
  ⟨.other, 0, 0, .ue, []⟩,
  ⟨.other, 0, 0, .ue, []⟩,
  ⟨.other, 0, 0, .ue, []⟩,
  ⟨.other, 0, 0, .ue, []⟩,
  ⟨.other, 0, 0, .ue, []⟩,
  ⟨.other, 0, 0, .ue, []⟩,
  ⟨.other, 0, 0, .ue, []⟩,
  ⟨.struct [(0, 5), (1, 22), (2, 4)], 3, 40, (.co (.it .u8) (.co (.li (.it .u8)) (.co .bo .ue))), [(.it .u8), (.li (.it .u8)), .bo]⟩,
  ⟨.struct [(0, 5), (1, 22), (2, 4)], 3, 40, (.co (.it .u8) (.co (.li (.it .u8)) (.co .bo .ue))), [(.it .u8), (.li (.it .u8)), .bo]⟩,
  ⟨.other, 0, 0, .ue, []⟩,
  ⟨.other, 0, 0, .ue, []⟩,
  ⟨.int .u64, 1, 8, (.it .u64), [(.it .u64)]⟩,
  ⟨.other, 0, 0, .ue, []⟩,
  ⟨.int .u32, 1, 4, (.it .u32), [(.it .u32)]⟩,
  ⟨.other, 0, 0, .ue, []⟩,
  ⟨.other, 0, 0, .ue, []⟩,
  ⟨.int .u64, 1, 8, (.it .u64), [(.it .u64)]⟩,
  ⟨.other, 0, 0, .ue, []⟩,
  ⟨.other, 0, 0, .ue, []⟩,
  ⟨.other, 0, 0, .ue, []⟩,
  ⟨.other, 0, 0, .ue, []⟩,
  ⟨.other, 0, 0, .ue, []⟩,
  ⟨.other, 0, 0, .ue, []⟩,
  ⟨.other, 0, 0, .ue, []⟩,
  ⟨.other, 0, 0, .ue, []⟩,
  ⟨.other, 0, 0, .ue, []⟩,
  ⟨.other, 0, 0, .ue, []⟩,
  ⟨.other, 0, 0, .ue, []⟩,
  ⟨.ptr 72, 1, 8, .ni, [.ni]⟩,
  ⟨.other, 0, 0, .ue, []⟩,
  ⟨.other, 0, 0, .ue, []⟩,
  ⟨.other, 0, 0, .ue, []⟩,
  ⟨.other, 0, 0, .ue, []⟩,
  ⟨.other, 0, 0, .ue, []⟩,
  ⟨.other, 0, 0, .ue, []⟩,
  ⟨.other, 0, 0, .ue, []⟩,
  ⟨.struct [(0, 5), (1, 5)], 2, 2, (.co (.it .u8) (.co (.it .u8) .ue)), [(.it .u8), (.it .u8)]⟩,
  ⟨.struct [(0, 5), (1, 5)], 2, 2, (.co (.it .u8) (.co (.it .u8) .ue)), [(.it .u8), (.it .u8)]⟩,
  ⟨.arr 16 85, 32, 32, (.ar 16 (.co (.it .u8) (.co (.it .u8) .ue))), [(.it .u8), (.it .u8), (.it .u8), (.it .u8), (.it .u8), (.it .u8), (.it .u8), (.it .u8), (.it .u8), (.it .u8), (.it .u8), (.it .u8), (.it .u8), (.it .u8), (.it .u8), (.it .u8), (.it .u8), (.it .u8), (.it .u8), (.it .u8), (.it .u8), (.it .u8), (.it .u8), (.it .u8), (.it .u8), (.it .u8), (.it .u8), (.it .u8), (.it .u8), (.it .u8), (.it .u8), (.it .u8)]⟩,
  ⟨.other, 0, 0, .ue, []⟩,
  ⟨.struct [(0, 17), (1, 17), (2, 17), (3, 9)], 4, 40, (.co .ni (.co .ni (.co .ni (.co .st .ue)))), [.ni, .ni, .ni, .st]⟩,
  ⟨.struct [(0, 17), (1, 17), (2, 17), (3, 9)], 4, 40, (.co .ni (.co .ni (.co .ni (.co .st .ue)))), [.ni, .ni, .ni, .st]⟩,
  ⟨.arr 0 16, 0, 0, (.ar 0 .ni), []⟩,
  ⟨.other, 0, 0, .ue, []⟩,
  ⟨.other, 0, 0, .ue, []⟩,
  ⟨.other, 0, 0, .ue, []⟩,
  ⟨.int .u8, 1, 1, (.it .u8), [(.it .u8)]⟩,
  ⟨.int .u8, 1, 1, (.it .u8), [(.it .u8)]⟩,
  ⟨.other, 0, 0, .ue, []⟩,
  ⟨.ptr 5, 1, 8, .ni, [.ni]⟩,
  ⟨.int .i32, 1, 4, (.it .i32), [(.it .i32)]⟩,
  ⟨.int .i32, 1, 4, (.it .i32), [(.it .i32)]⟩,
  ⟨.other, 0, 0, .ue, []⟩,
  ⟨.other, 0, 0, .ue, []⟩,
  ⟨.other, 0, 0, .ue, []⟩]
theorem row_3 (l : Nat → List Nat × List Nat) : Ctx.row ⟨rows, l⟩ 3 = ⟨.int .i64, 1, 8, (.it .i64), [(.it .i64)]⟩ := rfl
theorem row_4 (l : Nat → List Nat × List Nat) : Ctx.row ⟨rows, l⟩ 4 = ⟨.bool, 1, 1, .bo, [.bo]⟩ := rfl
theorem row_5 (l : Nat → List Nat × List Nat) : Ctx.row ⟨rows, l⟩ 5 = ⟨.int .u8, 1, 1, (.it .u8), [(.it .u8)]⟩ := rfl
theorem row_16 (l : Nat → List Nat × List Nat) : Ctx.row ⟨rows, l⟩ 16 = ⟨.ptr 92, 1, 8, .ni, [.ni]⟩ := rfl
theorem row_22 (l : Nat → List Nat × List Nat) : Ctx.row ⟨rows, l⟩ 22 = ⟨.slice 5, 1, 24, (.li (.it .u8)), [(.li (.it .u8))]⟩ := rfl
theorem row_85 (l : Nat → List Nat × List Nat) : Ctx.row ⟨rows, l⟩ 85 = ⟨.struct [(0, 5), (1, 5)], 2, 2, (.co (.it .u8) (.co (.it .u8) .ue)), [(.it .u8), (.it .u8)]⟩ := rfl
end Go.Proofs.YtbcfagackcnpkaaDoor.Ev
/- Tools for contracts: what data may be, tables of contracts, loops, the machine's facts of the seat. -/
namespace Go.Proofs.YtbcfagackcnpkaaDoor.Ev
open Go Go.RowKit
set_option linter.unusedVariables false
set_option linter.unusedSimpArgs false
set_option maxRecDepth 100000

/-- of a context only the table of types counts for its rows -/
theorem fieldsB_live (r : List TRow) (l l' : Nat → List Nat × List Nat) (y : Ty) : ∀ (fs : List (Nat × TypeId)) (gs : List Field) (n : Nat), fieldsB ⟨r, l⟩ y n fs gs = fieldsB ⟨r, l'⟩ y n fs gs
  | [], [], _ => rfl
  | [], _ :: _, _ => rfl
  | _ :: _, [], _ => rfl
  | (o, e) :: fs, g :: gs, n => by rw [fieldsB, fieldsB, fieldsB_live r l l' y fs gs (n + 1)]; rfl
theorem descB_live [tI : Tst] (r : List TRow) (l l' : Nat → List Nat × List Nat) (x : TRow) (d : TypeDesc) : descB ⟨r, l⟩ x d = descB ⟨r, l'⟩ x d := by
  unfold descB
  split <;> first | rfl | exact fieldsB_live r l l' _ _ _ _
theorem rowsOK_live [tI : Tst] {P : Program} {r : List TRow} {l : Nat → List Nat × List Nat} (h : RowsOK P ⟨r, l⟩) (l' : Nat → List Nat × List Nat) : RowsOK P ⟨r, l'⟩ := by
  intro t
  have := h t
  unfold rowB at this ⊢
  simp only [show ∀ t, (⟨r, l'⟩ : Ctx).row t = (⟨r, l⟩ : Ctx).row t from fun _ => rfl, descB_live r l' l]
  exact this
theorem rows_ok [tI : Tst] (l : Nat → List Nat × List Nat) : RowsOK Tryd.prog ⟨rows, l⟩ := rowsOK_live (l := fun _ => ([], [])) (rowsOK_of (by decide +kernel)) l
theorem mixed : Tryd.prog.follows .mixedOrders = true := by kernel_rfl
theorem own : ownKnob Tryd.prog.godebug = none := by kernel_rfl
theorem laidOut : laidOutB Tryd.prog = true := by kernel_rfl

def noCall {R : Type} : CallH R := fun _ _ _ _ _ => none
theorem noCall_ok {P : Program} {R : Type} : CallOK P (noCall : CallH R) := by intro g args id S k r h; simp [noCall] at h

/-- what any data of the machine's is -/
def Fits : (t : Ty) → t.den → Prop
  | .it k, n => k.min ≤ n ∧ n ≤ k.max
  | .st, l => List.length l ≤ maxL ∧ ∀ x ∈ (l : List Int), 0 ≤ x ∧ x < 256
  | .li t, xs => List.length xs ≤ maxL ∧ ∀ x ∈ (xs : List t.den), Fits t x
  | .co t r, x => Fits t x.1 ∧ Fits r x.2
  | .ar n t, xs => List.length xs = n ∧ ∀ x ∈ (xs : List t.den), Fits t x
  | _, _ => True
theorem RepL.fits {m : Mem} : ∀ (t : Ty) (x : t.den) (us : List Value), RepL m t x us → Fits t x
  | .bo, _, _, _ => trivial
  | .it _, _, _, h => h.2
  | .st, _, _, h => by
    obtain ⟨s, rfl, rfl, h3⟩ := h
    refine ⟨by simpa [strInts] using h3, fun x hx => ?_⟩
    simp only [strInts, List.mem_map] at hx
    obtain ⟨b, _, rfl⟩ := hx
    have := b.toNat_lt
    omega
  | .ni, _, _, _ => trivial
  | .li t, xs, us, h => by
    obtain ⟨a, c, rfl, h1, h2, h3, h4⟩ := h
    refine ⟨h2, fun x hx => ?_⟩
    obtain ⟨i, hi, rfl⟩ := List.getElem_of_mem hx
    cases a with
    | none => have : List.length xs = 0 := h4.1; omega
    | some ad =>
      obtain ⟨vs, _, hv⟩ := h4.2 i hi
      exact RepL.fits t _ _ hv
  | .ue, _, _, _ => trivial
  | .co t r, _, _, h => by
    obtain ⟨u1, u2, rfl, h1, h2⟩ := h
    exact ⟨RepL.fits t _ _ h1, RepL.fits r _ _ h2⟩
  | .ar n t, xs, us, h => by
    obtain ⟨h1, h2, h3⟩ := h
    refine ⟨h1, fun x hx => ?_⟩
    obtain ⟨i, hi, rfl⟩ := List.getElem_of_mem hx
    exact RepL.fits t _ _ (h3 i hi)
def FitsV : List V → Prop
  | [] => True
  | .d t x :: vs => Fits t x ∧ FitsV vs
  | _ :: _ => False
theorem argsV_fits [tI : Tst] {E : Env} : ∀ {ts : List Ty} {vs xs : List V} {us : List Value}, argsV ts vs = some xs → RepVs E xs us → FitsV xs
  | [], [], _, us, h, hr => by simp only [argsV, Option.some.injEq] at h; subst h; trivial
  | t :: ts, v :: vs, _, us, h, hr => by
    rw [argsV] at h
    cases hx : asT t v with
    | none => rw [hx] at h; simp at h
    | some x =>
      rw [hx] at h
      simp only [Option.bind_some] at h
      cases hy : argsV ts vs with
      | none => rw [hy] at h; simp at h
      | some ys =>
        rw [hy] at h
        simp only [Option.map_some, Option.some.injEq] at h; subst h
        cases us with
        | nil => simp [RepVs] at hr
        | cons u us =>
          simp only [RepVs] at hr
          refine ⟨?_, argsV_fits hy hr.2⟩
          have := hr.1
          simp only [RepV] at this
          obtain ⟨zs, h1, _⟩ := this
          exact RepL.fits _ _ _ h1
  | [], _ :: _, _, _, h, _ => by simp [argsV] at h
  | _ :: _, [], _, _, h, _ => by simp [argsV] at h

def tab0 : Tab := fun _ => none
def tabAdd (tab : Tab) (g : FuncId) (ts : List Ty) (F : List V → Option (Bool × V)) : Tab := fun i => match Nat.beq i g with | true => some (ts, F) | false => tab i
theorem tab0_far [tI : Tst] {P : Program} : TabFar P tab0 := by intro g ts F h; simp [tab0] at h
theorem tst_t [tI : Tst] {p : Prop} [Decidable p] (h : p) : tst p = true := tst_iff.2 h
theorem tst_f [tI : Tst] {p : Prop} [Decidable p] (h : ¬ p) : tst p = false := tst_not.2 h
theorem band {a b : Bool} (ha : a = true) (hb : b = true) : (a && b) = true := by rw [ha, hb]; rfl
theorem br_go [tI : Tst] {A : Type} {x : Bool} {a b r : A} (h : x = true) (k : a = r) : br x a b = r := by rw [br_t h]; exact k
theorem br_no [tI : Tst] {A : Type} {x : Bool} {a b r : A} (h : x = false) (k : b = r) : br x a b = r := by rw [br_f h]; exact k
theorem br_split [tI : Tst] {A : Type} {p : Prop} [Decidable p] {a b r : A} (h1 : p → a = r) (h2 : ¬ p → b = r) : br (tst p) a b = r := by
  by_cases h : p
  · rw [br_t (tst_t h)]; exact h1 h
  · rw [br_f (tst_f h)]; exact h2 h
theorem bo_eq {b c : Bool} (h : b = c) : some (V.d .bo b) = some (V.d .bo c) := by rw [h]
theorem bo_t [tI : Tst] {p : Prop} [Decidable p] (h : p) : some (V.d .bo true) = some (V.d .bo (tst p)) := by rw [tst_t h]
theorem bo_f [tI : Tst] {p : Prop} [Decidable p] (h : ¬ p) : some (V.d .bo false) = some (V.d .bo (tst p)) := by rw [tst_f h]
theorem bo_tst [tI : Tst] {p q : Prop} [Decidable p] [Decidable q] (h : p ↔ q) : some (V.d .bo (tst p)) = some (V.d .bo (tst q)) := by rw [tst_eq, tst_eq, decide_eq_decide.2 h]
theorem nt_t [tI : Tst] {p : Prop} [Decidable p] (h : ¬ p) : (!tst p) = true := by rw [tst_f h]; rfl
theorem nt_f [tI : Tst] {p : Prop} [Decidable p] (h : p) : (!tst p) = false := by rw [tst_t h]; rfl
theorem nI64 {n : Int} (h : -9223372036854775808 ≤ n) (h' : n < 9223372036854775808) : IntKind.i64.wrap n = n := by
  have e : IntKind.i64.wrap n = if n % 18446744073709551616 ≥ 9223372036854775808 then n % 18446744073709551616 - 18446744073709551616 else n % 18446744073709551616 := by
    simp [IntKind.wrap, IntKind.bits, IntKind.signed]
  rw [e]; split <;> omega
theorem nU64 {n : Int} (h : 0 ≤ n) (h' : n < 18446744073709551616) : IntKind.u64.wrap n = n := by
  have e : IntKind.u64.wrap n = n % 18446744073709551616 := by simp [IntKind.wrap, IntKind.bits, IntKind.signed]
  rw [e]; omega
theorem nU32 {n : Int} (h : 0 ≤ n) (h' : n < 4294967296) : IntKind.u32.wrap n = n := by
  have e : IntKind.u32.wrap n = n % 4294967296 := by simp [IntKind.wrap, IntKind.bits, IntKind.signed]
  rw [e]; omega
theorem nU8 {n : Int} (h : 0 ≤ n) (h' : n < 256) : IntKind.u8.wrap n = n := by
  have e : IntKind.u8.wrap n = n % 256 := by simp [IntKind.wrap, IntKind.bits, IntKind.signed]
  rw [e]; omega
theorem nSubL (m k : Nat) : ((m : Int) - (no_index (OfNat.ofNat k))).toNat = m - no_index (OfNat.ofNat k) := by
  show ((m : Int) - ((k : Nat) : Int)).toNat = m - k
  omega
theorem nAddL (m k : Nat) : ((m : Int) + (no_index (OfNat.ofNat k))).toNat = m + no_index (OfNat.ofNat k) := by
  show ((m : Int) + ((k : Nat) : Int)).toNat = m + k
  omega
theorem nAdd (m k : Nat) : ((m : Int) + (k : Int)).toNat = m + k := by omega
theorem nSub (m k : Nat) : ((m : Int) - (k : Int)).toNat = m - k := by omega
theorem nDiv {a b : Int} (h : 0 ≤ a) : Int.tdiv a b = a / b := Int.tdiv_eq_ediv_of_nonneg h
theorem nMod {a b : Int} (h : 0 ≤ a) : Int.tmod a b = a % b := Int.tmod_eq_emod_of_nonneg h
theorem dflt_it (k : IntKind) : (Ty.it k).dflt = (0 : Int) := rfl
theorem dflt_li (t : Ty) : (Ty.li t).dflt = ([] : List t.den) := rfl
theorem nZ : Int.toNat 0 = 0 := rfl
theorem nLit (k : Nat) : Int.toNat (no_index (OfNat.ofNat k)) = no_index (OfNat.ofNat k) := rfl
theorem tup_eq {xs ys : List V} (h : xs = ys) : some (V.tup xs) = some (V.tup ys) := by rw [h]
theorem cons_eq {v w : V} {vs ws : List V} (h : v = w) (hs : vs = ws) : v :: vs = w :: ws := by rw [h, hs]
theorem vd_eq {t : Ty} {x y : t.den} (h : x = y) : V.d t x = V.d t y := by rw [h]
theorem vo_eq {o : Nat} {t : Ty} {x y : List t.den} (h : x = y) : V.own o t x = V.own o t y := by rw [h]
theorem own_eq {t : Ty} {xs ys : List t.den} (h : xs = ys) (o : Nat) : some (V.own o t xs) = some (V.own o t ys) := by rw [h]
theorem d_eq {t : Ty} {x y : t.den} (h : x = y) : some (V.d t x) = some (V.d t y) := by rw [h]

/-- rounds of a loop, by what stands at their head -/
theorem loop_rule {α R : Type} {n : Nat} {live : List Nat} {body : List V → List Ent → (Ex → List V → List Ent → Option R) → Option R} {k : Ex → List V → List Ent → Option R}
    (inv : α → Prop) (μ : α → Nat) (sl : α → List V) (S : α → List Ent) (G : α → Option R)
    (hb : ∀ a (K : List V → List Ent → Option R), inv a → (∀ b, inv b → μ b < μ a → K (sl b) (S b) = G b) → body (sl a) (S a) (fun e sl S => match e with | .normal => pickK n live 0 sl fun sl => truncK n S fun S => K sl S | e => k e sl S) = G a) :
    ∀ (f : Nat) (a : α), inv a → μ a < f → loopN n live body f (sl a) (S a) k = G a
  | 0, a, _, h => by omega
  | f + 1, a, ha, h => by
    rw [loopN]
    refine hb a (fun sl S => loopN n live body f sl S k) ha ?_
    intro b hb' hlt
    exact loop_rule inv μ sl S G hb f b hb' (by omega)
/-- one round -/
theorem loop_more {R : Type} {n : Nat} {live : List Nat} {body : List V → List Ent → (Ex → List V → List Ent → Option R) → Option R} {f : Nat} {sl : List V} {S : List Ent} {k : Ex → List V → List Ent → Option R} {r : Option R} (hf : 0 < f)
    (h : body sl S (fun e sl S => match e with | .normal => pickK n live 0 sl fun sl => truncK n S fun S => loopN n live body (f - 1) sl S k | e => k e sl S) = r) : loopN n live body f sl S k = r := by
  cases f with
  | zero => omega
  | succ f => rw [loopN]; exact h
end Go.Proofs.YtbcfagackcnpkaaDoor.Ev
/- Each function's code, cut into words. Written by a program of this session out of the translation. -/
namespace Go.Proofs.YtbcfagackcnpkaaDoor.Ev
open Go Go.RowKit
set_option maxRecDepth 100000

def subC : Code → Nat → Code
  | .seq a _, 0 => a | .seq _ b, _ => b | .cond _ t _, 0 => t | .cond _ _ e, _ => e | .block _ b, _ => b | .loop b, _ => b | .scope b, _ => b
  | .rangeFunc _ _ a _, 0 => a | .rangeFunc _ _ _ b, _ => b | _, _ => .skip
def atC : Code → List Nat → Code
  | c, [] => c | c, i :: p => atC (subC c i) p
def opsC : Code → Array Oper | .region _ ops _ => ops | _ => #[]
def drawC : Code → Bool | .region _ _ d => d | _ => false
def opdC : Code → Operand | .cond c _ _ => c | .rangeFunc f _ _ _ => f | _ => .const (.bool false)
def parsC : Code → Array Tmp | .rangeFunc _ p _ _ => p | _ => #[]
def bodyC (f : Func) : Code := match f.body with | some c => c | none => .skip
noncomputable def o2_0 : Array Oper := opsC (atC (bodyC Tryd.f2) [])
noncomputable def c2_0 : Code := .region 0 o2_0 false
noncomputable def F2 : Func := { Tryd.f2 with body := some c2_0 }
theorem F2_eq : Tryd.f2 = F2 := rfl
theorem at2 : Tryd.prog.funcs[2]? = some F2 := by rw [← F2_eq]; exact Tryd.func2
noncomputable def o3_1 : Array Oper := opsC (atC (bodyC Tryd.f3) [0])
noncomputable def c3_1 : Code := .region 0 o3_1 false
noncomputable def o3_4 : Array Oper := opsC (atC (bodyC Tryd.f3) [1, 0, 0])
noncomputable def c3_4 : Code := .region 1 o3_4 false
noncomputable def o3_7 : Array Oper := opsC (atC (bodyC Tryd.f3) [1, 0, 1, 0, 0])
noncomputable def c3_7 : Code := .region 2 o3_7 false
noncomputable def c3_8 : Code := .ret
noncomputable def c3_6 : Code := .seq c3_7 c3_8
noncomputable def c3_9 : Code := .skip
noncomputable def c3_5 : Code := .cond (opdC (atC (bodyC Tryd.f3) [1, 0, 1])) c3_6 c3_9
noncomputable def c3_3 : Code := .seq c3_4 c3_5
noncomputable def o3_12 : Array Oper := opsC (atC (bodyC Tryd.f3) [1, 1, 0, 0])
noncomputable def c3_12 : Code := .region 3 o3_12 false
noncomputable def o3_15 : Array Oper := opsC (atC (bodyC Tryd.f3) [1, 1, 0, 1, 0, 0])
noncomputable def c3_15 : Code := .region 4 o3_15 false
noncomputable def c3_16 : Code := .ret
noncomputable def c3_14 : Code := .seq c3_15 c3_16
noncomputable def c3_17 : Code := .skip
noncomputable def c3_13 : Code := .cond (opdC (atC (bodyC Tryd.f3) [1, 1, 0, 1])) c3_14 c3_17
noncomputable def c3_11 : Code := .seq c3_12 c3_13
noncomputable def o3_19 : Array Oper := opsC (atC (bodyC Tryd.f3) [1, 1, 1, 0])
noncomputable def c3_19 : Code := .region 5 o3_19 false
noncomputable def o3_21 : Array Oper := opsC (atC (bodyC Tryd.f3) [1, 1, 1, 1, 0])
noncomputable def c3_21 : Code := .region 6 o3_21 false
noncomputable def o3_23 : Array Oper := opsC (atC (bodyC Tryd.f3) [1, 1, 1, 1, 1, 0])
noncomputable def c3_23 : Code := .region 7 o3_23 false
noncomputable def o3_26 : Array Oper := opsC (atC (bodyC Tryd.f3) [1, 1, 1, 1, 1, 1, 0, 0])
noncomputable def c3_26 : Code := .region 8 o3_26 false
noncomputable def o3_29 : Array Oper := opsC (atC (bodyC Tryd.f3) [1, 1, 1, 1, 1, 1, 0, 1, 0, 0])
noncomputable def c3_29 : Code := .region 9 o3_29 false
noncomputable def c3_30 : Code := .ret
noncomputable def c3_28 : Code := .seq c3_29 c3_30
noncomputable def c3_31 : Code := .skip
noncomputable def c3_27 : Code := .cond (opdC (atC (bodyC Tryd.f3) [1, 1, 1, 1, 1, 1, 0, 1])) c3_28 c3_31
noncomputable def c3_25 : Code := .seq c3_26 c3_27
noncomputable def o3_33 : Array Oper := opsC (atC (bodyC Tryd.f3) [1, 1, 1, 1, 1, 1, 1, 0])
noncomputable def c3_33 : Code := .region 10 o3_33 false
noncomputable def o3_35 : Array Oper := opsC (atC (bodyC Tryd.f3) [1, 1, 1, 1, 1, 1, 1, 1, 0])
noncomputable def c3_35 : Code := .region 11 o3_35 false
noncomputable def c3_36 : Code := .ret
noncomputable def c3_34 : Code := .seq c3_35 c3_36
noncomputable def c3_32 : Code := .seq c3_33 c3_34
noncomputable def c3_24 : Code := .seq c3_25 c3_32
noncomputable def c3_22 : Code := .seq c3_23 c3_24
noncomputable def c3_20 : Code := .seq c3_21 c3_22
noncomputable def c3_18 : Code := .seq c3_19 c3_20
noncomputable def c3_10 : Code := .seq c3_11 c3_18
noncomputable def c3_2 : Code := .seq c3_3 c3_10
noncomputable def c3_0 : Code := .seq c3_1 c3_2
noncomputable def F3 : Func := { Tryd.f3 with body := some c3_0 }
theorem F3_eq : Tryd.f3 = F3 := rfl
theorem at3 : Tryd.prog.funcs[3]? = some F3 := by rw [← F3_eq]; exact Tryd.func3
noncomputable def o4_1 : Array Oper := opsC (atC (bodyC Tryd.f4) [0])
noncomputable def c4_1 : Code := .region 0 o4_1 false
noncomputable def o4_4 : Array Oper := opsC (atC (bodyC Tryd.f4) [1, 0, 0])
noncomputable def c4_4 : Code := .region 1 o4_4 false
noncomputable def o4_7 : Array Oper := opsC (atC (bodyC Tryd.f4) [1, 0, 1, 0, 0])
noncomputable def c4_7 : Code := .region 2 o4_7 false
noncomputable def c4_8 : Code := .ret
noncomputable def c4_6 : Code := .seq c4_7 c4_8
noncomputable def c4_9 : Code := .skip
noncomputable def c4_5 : Code := .cond (opdC (atC (bodyC Tryd.f4) [1, 0, 1])) c4_6 c4_9
noncomputable def c4_3 : Code := .seq c4_4 c4_5
noncomputable def o4_12 : Array Oper := opsC (atC (bodyC Tryd.f4) [1, 1, 0, 0])
noncomputable def c4_12 : Code := .region 3 o4_12 false
noncomputable def o4_15 : Array Oper := opsC (atC (bodyC Tryd.f4) [1, 1, 0, 1, 0, 0])
noncomputable def c4_15 : Code := .region 4 o4_15 false
noncomputable def c4_16 : Code := .ret
noncomputable def c4_14 : Code := .seq c4_15 c4_16
noncomputable def c4_17 : Code := .skip
noncomputable def c4_13 : Code := .cond (opdC (atC (bodyC Tryd.f4) [1, 1, 0, 1])) c4_14 c4_17
noncomputable def c4_11 : Code := .seq c4_12 c4_13
noncomputable def o4_19 : Array Oper := opsC (atC (bodyC Tryd.f4) [1, 1, 1, 0])
noncomputable def c4_19 : Code := .region 5 o4_19 false
noncomputable def o4_22 : Array Oper := opsC (atC (bodyC Tryd.f4) [1, 1, 1, 1, 0, 0])
noncomputable def c4_22 : Code := .region 6 o4_22 false
noncomputable def o4_25 : Array Oper := opsC (atC (bodyC Tryd.f4) [1, 1, 1, 1, 0, 1, 0, 0])
noncomputable def c4_25 : Code := .region 7 o4_25 false
noncomputable def c4_26 : Code := .ret
noncomputable def c4_24 : Code := .seq c4_25 c4_26
noncomputable def c4_27 : Code := .skip
noncomputable def c4_23 : Code := .cond (opdC (atC (bodyC Tryd.f4) [1, 1, 1, 1, 0, 1])) c4_24 c4_27
noncomputable def c4_21 : Code := .seq c4_22 c4_23
noncomputable def o4_29 : Array Oper := opsC (atC (bodyC Tryd.f4) [1, 1, 1, 1, 1, 0])
noncomputable def c4_29 : Code := .region 8 o4_29 false
noncomputable def o4_32 : Array Oper := opsC (atC (bodyC Tryd.f4) [1, 1, 1, 1, 1, 1, 0, 0])
noncomputable def c4_32 : Code := .region 9 o4_32 false
noncomputable def o4_35 : Array Oper := opsC (atC (bodyC Tryd.f4) [1, 1, 1, 1, 1, 1, 0, 1, 0, 0])
noncomputable def c4_35 : Code := .region 10 o4_35 false
noncomputable def c4_36 : Code := .ret
noncomputable def c4_34 : Code := .seq c4_35 c4_36
noncomputable def c4_37 : Code := .skip
noncomputable def c4_33 : Code := .cond (opdC (atC (bodyC Tryd.f4) [1, 1, 1, 1, 1, 1, 0, 1])) c4_34 c4_37
noncomputable def c4_31 : Code := .seq c4_32 c4_33
noncomputable def o4_40 : Array Oper := opsC (atC (bodyC Tryd.f4) [1, 1, 1, 1, 1, 1, 1, 0, 0])
noncomputable def c4_40 : Code := .region 11 o4_40 false
noncomputable def o4_43 : Array Oper := opsC (atC (bodyC Tryd.f4) [1, 1, 1, 1, 1, 1, 1, 0, 1, 0, 0])
noncomputable def c4_43 : Code := .region 12 o4_43 false
noncomputable def c4_44 : Code := .ret
noncomputable def c4_42 : Code := .seq c4_43 c4_44
noncomputable def c4_45 : Code := .skip
noncomputable def c4_41 : Code := .cond (opdC (atC (bodyC Tryd.f4) [1, 1, 1, 1, 1, 1, 1, 0, 1])) c4_42 c4_45
noncomputable def c4_39 : Code := .seq c4_40 c4_41
noncomputable def o4_47 : Array Oper := opsC (atC (bodyC Tryd.f4) [1, 1, 1, 1, 1, 1, 1, 1, 0])
noncomputable def c4_47 : Code := .region 13 o4_47 false
noncomputable def o4_53 : Array Oper := opsC (atC (bodyC Tryd.f4) [1, 1, 1, 1, 1, 1, 1, 1, 1, 0, 0, 0, 0, 0])
noncomputable def c4_53 : Code := .region 14 o4_53 false
noncomputable def c4_55 : Code := .skip
noncomputable def c4_56 : Code := .exit 0
noncomputable def c4_54 : Code := .cond (opdC (atC (bodyC Tryd.f4) [1, 1, 1, 1, 1, 1, 1, 1, 1, 0, 0, 0, 0, 1])) c4_55 c4_56
noncomputable def c4_52 : Code := .seq c4_53 c4_54
noncomputable def o4_59 : Array Oper := opsC (atC (bodyC Tryd.f4) [1, 1, 1, 1, 1, 1, 1, 1, 1, 0, 0, 0, 1, 0, 0])
noncomputable def c4_59 : Code := .region 15 o4_59 false
noncomputable def o4_60 : Array Oper := opsC (atC (bodyC Tryd.f4) [1, 1, 1, 1, 1, 1, 1, 1, 1, 0, 0, 0, 1, 0, 1])
noncomputable def c4_60 : Code := .region 16 o4_60 false
noncomputable def c4_58 : Code := .seq c4_59 c4_60
noncomputable def c4_57 : Code := .block 1 c4_58
noncomputable def c4_51 : Code := .seq c4_52 c4_57
noncomputable def c4_50 : Code := .loop c4_51
noncomputable def c4_49 : Code := .block 0 c4_50
noncomputable def o4_62 : Array Oper := opsC (atC (bodyC Tryd.f4) [1, 1, 1, 1, 1, 1, 1, 1, 1, 1, 0])
noncomputable def c4_62 : Code := .region 17 o4_62 false
noncomputable def o4_64 : Array Oper := opsC (atC (bodyC Tryd.f4) [1, 1, 1, 1, 1, 1, 1, 1, 1, 1, 1, 0])
noncomputable def c4_64 : Code := .region 18 o4_64 false
noncomputable def c4_65 : Code := .ret
noncomputable def c4_63 : Code := .seq c4_64 c4_65
noncomputable def c4_61 : Code := .seq c4_62 c4_63
noncomputable def c4_48 : Code := .seq c4_49 c4_61
noncomputable def c4_46 : Code := .seq c4_47 c4_48
noncomputable def c4_38 : Code := .seq c4_39 c4_46
noncomputable def c4_30 : Code := .seq c4_31 c4_38
noncomputable def c4_28 : Code := .seq c4_29 c4_30
noncomputable def c4_20 : Code := .seq c4_21 c4_28
noncomputable def c4_18 : Code := .seq c4_19 c4_20
noncomputable def c4_10 : Code := .seq c4_11 c4_18
noncomputable def c4_2 : Code := .seq c4_3 c4_10
noncomputable def c4_0 : Code := .seq c4_1 c4_2
noncomputable def F4 : Func := { Tryd.f4 with body := some c4_0 }
theorem F4_eq : Tryd.f4 = F4 := rfl
theorem at4 : Tryd.prog.funcs[4]? = some F4 := by rw [← F4_eq]; exact Tryd.func4
noncomputable def o5_1 : Array Oper := opsC (atC (bodyC Tryd.f5) [0])
noncomputable def c5_1 : Code := .region 0 o5_1 false
noncomputable def o5_4 : Array Oper := opsC (atC (bodyC Tryd.f5) [1, 0, 0])
noncomputable def c5_4 : Code := .region 1 o5_4 false
noncomputable def o5_7 : Array Oper := opsC (atC (bodyC Tryd.f5) [1, 0, 1, 0, 0])
noncomputable def c5_7 : Code := .region 2 o5_7 false
noncomputable def c5_8 : Code := .ret
noncomputable def c5_6 : Code := .seq c5_7 c5_8
noncomputable def c5_9 : Code := .skip
noncomputable def c5_5 : Code := .cond (opdC (atC (bodyC Tryd.f5) [1, 0, 1])) c5_6 c5_9
noncomputable def c5_3 : Code := .seq c5_4 c5_5
noncomputable def o5_12 : Array Oper := opsC (atC (bodyC Tryd.f5) [1, 1, 0, 0])
noncomputable def c5_12 : Code := .region 3 o5_12 false
noncomputable def o5_15 : Array Oper := opsC (atC (bodyC Tryd.f5) [1, 1, 0, 1, 0, 0])
noncomputable def c5_15 : Code := .region 4 o5_15 false
noncomputable def c5_16 : Code := .ret
noncomputable def c5_14 : Code := .seq c5_15 c5_16
noncomputable def c5_17 : Code := .skip
noncomputable def c5_13 : Code := .cond (opdC (atC (bodyC Tryd.f5) [1, 1, 0, 1])) c5_14 c5_17
noncomputable def c5_11 : Code := .seq c5_12 c5_13
noncomputable def o5_19 : Array Oper := opsC (atC (bodyC Tryd.f5) [1, 1, 1, 0])
noncomputable def c5_19 : Code := .region 5 o5_19 false
noncomputable def o5_22 : Array Oper := opsC (atC (bodyC Tryd.f5) [1, 1, 1, 1, 0, 0])
noncomputable def c5_22 : Code := .region 6 o5_22 false
noncomputable def o5_25 : Array Oper := opsC (atC (bodyC Tryd.f5) [1, 1, 1, 1, 0, 1, 0, 0])
noncomputable def c5_25 : Code := .region 7 o5_25 false
noncomputable def c5_26 : Code := .ret
noncomputable def c5_24 : Code := .seq c5_25 c5_26
noncomputable def c5_27 : Code := .skip
noncomputable def c5_23 : Code := .cond (opdC (atC (bodyC Tryd.f5) [1, 1, 1, 1, 0, 1])) c5_24 c5_27
noncomputable def c5_21 : Code := .seq c5_22 c5_23
noncomputable def o5_29 : Array Oper := opsC (atC (bodyC Tryd.f5) [1, 1, 1, 1, 1, 0])
noncomputable def c5_29 : Code := .region 8 o5_29 false
noncomputable def o5_31 : Array Oper := opsC (atC (bodyC Tryd.f5) [1, 1, 1, 1, 1, 1, 0])
noncomputable def c5_31 : Code := .region 9 o5_31 false
noncomputable def o5_37 : Array Oper := opsC (atC (bodyC Tryd.f5) [1, 1, 1, 1, 1, 1, 1, 0, 0, 0, 0, 0])
noncomputable def c5_37 : Code := .region 10 o5_37 false
noncomputable def c5_39 : Code := .skip
noncomputable def c5_40 : Code := .exit 0
noncomputable def c5_38 : Code := .cond (opdC (atC (bodyC Tryd.f5) [1, 1, 1, 1, 1, 1, 1, 0, 0, 0, 0, 1])) c5_39 c5_40
noncomputable def c5_36 : Code := .seq c5_37 c5_38
noncomputable def o5_43 : Array Oper := opsC (atC (bodyC Tryd.f5) [1, 1, 1, 1, 1, 1, 1, 0, 0, 0, 1, 0, 0])
noncomputable def c5_43 : Code := .region 11 o5_43 false
noncomputable def o5_44 : Array Oper := opsC (atC (bodyC Tryd.f5) [1, 1, 1, 1, 1, 1, 1, 0, 0, 0, 1, 0, 1])
noncomputable def c5_44 : Code := .region 12 o5_44 false
noncomputable def c5_42 : Code := .seq c5_43 c5_44
noncomputable def c5_41 : Code := .block 1 c5_42
noncomputable def c5_35 : Code := .seq c5_36 c5_41
noncomputable def c5_34 : Code := .loop c5_35
noncomputable def c5_33 : Code := .block 0 c5_34
noncomputable def o5_46 : Array Oper := opsC (atC (bodyC Tryd.f5) [1, 1, 1, 1, 1, 1, 1, 1, 0])
noncomputable def c5_46 : Code := .region 13 o5_46 false
noncomputable def o5_48 : Array Oper := opsC (atC (bodyC Tryd.f5) [1, 1, 1, 1, 1, 1, 1, 1, 1, 0])
noncomputable def c5_48 : Code := .region 14 o5_48 false
noncomputable def c5_49 : Code := .ret
noncomputable def c5_47 : Code := .seq c5_48 c5_49
noncomputable def c5_45 : Code := .seq c5_46 c5_47
noncomputable def c5_32 : Code := .seq c5_33 c5_45
noncomputable def c5_30 : Code := .seq c5_31 c5_32
noncomputable def c5_28 : Code := .seq c5_29 c5_30
noncomputable def c5_20 : Code := .seq c5_21 c5_28
noncomputable def c5_18 : Code := .seq c5_19 c5_20
noncomputable def c5_10 : Code := .seq c5_11 c5_18
noncomputable def c5_2 : Code := .seq c5_3 c5_10
noncomputable def c5_0 : Code := .seq c5_1 c5_2
noncomputable def F5 : Func := { Tryd.f5 with body := some c5_0 }
theorem F5_eq : Tryd.f5 = F5 := rfl
theorem at5 : Tryd.prog.funcs[5]? = some F5 := by rw [← F5_eq]; exact Tryd.func5
noncomputable def o6_1 : Array Oper := opsC (atC (bodyC Tryd.f6) [0])
noncomputable def c6_1 : Code := .region 0 o6_1 false
noncomputable def o6_4 : Array Oper := opsC (atC (bodyC Tryd.f6) [1, 0, 0])
noncomputable def c6_4 : Code := .region 1 o6_4 false
noncomputable def o6_7 : Array Oper := opsC (atC (bodyC Tryd.f6) [1, 0, 1, 0, 0])
noncomputable def c6_7 : Code := .region 2 o6_7 false
noncomputable def c6_8 : Code := .ret
noncomputable def c6_6 : Code := .seq c6_7 c6_8
noncomputable def c6_9 : Code := .skip
noncomputable def c6_5 : Code := .cond (opdC (atC (bodyC Tryd.f6) [1, 0, 1])) c6_6 c6_9
noncomputable def c6_3 : Code := .seq c6_4 c6_5
noncomputable def o6_12 : Array Oper := opsC (atC (bodyC Tryd.f6) [1, 1, 0, 0])
noncomputable def c6_12 : Code := .region 3 o6_12 false
noncomputable def o6_15 : Array Oper := opsC (atC (bodyC Tryd.f6) [1, 1, 0, 1, 0, 0])
noncomputable def c6_15 : Code := .region 4 o6_15 false
noncomputable def c6_16 : Code := .ret
noncomputable def c6_14 : Code := .seq c6_15 c6_16
noncomputable def c6_17 : Code := .skip
noncomputable def c6_13 : Code := .cond (opdC (atC (bodyC Tryd.f6) [1, 1, 0, 1])) c6_14 c6_17
noncomputable def c6_11 : Code := .seq c6_12 c6_13
noncomputable def o6_19 : Array Oper := opsC (atC (bodyC Tryd.f6) [1, 1, 1, 0])
noncomputable def c6_19 : Code := .region 5 o6_19 false
noncomputable def o6_22 : Array Oper := opsC (atC (bodyC Tryd.f6) [1, 1, 1, 1, 0, 0])
noncomputable def c6_22 : Code := .region 6 o6_22 false
noncomputable def o6_25 : Array Oper := opsC (atC (bodyC Tryd.f6) [1, 1, 1, 1, 0, 1, 0, 0])
noncomputable def c6_25 : Code := .region 7 o6_25 false
noncomputable def c6_26 : Code := .ret
noncomputable def c6_24 : Code := .seq c6_25 c6_26
noncomputable def c6_27 : Code := .skip
noncomputable def c6_23 : Code := .cond (opdC (atC (bodyC Tryd.f6) [1, 1, 1, 1, 0, 1])) c6_24 c6_27
noncomputable def c6_21 : Code := .seq c6_22 c6_23
noncomputable def o6_29 : Array Oper := opsC (atC (bodyC Tryd.f6) [1, 1, 1, 1, 1, 0])
noncomputable def c6_29 : Code := .region 8 o6_29 false
noncomputable def o6_31 : Array Oper := opsC (atC (bodyC Tryd.f6) [1, 1, 1, 1, 1, 1, 0])
noncomputable def c6_31 : Code := .region 9 o6_31 false
noncomputable def o6_34 : Array Oper := opsC (atC (bodyC Tryd.f6) [1, 1, 1, 1, 1, 1, 1, 0, 0])
noncomputable def c6_34 : Code := .region 10 o6_34 false
noncomputable def o6_39 : Array Oper := opsC (atC (bodyC Tryd.f6) [1, 1, 1, 1, 1, 1, 1, 0, 1, 0, 0, 0, 0])
noncomputable def c6_39 : Code := .region 11 o6_39 false
noncomputable def c6_41 : Code := .skip
noncomputable def c6_42 : Code := .exit 0
noncomputable def c6_40 : Code := .cond (opdC (atC (bodyC Tryd.f6) [1, 1, 1, 1, 1, 1, 1, 0, 1, 0, 0, 0, 1])) c6_41 c6_42
noncomputable def c6_38 : Code := .seq c6_39 c6_40
noncomputable def o6_46 : Array Oper := opsC (atC (bodyC Tryd.f6) [1, 1, 1, 1, 1, 1, 1, 0, 1, 0, 0, 1, 0, 0, 0])
noncomputable def c6_46 : Code := .region 13 o6_46 false
noncomputable def o6_49 : Array Oper := opsC (atC (bodyC Tryd.f6) [1, 1, 1, 1, 1, 1, 1, 0, 1, 0, 0, 1, 0, 0, 1, 0, 0])
noncomputable def c6_49 : Code := .region 14 o6_49 false
noncomputable def o6_52 : Array Oper := opsC (atC (bodyC Tryd.f6) [1, 1, 1, 1, 1, 1, 1, 0, 1, 0, 0, 1, 0, 0, 1, 0, 1, 0, 0])
noncomputable def c6_52 : Code := .region 15 o6_52 false
noncomputable def c6_53 : Code := .ret
noncomputable def c6_51 : Code := .seq c6_52 c6_53
noncomputable def c6_54 : Code := .skip
noncomputable def c6_50 : Code := .cond (opdC (atC (bodyC Tryd.f6) [1, 1, 1, 1, 1, 1, 1, 0, 1, 0, 0, 1, 0, 0, 1, 0, 1])) c6_51 c6_54
noncomputable def c6_48 : Code := .seq c6_49 c6_50
noncomputable def o6_55 : Array Oper := opsC (atC (bodyC Tryd.f6) [1, 1, 1, 1, 1, 1, 1, 0, 1, 0, 0, 1, 0, 0, 1, 1])
noncomputable def c6_55 : Code := .region 16 o6_55 false
noncomputable def c6_47 : Code := .seq c6_48 c6_55
noncomputable def c6_45 : Code := .seq c6_46 c6_47
noncomputable def c6_44 : Code := .block 1 c6_45
noncomputable def o6_56 : Array Oper := opsC (atC (bodyC Tryd.f6) [1, 1, 1, 1, 1, 1, 1, 0, 1, 0, 0, 1, 1])
noncomputable def c6_56 : Code := .region 12 o6_56 false
noncomputable def c6_43 : Code := .seq c6_44 c6_56
noncomputable def c6_37 : Code := .seq c6_38 c6_43
noncomputable def c6_36 : Code := .loop c6_37
noncomputable def c6_35 : Code := .block 0 c6_36
noncomputable def c6_33 : Code := .seq c6_34 c6_35
noncomputable def o6_58 : Array Oper := opsC (atC (bodyC Tryd.f6) [1, 1, 1, 1, 1, 1, 1, 1, 0])
noncomputable def c6_58 : Code := .region 17 o6_58 false
noncomputable def o6_60 : Array Oper := opsC (atC (bodyC Tryd.f6) [1, 1, 1, 1, 1, 1, 1, 1, 1, 0])
noncomputable def c6_60 : Code := .region 18 o6_60 false
noncomputable def c6_61 : Code := .ret
noncomputable def c6_59 : Code := .seq c6_60 c6_61
noncomputable def c6_57 : Code := .seq c6_58 c6_59
noncomputable def c6_32 : Code := .seq c6_33 c6_57
noncomputable def c6_30 : Code := .seq c6_31 c6_32
noncomputable def c6_28 : Code := .seq c6_29 c6_30
noncomputable def c6_20 : Code := .seq c6_21 c6_28
noncomputable def c6_18 : Code := .seq c6_19 c6_20
noncomputable def c6_10 : Code := .seq c6_11 c6_18
noncomputable def c6_2 : Code := .seq c6_3 c6_10
noncomputable def c6_0 : Code := .seq c6_1 c6_2
noncomputable def F6 : Func := { Tryd.f6 with body := some c6_0 }
theorem F6_eq : Tryd.f6 = F6 := rfl
theorem at6 : Tryd.prog.funcs[6]? = some F6 := by rw [← F6_eq]; exact Tryd.func6
noncomputable def o7_1 : Array Oper := opsC (atC (bodyC Tryd.f7) [0])
noncomputable def c7_1 : Code := .region 0 o7_1 false
noncomputable def o7_4 : Array Oper := opsC (atC (bodyC Tryd.f7) [1, 0, 0])
noncomputable def c7_4 : Code := .region 1 o7_4 false
noncomputable def o7_7 : Array Oper := opsC (atC (bodyC Tryd.f7) [1, 0, 1, 0, 0])
noncomputable def c7_7 : Code := .region 2 o7_7 false
noncomputable def c7_8 : Code := .ret
noncomputable def c7_6 : Code := .seq c7_7 c7_8
noncomputable def c7_9 : Code := .skip
noncomputable def c7_5 : Code := .cond (opdC (atC (bodyC Tryd.f7) [1, 0, 1])) c7_6 c7_9
noncomputable def c7_3 : Code := .seq c7_4 c7_5
noncomputable def o7_12 : Array Oper := opsC (atC (bodyC Tryd.f7) [1, 1, 0, 0])
noncomputable def c7_12 : Code := .region 3 o7_12 false
noncomputable def o7_15 : Array Oper := opsC (atC (bodyC Tryd.f7) [1, 1, 0, 1, 0, 0])
noncomputable def c7_15 : Code := .region 4 o7_15 false
noncomputable def c7_16 : Code := .ret
noncomputable def c7_14 : Code := .seq c7_15 c7_16
noncomputable def c7_17 : Code := .skip
noncomputable def c7_13 : Code := .cond (opdC (atC (bodyC Tryd.f7) [1, 1, 0, 1])) c7_14 c7_17
noncomputable def c7_11 : Code := .seq c7_12 c7_13
noncomputable def o7_19 : Array Oper := opsC (atC (bodyC Tryd.f7) [1, 1, 1, 0])
noncomputable def c7_19 : Code := .region 5 o7_19 false
noncomputable def o7_21 : Array Oper := opsC (atC (bodyC Tryd.f7) [1, 1, 1, 1, 0])
noncomputable def c7_21 : Code := .region 6 o7_21 false
noncomputable def o7_24 : Array Oper := opsC (atC (bodyC Tryd.f7) [1, 1, 1, 1, 1, 0, 0])
noncomputable def c7_24 : Code := .region 7 o7_24 false
noncomputable def o7_27 : Array Oper := opsC (atC (bodyC Tryd.f7) [1, 1, 1, 1, 1, 0, 1, 0, 0])
noncomputable def c7_27 : Code := .region 8 o7_27 false
noncomputable def c7_28 : Code := .ret
noncomputable def c7_26 : Code := .seq c7_27 c7_28
noncomputable def c7_29 : Code := .skip
noncomputable def c7_25 : Code := .cond (opdC (atC (bodyC Tryd.f7) [1, 1, 1, 1, 1, 0, 1])) c7_26 c7_29
noncomputable def c7_23 : Code := .seq c7_24 c7_25
noncomputable def o7_32 : Array Oper := opsC (atC (bodyC Tryd.f7) [1, 1, 1, 1, 1, 1, 0, 0])
noncomputable def c7_32 : Code := .region 9 o7_32 false
noncomputable def o7_35 : Array Oper := opsC (atC (bodyC Tryd.f7) [1, 1, 1, 1, 1, 1, 0, 1, 0, 0])
noncomputable def c7_35 : Code := .region 10 o7_35 false
noncomputable def c7_36 : Code := .ret
noncomputable def c7_34 : Code := .seq c7_35 c7_36
noncomputable def c7_37 : Code := .skip
noncomputable def c7_33 : Code := .cond (opdC (atC (bodyC Tryd.f7) [1, 1, 1, 1, 1, 1, 0, 1])) c7_34 c7_37
noncomputable def c7_31 : Code := .seq c7_32 c7_33
noncomputable def o7_39 : Array Oper := opsC (atC (bodyC Tryd.f7) [1, 1, 1, 1, 1, 1, 1, 0])
noncomputable def c7_39 : Code := .region 11 o7_39 false
noncomputable def c7_40 : Code := .ret
noncomputable def c7_38 : Code := .seq c7_39 c7_40
noncomputable def c7_30 : Code := .seq c7_31 c7_38
noncomputable def c7_22 : Code := .seq c7_23 c7_30
noncomputable def c7_20 : Code := .seq c7_21 c7_22
noncomputable def c7_18 : Code := .seq c7_19 c7_20
noncomputable def c7_10 : Code := .seq c7_11 c7_18
noncomputable def c7_2 : Code := .seq c7_3 c7_10
noncomputable def c7_0 : Code := .seq c7_1 c7_2
noncomputable def F7 : Func := { Tryd.f7 with body := some c7_0 }
theorem F7_eq : Tryd.f7 = F7 := rfl
theorem at7 : Tryd.prog.funcs[7]? = some F7 := by rw [← F7_eq]; exact Tryd.func7
noncomputable def o8_1 : Array Oper := opsC (atC (bodyC Tryd.f8) [0])
noncomputable def c8_1 : Code := .region 0 o8_1 false
noncomputable def o8_4 : Array Oper := opsC (atC (bodyC Tryd.f8) [1, 0, 0])
noncomputable def c8_4 : Code := .region 1 o8_4 false
noncomputable def o8_7 : Array Oper := opsC (atC (bodyC Tryd.f8) [1, 0, 1, 0, 0])
noncomputable def c8_7 : Code := .region 2 o8_7 false
noncomputable def c8_8 : Code := .ret
noncomputable def c8_6 : Code := .seq c8_7 c8_8
noncomputable def c8_9 : Code := .skip
noncomputable def c8_5 : Code := .cond (opdC (atC (bodyC Tryd.f8) [1, 0, 1])) c8_6 c8_9
noncomputable def c8_3 : Code := .seq c8_4 c8_5
noncomputable def o8_12 : Array Oper := opsC (atC (bodyC Tryd.f8) [1, 1, 0, 0])
noncomputable def c8_12 : Code := .region 3 o8_12 false
noncomputable def o8_15 : Array Oper := opsC (atC (bodyC Tryd.f8) [1, 1, 0, 1, 0, 0])
noncomputable def c8_15 : Code := .region 4 o8_15 false
noncomputable def c8_16 : Code := .ret
noncomputable def c8_14 : Code := .seq c8_15 c8_16
noncomputable def c8_17 : Code := .skip
noncomputable def c8_13 : Code := .cond (opdC (atC (bodyC Tryd.f8) [1, 1, 0, 1])) c8_14 c8_17
noncomputable def c8_11 : Code := .seq c8_12 c8_13
noncomputable def o8_19 : Array Oper := opsC (atC (bodyC Tryd.f8) [1, 1, 1, 0])
noncomputable def c8_19 : Code := .region 5 o8_19 false
noncomputable def o8_21 : Array Oper := opsC (atC (bodyC Tryd.f8) [1, 1, 1, 1, 0])
noncomputable def c8_21 : Code := .region 6 o8_21 false
noncomputable def o8_23 : Array Oper := opsC (atC (bodyC Tryd.f8) [1, 1, 1, 1, 1, 0])
noncomputable def c8_23 : Code := .region 7 o8_23 false
noncomputable def c8_24 : Code := .ret
noncomputable def c8_22 : Code := .seq c8_23 c8_24
noncomputable def c8_20 : Code := .seq c8_21 c8_22
noncomputable def c8_18 : Code := .seq c8_19 c8_20
noncomputable def c8_10 : Code := .seq c8_11 c8_18
noncomputable def c8_2 : Code := .seq c8_3 c8_10
noncomputable def c8_0 : Code := .seq c8_1 c8_2
noncomputable def F8 : Func := { Tryd.f8 with body := some c8_0 }
theorem F8_eq : Tryd.f8 = F8 := rfl
theorem at8 : Tryd.prog.funcs[8]? = some F8 := by rw [← F8_eq]; exact Tryd.func8
noncomputable def o9_1 : Array Oper := opsC (atC (bodyC Tryd.f9) [0])
noncomputable def c9_1 : Code := .region 0 o9_1 false
noncomputable def o9_4 : Array Oper := opsC (atC (bodyC Tryd.f9) [1, 0, 0])
noncomputable def c9_4 : Code := .region 1 o9_4 false
noncomputable def o9_7 : Array Oper := opsC (atC (bodyC Tryd.f9) [1, 0, 1, 0, 0])
noncomputable def c9_7 : Code := .region 2 o9_7 false
noncomputable def c9_8 : Code := .ret
noncomputable def c9_6 : Code := .seq c9_7 c9_8
noncomputable def c9_9 : Code := .skip
noncomputable def c9_5 : Code := .cond (opdC (atC (bodyC Tryd.f9) [1, 0, 1])) c9_6 c9_9
noncomputable def c9_3 : Code := .seq c9_4 c9_5
noncomputable def o9_12 : Array Oper := opsC (atC (bodyC Tryd.f9) [1, 1, 0, 0])
noncomputable def c9_12 : Code := .region 3 o9_12 false
noncomputable def o9_15 : Array Oper := opsC (atC (bodyC Tryd.f9) [1, 1, 0, 1, 0, 0])
noncomputable def c9_15 : Code := .region 4 o9_15 false
noncomputable def c9_16 : Code := .ret
noncomputable def c9_14 : Code := .seq c9_15 c9_16
noncomputable def c9_17 : Code := .skip
noncomputable def c9_13 : Code := .cond (opdC (atC (bodyC Tryd.f9) [1, 1, 0, 1])) c9_14 c9_17
noncomputable def c9_11 : Code := .seq c9_12 c9_13
noncomputable def o9_19 : Array Oper := opsC (atC (bodyC Tryd.f9) [1, 1, 1, 0])
noncomputable def c9_19 : Code := .region 5 o9_19 false
noncomputable def o9_21 : Array Oper := opsC (atC (bodyC Tryd.f9) [1, 1, 1, 1, 0])
noncomputable def c9_21 : Code := .region 6 o9_21 false
noncomputable def o9_23 : Array Oper := opsC (atC (bodyC Tryd.f9) [1, 1, 1, 1, 1, 0])
noncomputable def c9_23 : Code := .region 7 o9_23 false
noncomputable def o9_26 : Array Oper := opsC (atC (bodyC Tryd.f9) [1, 1, 1, 1, 1, 1, 0, 0])
noncomputable def c9_26 : Code := .region 8 o9_26 false
noncomputable def o9_31 : Array Oper := opsC (atC (bodyC Tryd.f9) [1, 1, 1, 1, 1, 1, 0, 1, 0, 0, 0, 0])
noncomputable def c9_31 : Code := .region 9 o9_31 false
noncomputable def c9_33 : Code := .skip
noncomputable def c9_34 : Code := .exit 0
noncomputable def c9_32 : Code := .cond (opdC (atC (bodyC Tryd.f9) [1, 1, 1, 1, 1, 1, 0, 1, 0, 0, 0, 1])) c9_33 c9_34
noncomputable def c9_30 : Code := .seq c9_31 c9_32
noncomputable def o9_38 : Array Oper := opsC (atC (bodyC Tryd.f9) [1, 1, 1, 1, 1, 1, 0, 1, 0, 0, 1, 0, 0, 0])
noncomputable def c9_38 : Code := .region 11 o9_38 false
noncomputable def o9_41 : Array Oper := opsC (atC (bodyC Tryd.f9) [1, 1, 1, 1, 1, 1, 0, 1, 0, 0, 1, 0, 0, 1, 0, 0])
noncomputable def c9_41 : Code := .region 12 o9_41 false
noncomputable def o9_46 : Array Oper := opsC (atC (bodyC Tryd.f9) [1, 1, 1, 1, 1, 1, 0, 1, 0, 0, 1, 0, 0, 1, 0, 1, 0, 0, 0, 0])
noncomputable def c9_46 : Code := .region 13 o9_46 false
noncomputable def c9_48 : Code := .skip
noncomputable def c9_49 : Code := .exit 2
noncomputable def c9_47 : Code := .cond (opdC (atC (bodyC Tryd.f9) [1, 1, 1, 1, 1, 1, 0, 1, 0, 0, 1, 0, 0, 1, 0, 1, 0, 0, 0, 1])) c9_48 c9_49
noncomputable def c9_45 : Code := .seq c9_46 c9_47
noncomputable def o9_52 : Array Oper := opsC (atC (bodyC Tryd.f9) [1, 1, 1, 1, 1, 1, 0, 1, 0, 0, 1, 0, 0, 1, 0, 1, 0, 0, 1, 0, 0])
noncomputable def c9_52 : Code := .region 15 o9_52 false
noncomputable def c9_51 : Code := .block 3 c9_52
noncomputable def o9_53 : Array Oper := opsC (atC (bodyC Tryd.f9) [1, 1, 1, 1, 1, 1, 0, 1, 0, 0, 1, 0, 0, 1, 0, 1, 0, 0, 1, 1])
noncomputable def c9_53 : Code := .region 14 o9_53 false
noncomputable def c9_50 : Code := .seq c9_51 c9_53
noncomputable def c9_44 : Code := .seq c9_45 c9_50
noncomputable def c9_43 : Code := .loop c9_44
noncomputable def c9_42 : Code := .block 2 c9_43
noncomputable def c9_40 : Code := .seq c9_41 c9_42
noncomputable def o9_55 : Array Oper := opsC (atC (bodyC Tryd.f9) [1, 1, 1, 1, 1, 1, 0, 1, 0, 0, 1, 0, 0, 1, 1, 0])
noncomputable def c9_55 : Code := .region 16 o9_55 false
noncomputable def o9_57 : Array Oper := opsC (atC (bodyC Tryd.f9) [1, 1, 1, 1, 1, 1, 0, 1, 0, 0, 1, 0, 0, 1, 1, 1, 0])
noncomputable def c9_57 : Code := .region 17 o9_57 false
noncomputable def o9_59 : Array Oper := opsC (atC (bodyC Tryd.f9) [1, 1, 1, 1, 1, 1, 0, 1, 0, 0, 1, 0, 0, 1, 1, 1, 1, 0])
noncomputable def c9_59 : Code := .region 18 o9_59 false
noncomputable def o9_61 : Array Oper := opsC (atC (bodyC Tryd.f9) [1, 1, 1, 1, 1, 1, 0, 1, 0, 0, 1, 0, 0, 1, 1, 1, 1, 1, 0])
noncomputable def c9_61 : Code := .region 19 o9_61 false
noncomputable def o9_63 : Array Oper := opsC (atC (bodyC Tryd.f9) [1, 1, 1, 1, 1, 1, 0, 1, 0, 0, 1, 0, 0, 1, 1, 1, 1, 1, 1, 0])
noncomputable def c9_63 : Code := .region 20 o9_63 false
noncomputable def o9_66 : Array Oper := opsC (atC (bodyC Tryd.f9) [1, 1, 1, 1, 1, 1, 0, 1, 0, 0, 1, 0, 0, 1, 1, 1, 1, 1, 1, 1, 0, 0])
noncomputable def c9_66 : Code := .region 21 o9_66 false
noncomputable def c9_67 : Code := .ret
noncomputable def c9_65 : Code := .seq c9_66 c9_67
noncomputable def c9_68 : Code := .skip
noncomputable def c9_64 : Code := .cond (opdC (atC (bodyC Tryd.f9) [1, 1, 1, 1, 1, 1, 0, 1, 0, 0, 1, 0, 0, 1, 1, 1, 1, 1, 1, 1])) c9_65 c9_68
noncomputable def c9_62 : Code := .seq c9_63 c9_64
noncomputable def c9_60 : Code := .seq c9_61 c9_62
noncomputable def c9_58 : Code := .seq c9_59 c9_60
noncomputable def c9_56 : Code := .seq c9_57 c9_58
noncomputable def c9_54 : Code := .seq c9_55 c9_56
noncomputable def c9_39 : Code := .seq c9_40 c9_54
noncomputable def c9_37 : Code := .seq c9_38 c9_39
noncomputable def c9_36 : Code := .block 1 c9_37
noncomputable def o9_69 : Array Oper := opsC (atC (bodyC Tryd.f9) [1, 1, 1, 1, 1, 1, 0, 1, 0, 0, 1, 1])
noncomputable def c9_69 : Code := .region 10 o9_69 false
noncomputable def c9_35 : Code := .seq c9_36 c9_69
noncomputable def c9_29 : Code := .seq c9_30 c9_35
noncomputable def c9_28 : Code := .loop c9_29
noncomputable def c9_27 : Code := .block 0 c9_28
noncomputable def c9_25 : Code := .seq c9_26 c9_27
noncomputable def o9_71 : Array Oper := opsC (atC (bodyC Tryd.f9) [1, 1, 1, 1, 1, 1, 1, 0])
noncomputable def c9_71 : Code := .region 22 o9_71 false
noncomputable def o9_73 : Array Oper := opsC (atC (bodyC Tryd.f9) [1, 1, 1, 1, 1, 1, 1, 1, 0])
noncomputable def c9_73 : Code := .region 23 o9_73 false
noncomputable def c9_74 : Code := .ret
noncomputable def c9_72 : Code := .seq c9_73 c9_74
noncomputable def c9_70 : Code := .seq c9_71 c9_72
noncomputable def c9_24 : Code := .seq c9_25 c9_70
noncomputable def c9_22 : Code := .seq c9_23 c9_24
noncomputable def c9_20 : Code := .seq c9_21 c9_22
noncomputable def c9_18 : Code := .seq c9_19 c9_20
noncomputable def c9_10 : Code := .seq c9_11 c9_18
noncomputable def c9_2 : Code := .seq c9_3 c9_10
noncomputable def c9_0 : Code := .seq c9_1 c9_2
noncomputable def F9 : Func := { Tryd.f9 with body := some c9_0 }
theorem F9_eq : Tryd.f9 = F9 := rfl
theorem at9 : Tryd.prog.funcs[9]? = some F9 := by rw [← F9_eq]; exact Tryd.func9
noncomputable def o10_1 : Array Oper := opsC (atC (bodyC Tryd.f10) [0])
noncomputable def c10_1 : Code := .region 0 o10_1 false
noncomputable def o10_3 : Array Oper := opsC (atC (bodyC Tryd.f10) [1, 0])
noncomputable def c10_3 : Code := .region 1 o10_3 false
noncomputable def o10_5 : Array Oper := opsC (atC (bodyC Tryd.f10) [1, 1, 0])
noncomputable def c10_5 : Code := .region 2 o10_5 false
noncomputable def o10_7 : Array Oper := opsC (atC (bodyC Tryd.f10) [1, 1, 1, 0])
noncomputable def c10_7 : Code := .region 3 o10_7 false
noncomputable def c10_8 : Code := .ret
noncomputable def c10_6 : Code := .seq c10_7 c10_8
noncomputable def c10_4 : Code := .seq c10_5 c10_6
noncomputable def c10_2 : Code := .seq c10_3 c10_4
noncomputable def c10_0 : Code := .seq c10_1 c10_2
noncomputable def F10 : Func := { Tryd.f10 with body := some c10_0 }
theorem F10_eq : Tryd.f10 = F10 := rfl
theorem at10 : Tryd.prog.funcs[10]? = some F10 := by rw [← F10_eq]; exact Tryd.func10
noncomputable def o11_1 : Array Oper := opsC (atC (bodyC Tryd.f11) [0])
noncomputable def c11_1 : Code := .region 0 o11_1 false
noncomputable def o11_3 : Array Oper := opsC (atC (bodyC Tryd.f11) [1, 0])
noncomputable def c11_3 : Code := .region 1 o11_3 false
noncomputable def o11_5 : Array Oper := opsC (atC (bodyC Tryd.f11) [1, 1, 0])
noncomputable def c11_5 : Code := .region 2 o11_5 false
noncomputable def o11_10 : Array Oper := opsC (atC (bodyC Tryd.f11) [1, 1, 1, 0, 0, 0, 0])
noncomputable def c11_10 : Code := .region 3 o11_10 false
noncomputable def o11_13 : Array Oper := opsC (atC (bodyC Tryd.f11) [1, 1, 1, 0, 0, 0, 1, 0, 0])
noncomputable def c11_13 : Code := .region 4 o11_13 false
noncomputable def o11_16 : Array Oper := opsC (atC (bodyC Tryd.f11) [1, 1, 1, 0, 0, 0, 1, 0, 1, 0, 0])
noncomputable def c11_16 : Code := .region 5 o11_16 false
noncomputable def c11_17 : Code := .ret
noncomputable def c11_15 : Code := .seq c11_16 c11_17
noncomputable def c11_18 : Code := .skip
noncomputable def c11_14 : Code := .cond (opdC (atC (bodyC Tryd.f11) [1, 1, 1, 0, 0, 0, 1, 0, 1])) c11_15 c11_18
noncomputable def c11_12 : Code := .seq c11_13 c11_14
noncomputable def o11_19 : Array Oper := opsC (atC (bodyC Tryd.f11) [1, 1, 1, 0, 0, 0, 1, 1])
noncomputable def c11_19 : Code := .region 6 o11_19 false
noncomputable def c11_11 : Code := .seq c11_12 c11_19
noncomputable def c11_9 : Code := .seq c11_10 c11_11
noncomputable def c11_8 : Code := .block 1 c11_9
noncomputable def c11_7 : Code := .loop c11_8
noncomputable def c11_6 : Code := .block 0 c11_7
noncomputable def c11_4 : Code := .seq c11_5 c11_6
noncomputable def c11_2 : Code := .seq c11_3 c11_4
noncomputable def c11_0 : Code := .seq c11_1 c11_2
noncomputable def F11 : Func := { Tryd.f11 with body := some c11_0 }
theorem F11_eq : Tryd.f11 = F11 := rfl
theorem at11 : Tryd.prog.funcs[11]? = some F11 := by rw [← F11_eq]; exact Tryd.func11
noncomputable def o12_1 : Array Oper := opsC (atC (bodyC Tryd.f12) [0])
noncomputable def c12_1 : Code := .region 0 o12_1 false
noncomputable def o12_3 : Array Oper := opsC (atC (bodyC Tryd.f12) [1, 0])
noncomputable def c12_3 : Code := .region 1 o12_3 false
noncomputable def o12_5 : Array Oper := opsC (atC (bodyC Tryd.f12) [1, 1, 0])
noncomputable def c12_5 : Code := .region 2 o12_5 false
noncomputable def o12_11 : Array Oper := opsC (atC (bodyC Tryd.f12) [1, 1, 1, 0, 0, 0, 0, 0])
noncomputable def c12_11 : Code := .region 3 o12_11 false
noncomputable def c12_13 : Code := .skip
noncomputable def c12_14 : Code := .exit 0
noncomputable def c12_12 : Code := .cond (opdC (atC (bodyC Tryd.f12) [1, 1, 1, 0, 0, 0, 0, 1])) c12_13 c12_14
noncomputable def c12_10 : Code := .seq c12_11 c12_12
noncomputable def o12_17 : Array Oper := opsC (atC (bodyC Tryd.f12) [1, 1, 1, 0, 0, 0, 1, 0, 0])
noncomputable def c12_17 : Code := .region 4 o12_17 false
noncomputable def o12_20 : Array Oper := opsC (atC (bodyC Tryd.f12) [1, 1, 1, 0, 0, 0, 1, 0, 1, 0, 0])
noncomputable def c12_20 : Code := .region 5 o12_20 false
noncomputable def c12_22 : Code := .exit 0
noncomputable def c12_23 : Code := .skip
noncomputable def c12_21 : Code := .cond (opdC (atC (bodyC Tryd.f12) [1, 1, 1, 0, 0, 0, 1, 0, 1, 0, 1])) c12_22 c12_23
noncomputable def c12_19 : Code := .seq c12_20 c12_21
noncomputable def o12_25 : Array Oper := opsC (atC (bodyC Tryd.f12) [1, 1, 1, 0, 0, 0, 1, 0, 1, 1, 0])
noncomputable def c12_25 : Code := .region 6 o12_25 false
noncomputable def o12_26 : Array Oper := opsC (atC (bodyC Tryd.f12) [1, 1, 1, 0, 0, 0, 1, 0, 1, 1, 1])
noncomputable def c12_26 : Code := .region 7 o12_26 false
noncomputable def c12_24 : Code := .seq c12_25 c12_26
noncomputable def c12_18 : Code := .seq c12_19 c12_24
noncomputable def c12_16 : Code := .seq c12_17 c12_18
noncomputable def c12_15 : Code := .block 1 c12_16
noncomputable def c12_9 : Code := .seq c12_10 c12_15
noncomputable def c12_8 : Code := .loop c12_9
noncomputable def c12_7 : Code := .block 0 c12_8
noncomputable def o12_28 : Array Oper := opsC (atC (bodyC Tryd.f12) [1, 1, 1, 1, 0])
noncomputable def c12_28 : Code := .region 8 o12_28 false
noncomputable def c12_29 : Code := .ret
noncomputable def c12_27 : Code := .seq c12_28 c12_29
noncomputable def c12_6 : Code := .seq c12_7 c12_27
noncomputable def c12_4 : Code := .seq c12_5 c12_6
noncomputable def c12_2 : Code := .seq c12_3 c12_4
noncomputable def c12_0 : Code := .seq c12_1 c12_2
noncomputable def F12 : Func := { Tryd.f12 with body := some c12_0 }
theorem F12_eq : Tryd.f12 = F12 := rfl
theorem at12 : Tryd.prog.funcs[12]? = some F12 := by rw [← F12_eq]; exact Tryd.func12
noncomputable def o13_1 : Array Oper := opsC (atC (bodyC Tryd.f13) [0])
noncomputable def c13_1 : Code := .region 0 o13_1 false
noncomputable def o13_4 : Array Oper := opsC (atC (bodyC Tryd.f13) [1, 0, 0])
noncomputable def c13_4 : Code := .region 1 o13_4 false
noncomputable def o13_7 : Array Oper := opsC (atC (bodyC Tryd.f13) [1, 0, 1, 0, 0])
noncomputable def c13_7 : Code := .region 2 o13_7 false
noncomputable def c13_8 : Code := .ret
noncomputable def c13_6 : Code := .seq c13_7 c13_8
noncomputable def c13_9 : Code := .skip
noncomputable def c13_5 : Code := .cond (opdC (atC (bodyC Tryd.f13) [1, 0, 1])) c13_6 c13_9
noncomputable def c13_3 : Code := .seq c13_4 c13_5
noncomputable def o13_12 : Array Oper := opsC (atC (bodyC Tryd.f13) [1, 1, 0, 0])
noncomputable def c13_12 : Code := .region 3 o13_12 false
noncomputable def o13_17 : Array Oper := opsC (atC (bodyC Tryd.f13) [1, 1, 0, 1, 0, 0, 0, 0])
noncomputable def c13_17 : Code := .region 4 o13_17 false
noncomputable def c13_19 : Code := .skip
noncomputable def c13_20 : Code := .exit 0
noncomputable def c13_18 : Code := .cond (opdC (atC (bodyC Tryd.f13) [1, 1, 0, 1, 0, 0, 0, 1])) c13_19 c13_20
noncomputable def c13_16 : Code := .seq c13_17 c13_18
noncomputable def o13_24 : Array Oper := opsC (atC (bodyC Tryd.f13) [1, 1, 0, 1, 0, 0, 1, 0, 0, 0])
noncomputable def c13_24 : Code := .region 6 o13_24 true
noncomputable def o13_27 : Array Oper := opsC (atC (bodyC Tryd.f13) [1, 1, 0, 1, 0, 0, 1, 0, 0, 1, 0, 0])
noncomputable def c13_27 : Code := .region 7 o13_27 false
noncomputable def c13_28 : Code := .ret
noncomputable def c13_26 : Code := .seq c13_27 c13_28
noncomputable def c13_29 : Code := .skip
noncomputable def c13_25 : Code := .cond (opdC (atC (bodyC Tryd.f13) [1, 1, 0, 1, 0, 0, 1, 0, 0, 1])) c13_26 c13_29
noncomputable def c13_23 : Code := .seq c13_24 c13_25
noncomputable def c13_22 : Code := .block 1 c13_23
noncomputable def o13_30 : Array Oper := opsC (atC (bodyC Tryd.f13) [1, 1, 0, 1, 0, 0, 1, 1])
noncomputable def c13_30 : Code := .region 5 o13_30 false
noncomputable def c13_21 : Code := .seq c13_22 c13_30
noncomputable def c13_15 : Code := .seq c13_16 c13_21
noncomputable def c13_14 : Code := .loop c13_15
noncomputable def c13_13 : Code := .block 0 c13_14
noncomputable def c13_11 : Code := .seq c13_12 c13_13
noncomputable def o13_32 : Array Oper := opsC (atC (bodyC Tryd.f13) [1, 1, 1, 0])
noncomputable def c13_32 : Code := .region 8 o13_32 false
noncomputable def c13_33 : Code := .ret
noncomputable def c13_31 : Code := .seq c13_32 c13_33
noncomputable def c13_10 : Code := .seq c13_11 c13_31
noncomputable def c13_2 : Code := .seq c13_3 c13_10
noncomputable def c13_0 : Code := .seq c13_1 c13_2
noncomputable def F13 : Func := { Tryd.f13 with body := some c13_0 }
theorem F13_eq : Tryd.f13 = F13 := rfl
theorem at13 : Tryd.prog.funcs[13]? = some F13 := by rw [← F13_eq]; exact Tryd.func13
noncomputable def o14_1 : Array Oper := opsC (atC (bodyC Tryd.f14) [0])
noncomputable def c14_1 : Code := .region 0 o14_1 false
noncomputable def o14_3 : Array Oper := opsC (atC (bodyC Tryd.f14) [1, 0])
noncomputable def c14_3 : Code := .region 1 o14_3 false
noncomputable def c14_4 : Code := .ret
noncomputable def c14_2 : Code := .seq c14_3 c14_4
noncomputable def c14_0 : Code := .seq c14_1 c14_2
noncomputable def F14 : Func := { Tryd.f14 with body := some c14_0 }
theorem F14_eq : Tryd.f14 = F14 := rfl
theorem at14 : Tryd.prog.funcs[14]? = some F14 := by rw [← F14_eq]; exact Tryd.func14
noncomputable def o15_1 : Array Oper := opsC (atC (bodyC Tryd.f15) [0])
noncomputable def c15_1 : Code := .region 0 o15_1 false
noncomputable def o15_6 : Array Oper := opsC (atC (bodyC Tryd.f15) [1, 0, 0, 0, 0])
noncomputable def c15_6 : Code := .region 1 o15_6 false
noncomputable def c15_8 : Code := .skip
noncomputable def c15_9 : Code := .exit 0
noncomputable def c15_7 : Code := .cond (opdC (atC (bodyC Tryd.f15) [1, 0, 0, 0, 1])) c15_8 c15_9
noncomputable def c15_5 : Code := .seq c15_6 c15_7
noncomputable def o15_12 : Array Oper := opsC (atC (bodyC Tryd.f15) [1, 0, 0, 1, 0, 0])
noncomputable def c15_12 : Code := .region 3 o15_12 false
noncomputable def c15_11 : Code := .block 1 c15_12
noncomputable def o15_13 : Array Oper := opsC (atC (bodyC Tryd.f15) [1, 0, 0, 1, 1])
noncomputable def c15_13 : Code := .region 2 o15_13 false
noncomputable def c15_10 : Code := .seq c15_11 c15_13
noncomputable def c15_4 : Code := .seq c15_5 c15_10
noncomputable def c15_3 : Code := .loop c15_4
noncomputable def c15_2 : Code := .block 0 c15_3
noncomputable def c15_0 : Code := .seq c15_1 c15_2
noncomputable def F15 : Func := { Tryd.f15 with body := some c15_0 }
theorem F15_eq : Tryd.f15 = F15 := rfl
theorem at15 : Tryd.prog.funcs[15]? = some F15 := by rw [← F15_eq]; exact Tryd.func15
noncomputable def o16_1 : Array Oper := opsC (atC (bodyC Tryd.f16) [0])
noncomputable def c16_1 : Code := .region 0 o16_1 false
noncomputable def o16_3 : Array Oper := opsC (atC (bodyC Tryd.f16) [1, 0])
noncomputable def c16_3 : Code := .region 1 o16_3 false
noncomputable def o16_6 : Array Oper := opsC (atC (bodyC Tryd.f16) [1, 1, 0, 0])
noncomputable def c16_6 : Code := .region 2 o16_6 false
noncomputable def o16_11 : Array Oper := opsC (atC (bodyC Tryd.f16) [1, 1, 0, 1, 0, 0, 0, 0])
noncomputable def c16_11 : Code := .region 3 o16_11 false
noncomputable def c16_13 : Code := .skip
noncomputable def c16_14 : Code := .exit 0
noncomputable def c16_12 : Code := .cond (opdC (atC (bodyC Tryd.f16) [1, 1, 0, 1, 0, 0, 0, 1])) c16_13 c16_14
noncomputable def c16_10 : Code := .seq c16_11 c16_12
noncomputable def o16_17 : Array Oper := opsC (atC (bodyC Tryd.f16) [1, 1, 0, 1, 0, 0, 1, 0, 0])
noncomputable def c16_17 : Code := .region 5 o16_17 false
noncomputable def c16_16 : Code := .block 1 c16_17
noncomputable def o16_18 : Array Oper := opsC (atC (bodyC Tryd.f16) [1, 1, 0, 1, 0, 0, 1, 1])
noncomputable def c16_18 : Code := .region 4 o16_18 false
noncomputable def c16_15 : Code := .seq c16_16 c16_18
noncomputable def c16_9 : Code := .seq c16_10 c16_15
noncomputable def c16_8 : Code := .loop c16_9
noncomputable def c16_7 : Code := .block 0 c16_8
noncomputable def c16_5 : Code := .seq c16_6 c16_7
noncomputable def o16_20 : Array Oper := opsC (atC (bodyC Tryd.f16) [1, 1, 1, 0])
noncomputable def c16_20 : Code := .region 6 o16_20 false
noncomputable def c16_21 : Code := .ret
noncomputable def c16_19 : Code := .seq c16_20 c16_21
noncomputable def c16_4 : Code := .seq c16_5 c16_19
noncomputable def c16_2 : Code := .seq c16_3 c16_4
noncomputable def c16_0 : Code := .seq c16_1 c16_2
noncomputable def F16 : Func := { Tryd.f16 with body := some c16_0 }
theorem F16_eq : Tryd.f16 = F16 := rfl
theorem at16 : Tryd.prog.funcs[16]? = some F16 := by rw [← F16_eq]; exact Tryd.func16
noncomputable def o17_1 : Array Oper := opsC (atC (bodyC Tryd.f17) [0])
noncomputable def c17_1 : Code := .region 0 o17_1 false
noncomputable def o17_3 : Array Oper := opsC (atC (bodyC Tryd.f17) [1, 0])
noncomputable def c17_3 : Code := .region 1 o17_3 false
noncomputable def o17_5 : Array Oper := opsC (atC (bodyC Tryd.f17) [1, 1, 0])
noncomputable def c17_5 : Code := .region 2 o17_5 false
noncomputable def o17_8 : Array Oper := opsC (atC (bodyC Tryd.f17) [1, 1, 1, 0, 0])
noncomputable def c17_8 : Code := .region 3 o17_8 false
noncomputable def o17_13 : Array Oper := opsC (atC (bodyC Tryd.f17) [1, 1, 1, 0, 1, 0, 0, 0, 0])
noncomputable def c17_13 : Code := .region 4 o17_13 false
noncomputable def c17_15 : Code := .skip
noncomputable def c17_16 : Code := .exit 0
noncomputable def c17_14 : Code := .cond (opdC (atC (bodyC Tryd.f17) [1, 1, 1, 0, 1, 0, 0, 0, 1])) c17_15 c17_16
noncomputable def c17_12 : Code := .seq c17_13 c17_14
noncomputable def o17_20 : Array Oper := opsC (atC (bodyC Tryd.f17) [1, 1, 1, 0, 1, 0, 0, 1, 0, 0, 0])
noncomputable def c17_20 : Code := .region 6 o17_20 false
noncomputable def o17_23 : Array Oper := opsC (atC (bodyC Tryd.f17) [1, 1, 1, 0, 1, 0, 0, 1, 0, 0, 1, 0, 0])
noncomputable def c17_23 : Code := .region 7 o17_23 false
noncomputable def o17_26 : Array Oper := opsC (atC (bodyC Tryd.f17) [1, 1, 1, 0, 1, 0, 0, 1, 0, 0, 1, 0, 1, 0, 0])
noncomputable def c17_26 : Code := .region 8 o17_26 false
noncomputable def c17_27 : Code := .ret
noncomputable def c17_25 : Code := .seq c17_26 c17_27
noncomputable def c17_28 : Code := .skip
noncomputable def c17_24 : Code := .cond (opdC (atC (bodyC Tryd.f17) [1, 1, 1, 0, 1, 0, 0, 1, 0, 0, 1, 0, 1])) c17_25 c17_28
noncomputable def c17_22 : Code := .seq c17_23 c17_24
noncomputable def o17_30 : Array Oper := opsC (atC (bodyC Tryd.f17) [1, 1, 1, 0, 1, 0, 0, 1, 0, 0, 1, 1, 0])
noncomputable def c17_30 : Code := .region 9 o17_30 false
noncomputable def o17_31 : Array Oper := opsC (atC (bodyC Tryd.f17) [1, 1, 1, 0, 1, 0, 0, 1, 0, 0, 1, 1, 1])
noncomputable def c17_31 : Code := .region 10 o17_31 false
noncomputable def c17_29 : Code := .seq c17_30 c17_31
noncomputable def c17_21 : Code := .seq c17_22 c17_29
noncomputable def c17_19 : Code := .seq c17_20 c17_21
noncomputable def c17_18 : Code := .block 1 c17_19
noncomputable def o17_32 : Array Oper := opsC (atC (bodyC Tryd.f17) [1, 1, 1, 0, 1, 0, 0, 1, 1])
noncomputable def c17_32 : Code := .region 5 o17_32 false
noncomputable def c17_17 : Code := .seq c17_18 c17_32
noncomputable def c17_11 : Code := .seq c17_12 c17_17
noncomputable def c17_10 : Code := .loop c17_11
noncomputable def c17_9 : Code := .block 0 c17_10
noncomputable def c17_7 : Code := .seq c17_8 c17_9
noncomputable def o17_34 : Array Oper := opsC (atC (bodyC Tryd.f17) [1, 1, 1, 1, 0])
noncomputable def c17_34 : Code := .region 11 o17_34 false
noncomputable def c17_35 : Code := .ret
noncomputable def c17_33 : Code := .seq c17_34 c17_35
noncomputable def c17_6 : Code := .seq c17_7 c17_33
noncomputable def c17_4 : Code := .seq c17_5 c17_6
noncomputable def c17_2 : Code := .seq c17_3 c17_4
noncomputable def c17_0 : Code := .seq c17_1 c17_2
noncomputable def F17 : Func := { Tryd.f17 with body := some c17_0 }
theorem F17_eq : Tryd.f17 = F17 := rfl
theorem at17 : Tryd.prog.funcs[17]? = some F17 := by rw [← F17_eq]; exact Tryd.func17
noncomputable def o18_1 : Array Oper := opsC (atC (bodyC Tryd.f18) [0])
noncomputable def c18_1 : Code := .region 0 o18_1 false
noncomputable def o18_3 : Array Oper := opsC (atC (bodyC Tryd.f18) [1, 0])
noncomputable def c18_3 : Code := .region 1 o18_3 false
noncomputable def o18_6 : Array Oper := opsC (atC (bodyC Tryd.f18) [1, 1, 0, 0])
noncomputable def c18_6 : Code := .region 2 o18_6 false
noncomputable def o18_11 : Array Oper := opsC (atC (bodyC Tryd.f18) [1, 1, 0, 1, 0, 0, 0, 0])
noncomputable def c18_11 : Code := .region 3 o18_11 false
noncomputable def c18_13 : Code := .skip
noncomputable def c18_14 : Code := .exit 0
noncomputable def c18_12 : Code := .cond (opdC (atC (bodyC Tryd.f18) [1, 1, 0, 1, 0, 0, 0, 1])) c18_13 c18_14
noncomputable def c18_10 : Code := .seq c18_11 c18_12
noncomputable def o18_17 : Array Oper := opsC (atC (bodyC Tryd.f18) [1, 1, 0, 1, 0, 0, 1, 0, 0])
noncomputable def c18_17 : Code := .region 4 o18_17 false
noncomputable def o18_20 : Array Oper := opsC (atC (bodyC Tryd.f18) [1, 1, 0, 1, 0, 0, 1, 0, 1, 0, 0])
noncomputable def c18_20 : Code := .region 5 o18_20 false
noncomputable def o18_23 : Array Oper := opsC (atC (bodyC Tryd.f18) [1, 1, 0, 1, 0, 0, 1, 0, 1, 0, 1, 0, 0])
noncomputable def c18_23 : Code := .region 6 o18_23 false
noncomputable def c18_24 : Code := .exit 1
noncomputable def c18_22 : Code := .seq c18_23 c18_24
noncomputable def c18_25 : Code := .skip
noncomputable def c18_21 : Code := .cond (opdC (atC (bodyC Tryd.f18) [1, 1, 0, 1, 0, 0, 1, 0, 1, 0, 1])) c18_22 c18_25
noncomputable def c18_19 : Code := .seq c18_20 c18_21
noncomputable def o18_27 : Array Oper := opsC (atC (bodyC Tryd.f18) [1, 1, 0, 1, 0, 0, 1, 0, 1, 1, 0])
noncomputable def c18_27 : Code := .region 7 o18_27 false
noncomputable def o18_29 : Array Oper := opsC (atC (bodyC Tryd.f18) [1, 1, 0, 1, 0, 0, 1, 0, 1, 1, 1, 0])
noncomputable def c18_29 : Code := .region 8 o18_29 false
noncomputable def o18_30 : Array Oper := opsC (atC (bodyC Tryd.f18) [1, 1, 0, 1, 0, 0, 1, 0, 1, 1, 1, 1])
noncomputable def c18_30 : Code := .region 9 o18_30 true
noncomputable def c18_28 : Code := .seq c18_29 c18_30
noncomputable def c18_26 : Code := .seq c18_27 c18_28
noncomputable def c18_18 : Code := .seq c18_19 c18_26
noncomputable def c18_16 : Code := .seq c18_17 c18_18
noncomputable def c18_15 : Code := .block 1 c18_16
noncomputable def c18_9 : Code := .seq c18_10 c18_15
noncomputable def c18_8 : Code := .loop c18_9
noncomputable def c18_7 : Code := .block 0 c18_8
noncomputable def c18_5 : Code := .seq c18_6 c18_7
noncomputable def o18_32 : Array Oper := opsC (atC (bodyC Tryd.f18) [1, 1, 1, 0])
noncomputable def c18_32 : Code := .region 10 o18_32 false
noncomputable def c18_33 : Code := .ret
noncomputable def c18_31 : Code := .seq c18_32 c18_33
noncomputable def c18_4 : Code := .seq c18_5 c18_31
noncomputable def c18_2 : Code := .seq c18_3 c18_4
noncomputable def c18_0 : Code := .seq c18_1 c18_2
noncomputable def F18 : Func := { Tryd.f18 with body := some c18_0 }
theorem F18_eq : Tryd.f18 = F18 := rfl
theorem at18 : Tryd.prog.funcs[18]? = some F18 := by rw [← F18_eq]; exact Tryd.func18
noncomputable def o19_1 : Array Oper := opsC (atC (bodyC Tryd.f19) [0])
noncomputable def c19_1 : Code := .region 0 o19_1 false
noncomputable def o19_4 : Array Oper := opsC (atC (bodyC Tryd.f19) [1, 0, 0])
noncomputable def c19_4 : Code := .region 1 o19_4 false
noncomputable def o19_7 : Array Oper := opsC (atC (bodyC Tryd.f19) [1, 0, 1, 0, 0])
noncomputable def c19_7 : Code := .region 2 o19_7 false
noncomputable def c19_8 : Code := .ret
noncomputable def c19_6 : Code := .seq c19_7 c19_8
noncomputable def c19_9 : Code := .skip
noncomputable def c19_5 : Code := .cond (opdC (atC (bodyC Tryd.f19) [1, 0, 1])) c19_6 c19_9
noncomputable def c19_3 : Code := .seq c19_4 c19_5
noncomputable def o19_11 : Array Oper := opsC (atC (bodyC Tryd.f19) [1, 1, 0])
noncomputable def c19_11 : Code := .region 3 o19_11 false
noncomputable def o19_13 : Array Oper := opsC (atC (bodyC Tryd.f19) [1, 1, 1, 0])
noncomputable def c19_13 : Code := .region 4 o19_13 false
noncomputable def o19_16 : Array Oper := opsC (atC (bodyC Tryd.f19) [1, 1, 1, 1, 0, 0])
noncomputable def c19_16 : Code := .region 5 o19_16 false
noncomputable def o19_21 : Array Oper := opsC (atC (bodyC Tryd.f19) [1, 1, 1, 1, 0, 1, 0, 0, 0, 0])
noncomputable def c19_21 : Code := .region 6 o19_21 false
noncomputable def c19_23 : Code := .skip
noncomputable def c19_24 : Code := .exit 0
noncomputable def c19_22 : Code := .cond (opdC (atC (bodyC Tryd.f19) [1, 1, 1, 1, 0, 1, 0, 0, 0, 1])) c19_23 c19_24
noncomputable def c19_20 : Code := .seq c19_21 c19_22
noncomputable def o19_27 : Array Oper := opsC (atC (bodyC Tryd.f19) [1, 1, 1, 1, 0, 1, 0, 0, 1, 0, 0])
noncomputable def c19_27 : Code := .region 7 o19_27 false
noncomputable def o19_30 : Array Oper := opsC (atC (bodyC Tryd.f19) [1, 1, 1, 1, 0, 1, 0, 0, 1, 0, 1, 0, 0])
noncomputable def c19_30 : Code := .region 8 o19_30 false
noncomputable def o19_33 : Array Oper := opsC (atC (bodyC Tryd.f19) [1, 1, 1, 1, 0, 1, 0, 0, 1, 0, 1, 0, 1, 0, 0])
noncomputable def c19_33 : Code := .region 9 o19_33 false
noncomputable def c19_34 : Code := .exit 1
noncomputable def c19_32 : Code := .seq c19_33 c19_34
noncomputable def c19_35 : Code := .skip
noncomputable def c19_31 : Code := .cond (opdC (atC (bodyC Tryd.f19) [1, 1, 1, 1, 0, 1, 0, 0, 1, 0, 1, 0, 1])) c19_32 c19_35
noncomputable def c19_29 : Code := .seq c19_30 c19_31
noncomputable def o19_37 : Array Oper := opsC (atC (bodyC Tryd.f19) [1, 1, 1, 1, 0, 1, 0, 0, 1, 0, 1, 1, 0])
noncomputable def c19_37 : Code := .region 10 o19_37 false
noncomputable def o19_39 : Array Oper := opsC (atC (bodyC Tryd.f19) [1, 1, 1, 1, 0, 1, 0, 0, 1, 0, 1, 1, 1, 0])
noncomputable def c19_39 : Code := .region 11 o19_39 false
noncomputable def o19_41 : Array Oper := opsC (atC (bodyC Tryd.f19) [1, 1, 1, 1, 0, 1, 0, 0, 1, 0, 1, 1, 1, 1, 0])
noncomputable def c19_41 : Code := .region 12 o19_41 true
noncomputable def o19_42 : Array Oper := opsC (atC (bodyC Tryd.f19) [1, 1, 1, 1, 0, 1, 0, 0, 1, 0, 1, 1, 1, 1, 1])
noncomputable def c19_42 : Code := .region 13 o19_42 false
noncomputable def c19_40 : Code := .seq c19_41 c19_42
noncomputable def c19_38 : Code := .seq c19_39 c19_40
noncomputable def c19_36 : Code := .seq c19_37 c19_38
noncomputable def c19_28 : Code := .seq c19_29 c19_36
noncomputable def c19_26 : Code := .seq c19_27 c19_28
noncomputable def c19_25 : Code := .block 1 c19_26
noncomputable def c19_19 : Code := .seq c19_20 c19_25
noncomputable def c19_18 : Code := .loop c19_19
noncomputable def c19_17 : Code := .block 0 c19_18
noncomputable def c19_15 : Code := .seq c19_16 c19_17
noncomputable def o19_44 : Array Oper := opsC (atC (bodyC Tryd.f19) [1, 1, 1, 1, 1, 0])
noncomputable def c19_44 : Code := .region 14 o19_44 false
noncomputable def c19_45 : Code := .ret
noncomputable def c19_43 : Code := .seq c19_44 c19_45
noncomputable def c19_14 : Code := .seq c19_15 c19_43
noncomputable def c19_12 : Code := .seq c19_13 c19_14
noncomputable def c19_10 : Code := .seq c19_11 c19_12
noncomputable def c19_2 : Code := .seq c19_3 c19_10
noncomputable def c19_0 : Code := .seq c19_1 c19_2
noncomputable def F19 : Func := { Tryd.f19 with body := some c19_0 }
theorem F19_eq : Tryd.f19 = F19 := rfl
theorem at19 : Tryd.prog.funcs[19]? = some F19 := by rw [← F19_eq]; exact Tryd.func19
noncomputable def o20_1 : Array Oper := opsC (atC (bodyC Tryd.f20) [0])
noncomputable def c20_1 : Code := .region 0 o20_1 false
noncomputable def o20_3 : Array Oper := opsC (atC (bodyC Tryd.f20) [1, 0])
noncomputable def c20_3 : Code := .region 1 o20_3 false
noncomputable def o20_6 : Array Oper := opsC (atC (bodyC Tryd.f20) [1, 1, 0, 0])
noncomputable def c20_6 : Code := .region 2 o20_6 false
noncomputable def o20_11 : Array Oper := opsC (atC (bodyC Tryd.f20) [1, 1, 0, 1, 0, 0, 0, 0])
noncomputable def c20_11 : Code := .region 3 o20_11 false
noncomputable def c20_13 : Code := .skip
noncomputable def c20_14 : Code := .exit 0
noncomputable def c20_12 : Code := .cond (opdC (atC (bodyC Tryd.f20) [1, 1, 0, 1, 0, 0, 0, 1])) c20_13 c20_14
noncomputable def c20_10 : Code := .seq c20_11 c20_12
noncomputable def o20_17 : Array Oper := opsC (atC (bodyC Tryd.f20) [1, 1, 0, 1, 0, 0, 1, 0, 0])
noncomputable def c20_17 : Code := .region 5 o20_17 false
noncomputable def c20_16 : Code := .block 1 c20_17
noncomputable def o20_18 : Array Oper := opsC (atC (bodyC Tryd.f20) [1, 1, 0, 1, 0, 0, 1, 1])
noncomputable def c20_18 : Code := .region 4 o20_18 false
noncomputable def c20_15 : Code := .seq c20_16 c20_18
noncomputable def c20_9 : Code := .seq c20_10 c20_15
noncomputable def c20_8 : Code := .loop c20_9
noncomputable def c20_7 : Code := .block 0 c20_8
noncomputable def c20_5 : Code := .seq c20_6 c20_7
noncomputable def o20_20 : Array Oper := opsC (atC (bodyC Tryd.f20) [1, 1, 1, 0])
noncomputable def c20_20 : Code := .region 6 o20_20 false
noncomputable def c20_21 : Code := .ret
noncomputable def c20_19 : Code := .seq c20_20 c20_21
noncomputable def c20_4 : Code := .seq c20_5 c20_19
noncomputable def c20_2 : Code := .seq c20_3 c20_4
noncomputable def c20_0 : Code := .seq c20_1 c20_2
noncomputable def F20 : Func := { Tryd.f20 with body := some c20_0 }
theorem F20_eq : Tryd.f20 = F20 := rfl
theorem at20 : Tryd.prog.funcs[20]? = some F20 := by rw [← F20_eq]; exact Tryd.func20
noncomputable def o21_1 : Array Oper := opsC (atC (bodyC Tryd.f21) [0])
noncomputable def c21_1 : Code := .region 0 o21_1 false
noncomputable def o21_4 : Array Oper := opsC (atC (bodyC Tryd.f21) [1, 0, 0])
noncomputable def c21_4 : Code := .region 1 o21_4 false
noncomputable def o21_7 : Array Oper := opsC (atC (bodyC Tryd.f21) [1, 0, 1, 0, 0])
noncomputable def c21_7 : Code := .region 2 o21_7 false
noncomputable def c21_8 : Code := .ret
noncomputable def c21_6 : Code := .seq c21_7 c21_8
noncomputable def c21_9 : Code := .skip
noncomputable def c21_5 : Code := .cond (opdC (atC (bodyC Tryd.f21) [1, 0, 1])) c21_6 c21_9
noncomputable def c21_3 : Code := .seq c21_4 c21_5
noncomputable def o21_11 : Array Oper := opsC (atC (bodyC Tryd.f21) [1, 1, 0])
noncomputable def c21_11 : Code := .region 3 o21_11 false
noncomputable def o21_13 : Array Oper := opsC (atC (bodyC Tryd.f21) [1, 1, 1, 0])
noncomputable def c21_13 : Code := .region 4 o21_13 false
noncomputable def o21_15 : Array Oper := opsC (atC (bodyC Tryd.f21) [1, 1, 1, 1, 0])
noncomputable def c21_15 : Code := .region 5 o21_15 false
noncomputable def o21_20 : Array Oper := opsC (atC (bodyC Tryd.f21) [1, 1, 1, 1, 1, 0, 0, 0, 0])
noncomputable def c21_20 : Code := .region 6 o21_20 false
noncomputable def o21_23 : Array Oper := opsC (atC (bodyC Tryd.f21) [1, 1, 1, 1, 1, 0, 0, 0, 1, 0, 0])
noncomputable def c21_23 : Code := .region 7 o21_23 false
noncomputable def o21_26 : Array Oper := opsC (atC (bodyC Tryd.f21) [1, 1, 1, 1, 1, 0, 0, 0, 1, 0, 1, 0, 0])
noncomputable def c21_26 : Code := .region 8 o21_26 false
noncomputable def o21_28 : Array Oper := opsC (atC (bodyC Tryd.f21) [1, 1, 1, 1, 1, 0, 0, 0, 1, 0, 1, 0, 1, 0])
noncomputable def c21_28 : Code := .region 9 o21_28 false
noncomputable def c21_29 : Code := .exit 1
noncomputable def c21_27 : Code := .seq c21_28 c21_29
noncomputable def c21_25 : Code := .seq c21_26 c21_27
noncomputable def c21_30 : Code := .skip
noncomputable def c21_24 : Code := .cond (opdC (atC (bodyC Tryd.f21) [1, 1, 1, 1, 1, 0, 0, 0, 1, 0, 1])) c21_25 c21_30
noncomputable def c21_22 : Code := .seq c21_23 c21_24
noncomputable def o21_32 : Array Oper := opsC (atC (bodyC Tryd.f21) [1, 1, 1, 1, 1, 0, 0, 0, 1, 1, 0])
noncomputable def c21_32 : Code := .region 10 o21_32 false
noncomputable def o21_34 : Array Oper := opsC (atC (bodyC Tryd.f21) [1, 1, 1, 1, 1, 0, 0, 0, 1, 1, 1, 0])
noncomputable def c21_34 : Code := .region 11 o21_34 false
noncomputable def o21_36 : Array Oper := opsC (atC (bodyC Tryd.f21) [1, 1, 1, 1, 1, 0, 0, 0, 1, 1, 1, 1, 0])
noncomputable def c21_36 : Code := .region 12 o21_36 false
noncomputable def o21_40 : Array Oper := opsC (atC (bodyC Tryd.f21) [1, 1, 1, 1, 1, 0, 0, 0, 1, 1, 1, 1, 1, 0, 0, 0])
noncomputable def c21_40 : Code := .region 13 o21_40 false
noncomputable def o21_42 : Array Oper := opsC (atC (bodyC Tryd.f21) [1, 1, 1, 1, 1, 0, 0, 0, 1, 1, 1, 1, 1, 0, 0, 1, 0])
noncomputable def c21_42 : Code := .region 14 o21_42 false
noncomputable def o21_44 : Array Oper := opsC (atC (bodyC Tryd.f21) [1, 1, 1, 1, 1, 0, 0, 0, 1, 1, 1, 1, 1, 0, 0, 1, 1, 0])
noncomputable def c21_44 : Code := .region 15 o21_44 false
noncomputable def o21_46 : Array Oper := opsC (atC (bodyC Tryd.f21) [1, 1, 1, 1, 1, 0, 0, 0, 1, 1, 1, 1, 1, 0, 0, 1, 1, 1, 0])
noncomputable def c21_46 : Code := .region 16 o21_46 false
noncomputable def o21_48 : Array Oper := opsC (atC (bodyC Tryd.f21) [1, 1, 1, 1, 1, 0, 0, 0, 1, 1, 1, 1, 1, 0, 0, 1, 1, 1, 1, 0])
noncomputable def c21_48 : Code := .region 17 o21_48 false
noncomputable def o21_50 : Array Oper := opsC (atC (bodyC Tryd.f21) [1, 1, 1, 1, 1, 0, 0, 0, 1, 1, 1, 1, 1, 0, 0, 1, 1, 1, 1, 1, 0])
noncomputable def c21_50 : Code := .region 18 o21_50 false
noncomputable def c21_51 : Code := .skip
noncomputable def c21_49 : Code := .cond (opdC (atC (bodyC Tryd.f21) [1, 1, 1, 1, 1, 0, 0, 0, 1, 1, 1, 1, 1, 0, 0, 1, 1, 1, 1, 1])) c21_50 c21_51
noncomputable def c21_47 : Code := .seq c21_48 c21_49
noncomputable def c21_45 : Code := .cond (opdC (atC (bodyC Tryd.f21) [1, 1, 1, 1, 1, 0, 0, 0, 1, 1, 1, 1, 1, 0, 0, 1, 1, 1])) c21_46 c21_47
noncomputable def c21_43 : Code := .seq c21_44 c21_45
noncomputable def c21_41 : Code := .cond (opdC (atC (bodyC Tryd.f21) [1, 1, 1, 1, 1, 0, 0, 0, 1, 1, 1, 1, 1, 0, 0, 1])) c21_42 c21_43
noncomputable def c21_39 : Code := .seq c21_40 c21_41
noncomputable def c21_38 : Code := .block 2 c21_39
noncomputable def o21_53 : Array Oper := opsC (atC (bodyC Tryd.f21) [1, 1, 1, 1, 1, 0, 0, 0, 1, 1, 1, 1, 1, 1, 0])
noncomputable def c21_53 : Code := .region 19 o21_53 false
noncomputable def o21_55 : Array Oper := opsC (atC (bodyC Tryd.f21) [1, 1, 1, 1, 1, 0, 0, 0, 1, 1, 1, 1, 1, 1, 1, 0])
noncomputable def c21_55 : Code := .region 20 o21_55 false
noncomputable def o21_57 : Array Oper := opsC (atC (bodyC Tryd.f21) [1, 1, 1, 1, 1, 0, 0, 0, 1, 1, 1, 1, 1, 1, 1, 1, 0])
noncomputable def c21_57 : Code := .region 21 o21_57 false
noncomputable def o21_59 : Array Oper := opsC (atC (bodyC Tryd.f21) [1, 1, 1, 1, 1, 0, 0, 0, 1, 1, 1, 1, 1, 1, 1, 1, 1, 0])
noncomputable def c21_59 : Code := .region 22 o21_59 false
noncomputable def o21_61 : Array Oper := opsC (atC (bodyC Tryd.f21) [1, 1, 1, 1, 1, 0, 0, 0, 1, 1, 1, 1, 1, 1, 1, 1, 1, 1, 0])
noncomputable def c21_61 : Code := .region 23 o21_61 false
noncomputable def o21_64 : Array Oper := opsC (atC (bodyC Tryd.f21) [1, 1, 1, 1, 1, 0, 0, 0, 1, 1, 1, 1, 1, 1, 1, 1, 1, 1, 1, 0, 0])
noncomputable def c21_64 : Code := .region 24 o21_64 false
noncomputable def c21_65 : Code := .ret
noncomputable def c21_63 : Code := .seq c21_64 c21_65
noncomputable def c21_66 : Code := .skip
noncomputable def c21_62 : Code := .cond (opdC (atC (bodyC Tryd.f21) [1, 1, 1, 1, 1, 0, 0, 0, 1, 1, 1, 1, 1, 1, 1, 1, 1, 1, 1])) c21_63 c21_66
noncomputable def c21_60 : Code := .seq c21_61 c21_62
noncomputable def c21_58 : Code := .seq c21_59 c21_60
noncomputable def c21_56 : Code := .seq c21_57 c21_58
noncomputable def c21_54 : Code := .seq c21_55 c21_56
noncomputable def c21_52 : Code := .seq c21_53 c21_54
noncomputable def c21_37 : Code := .seq c21_38 c21_52
noncomputable def c21_35 : Code := .seq c21_36 c21_37
noncomputable def c21_33 : Code := .seq c21_34 c21_35
noncomputable def c21_31 : Code := .seq c21_32 c21_33
noncomputable def c21_21 : Code := .seq c21_22 c21_31
noncomputable def c21_19 : Code := .seq c21_20 c21_21
noncomputable def c21_18 : Code := .block 1 c21_19
noncomputable def c21_17 : Code := .loop c21_18
noncomputable def c21_16 : Code := .block 0 c21_17
noncomputable def c21_14 : Code := .seq c21_15 c21_16
noncomputable def c21_12 : Code := .seq c21_13 c21_14
noncomputable def c21_10 : Code := .seq c21_11 c21_12
noncomputable def c21_2 : Code := .seq c21_3 c21_10
noncomputable def c21_0 : Code := .seq c21_1 c21_2
noncomputable def F21 : Func := { Tryd.f21 with body := some c21_0 }
theorem F21_eq : Tryd.f21 = F21 := rfl
theorem at21 : Tryd.prog.funcs[21]? = some F21 := by rw [← F21_eq]; exact Tryd.func21
noncomputable def o22_1 : Array Oper := opsC (atC (bodyC Tryd.f22) [0])
noncomputable def c22_1 : Code := .region 0 o22_1 false
noncomputable def o22_4 : Array Oper := opsC (atC (bodyC Tryd.f22) [1, 0, 0])
noncomputable def c22_4 : Code := .region 1 o22_4 false
noncomputable def o22_7 : Array Oper := opsC (atC (bodyC Tryd.f22) [1, 0, 1, 0, 0])
noncomputable def c22_7 : Code := .region 2 o22_7 false
noncomputable def c22_8 : Code := .ret
noncomputable def c22_6 : Code := .seq c22_7 c22_8
noncomputable def c22_9 : Code := .skip
noncomputable def c22_5 : Code := .cond (opdC (atC (bodyC Tryd.f22) [1, 0, 1])) c22_6 c22_9
noncomputable def c22_3 : Code := .seq c22_4 c22_5
noncomputable def o22_11 : Array Oper := opsC (atC (bodyC Tryd.f22) [1, 1, 0])
noncomputable def c22_11 : Code := .region 3 o22_11 false
noncomputable def o22_13 : Array Oper := opsC (atC (bodyC Tryd.f22) [1, 1, 1, 0])
noncomputable def c22_13 : Code := .region 4 o22_13 false
noncomputable def c22_14 : Code := .ret
noncomputable def c22_12 : Code := .seq c22_13 c22_14
noncomputable def c22_10 : Code := .seq c22_11 c22_12
noncomputable def c22_2 : Code := .seq c22_3 c22_10
noncomputable def c22_0 : Code := .seq c22_1 c22_2
noncomputable def F22 : Func := { Tryd.f22 with body := some c22_0 }
theorem F22_eq : Tryd.f22 = F22 := rfl
theorem at22 : Tryd.prog.funcs[22]? = some F22 := by rw [← F22_eq]; exact Tryd.func22
noncomputable def o23_1 : Array Oper := opsC (atC (bodyC Tryd.f23) [0])
noncomputable def c23_1 : Code := .region 0 o23_1 false
noncomputable def o23_4 : Array Oper := opsC (atC (bodyC Tryd.f23) [1, 0, 0])
noncomputable def c23_4 : Code := .region 1 o23_4 false
noncomputable def o23_7 : Array Oper := opsC (atC (bodyC Tryd.f23) [1, 0, 1, 0, 0])
noncomputable def c23_7 : Code := .region 2 o23_7 false
noncomputable def c23_8 : Code := .ret
noncomputable def c23_6 : Code := .seq c23_7 c23_8
noncomputable def c23_9 : Code := .skip
noncomputable def c23_5 : Code := .cond (opdC (atC (bodyC Tryd.f23) [1, 0, 1])) c23_6 c23_9
noncomputable def c23_3 : Code := .seq c23_4 c23_5
noncomputable def o23_11 : Array Oper := opsC (atC (bodyC Tryd.f23) [1, 1, 0])
noncomputable def c23_11 : Code := .region 3 o23_11 false
noncomputable def o23_13 : Array Oper := opsC (atC (bodyC Tryd.f23) [1, 1, 1, 0])
noncomputable def c23_13 : Code := .region 4 o23_13 false
noncomputable def c23_14 : Code := .ret
noncomputable def c23_12 : Code := .seq c23_13 c23_14
noncomputable def c23_10 : Code := .seq c23_11 c23_12
noncomputable def c23_2 : Code := .seq c23_3 c23_10
noncomputable def c23_0 : Code := .seq c23_1 c23_2
noncomputable def F23 : Func := { Tryd.f23 with body := some c23_0 }
theorem F23_eq : Tryd.f23 = F23 := rfl
theorem at23 : Tryd.prog.funcs[23]? = some F23 := by rw [← F23_eq]; exact Tryd.func23
noncomputable def o24_1 : Array Oper := opsC (atC (bodyC Tryd.f24) [0])
noncomputable def c24_1 : Code := .region 0 o24_1 false
noncomputable def o24_4 : Array Oper := opsC (atC (bodyC Tryd.f24) [1, 0, 0])
noncomputable def c24_4 : Code := .region 1 o24_4 false
noncomputable def o24_6 : Array Oper := opsC (atC (bodyC Tryd.f24) [1, 0, 1, 0])
noncomputable def c24_6 : Code := .region 2 o24_6 false
noncomputable def o24_8 : Array Oper := opsC (atC (bodyC Tryd.f24) [1, 0, 1, 1, 0])
noncomputable def c24_8 : Code := .region 3 o24_8 false
noncomputable def c24_10 : Code := .label 0
noncomputable def o24_15 : Array Oper := opsC (atC (bodyC Tryd.f24) [1, 0, 1, 1, 1, 1, 0, 0, 0, 0])
noncomputable def c24_15 : Code := .region 4 o24_15 false
noncomputable def o24_18 : Array Oper := opsC (atC (bodyC Tryd.f24) [1, 0, 1, 1, 1, 1, 0, 0, 0, 1, 0, 0])
noncomputable def c24_18 : Code := .region 5 o24_18 false
noncomputable def o24_21 : Array Oper := opsC (atC (bodyC Tryd.f24) [1, 0, 1, 1, 1, 1, 0, 0, 0, 1, 0, 1, 0, 0])
noncomputable def c24_21 : Code := .region 6 o24_21 false
noncomputable def c24_22 : Code := .ret
noncomputable def c24_20 : Code := .seq c24_21 c24_22
noncomputable def c24_23 : Code := .skip
noncomputable def c24_19 : Code := .cond (opdC (atC (bodyC Tryd.f24) [1, 0, 1, 1, 1, 1, 0, 0, 0, 1, 0, 1])) c24_20 c24_23
noncomputable def c24_17 : Code := .seq c24_18 c24_19
noncomputable def o24_26 : Array Oper := opsC (atC (bodyC Tryd.f24) [1, 0, 1, 1, 1, 1, 0, 0, 0, 1, 1, 0, 0])
noncomputable def c24_26 : Code := .region 7 o24_26 false
noncomputable def o24_39 : Array Oper := opsC (atC (bodyC Tryd.f24) [1, 0, 1, 1, 1, 1, 0, 0, 0, 1, 1, 0, 1, 0, 0, 0, 0, 0, 0, 0, 0, 0, 0, 0, 0])
noncomputable def c24_39 : Code := .region 8 o24_39 false
noncomputable def c24_41 : Code := .exit 3
noncomputable def c24_42 : Code := .skip
noncomputable def c24_40 : Code := .cond (opdC (atC (bodyC Tryd.f24) [1, 0, 1, 1, 1, 1, 0, 0, 0, 1, 1, 0, 1, 0, 0, 0, 0, 0, 0, 0, 0, 0, 0, 0, 1])) c24_41 c24_42
noncomputable def c24_38 : Code := .seq c24_39 c24_40
noncomputable def o24_45 : Array Oper := opsC (atC (bodyC Tryd.f24) [1, 0, 1, 1, 1, 1, 0, 0, 0, 1, 1, 0, 1, 0, 0, 0, 0, 0, 0, 0, 0, 0, 0, 1, 0, 0])
noncomputable def c24_45 : Code := .region 9 o24_45 false
noncomputable def c24_47 : Code := .exit 4
noncomputable def c24_48 : Code := .skip
noncomputable def c24_46 : Code := .cond (opdC (atC (bodyC Tryd.f24) [1, 0, 1, 1, 1, 1, 0, 0, 0, 1, 1, 0, 1, 0, 0, 0, 0, 0, 0, 0, 0, 0, 0, 1, 0, 1])) c24_47 c24_48
noncomputable def c24_44 : Code := .seq c24_45 c24_46
noncomputable def o24_51 : Array Oper := opsC (atC (bodyC Tryd.f24) [1, 0, 1, 1, 1, 1, 0, 0, 0, 1, 1, 0, 1, 0, 0, 0, 0, 0, 0, 0, 0, 0, 0, 1, 1, 0, 0])
noncomputable def c24_51 : Code := .region 10 o24_51 false
noncomputable def c24_53 : Code := .exit 5
noncomputable def c24_54 : Code := .skip
noncomputable def c24_52 : Code := .cond (opdC (atC (bodyC Tryd.f24) [1, 0, 1, 1, 1, 1, 0, 0, 0, 1, 1, 0, 1, 0, 0, 0, 0, 0, 0, 0, 0, 0, 0, 1, 1, 0, 1])) c24_53 c24_54
noncomputable def c24_50 : Code := .seq c24_51 c24_52
noncomputable def o24_56 : Array Oper := opsC (atC (bodyC Tryd.f24) [1, 0, 1, 1, 1, 1, 0, 0, 0, 1, 1, 0, 1, 0, 0, 0, 0, 0, 0, 0, 0, 0, 0, 1, 1, 1, 0])
noncomputable def c24_56 : Code := .region 11 o24_56 false
noncomputable def c24_58 : Code := .exit 6
noncomputable def c24_59 : Code := .skip
noncomputable def c24_57 : Code := .cond (opdC (atC (bodyC Tryd.f24) [1, 0, 1, 1, 1, 1, 0, 0, 0, 1, 1, 0, 1, 0, 0, 0, 0, 0, 0, 0, 0, 0, 0, 1, 1, 1, 1])) c24_58 c24_59
noncomputable def c24_55 : Code := .seq c24_56 c24_57
noncomputable def c24_49 : Code := .seq c24_50 c24_55
noncomputable def c24_43 : Code := .seq c24_44 c24_49
noncomputable def c24_37 : Code := .seq c24_38 c24_43
noncomputable def c24_60 : Code := .exit 2
noncomputable def c24_36 : Code := .seq c24_37 c24_60
noncomputable def c24_35 : Code := .block 3 c24_36
noncomputable def o24_64 : Array Oper := opsC (atC (bodyC Tryd.f24) [1, 0, 1, 1, 1, 1, 0, 0, 0, 1, 1, 0, 1, 0, 0, 0, 0, 0, 0, 0, 1, 0, 0, 0])
noncomputable def c24_64 : Code := .region 12 o24_64 false
noncomputable def o24_67 : Array Oper := opsC (atC (bodyC Tryd.f24) [1, 0, 1, 1, 1, 1, 0, 0, 0, 1, 1, 0, 1, 0, 0, 0, 0, 0, 0, 0, 1, 0, 0, 1, 0, 0])
noncomputable def c24_67 : Code := .region 13 o24_67 false
noncomputable def c24_68 : Code := .ret
noncomputable def c24_66 : Code := .seq c24_67 c24_68
noncomputable def c24_69 : Code := .skip
noncomputable def c24_65 : Code := .cond (opdC (atC (bodyC Tryd.f24) [1, 0, 1, 1, 1, 1, 0, 0, 0, 1, 1, 0, 1, 0, 0, 0, 0, 0, 0, 0, 1, 0, 0, 1])) c24_66 c24_69
noncomputable def c24_63 : Code := .seq c24_64 c24_65
noncomputable def o24_71 : Array Oper := opsC (atC (bodyC Tryd.f24) [1, 0, 1, 1, 1, 1, 0, 0, 0, 1, 1, 0, 1, 0, 0, 0, 0, 0, 0, 0, 1, 0, 1, 0])
noncomputable def c24_71 : Code := .region 14 o24_71 false
noncomputable def c24_72 : Code := .exit 1
noncomputable def c24_70 : Code := .seq c24_71 c24_72
noncomputable def c24_62 : Code := .seq c24_63 c24_70
noncomputable def c24_73 : Code := .exit 2
noncomputable def c24_61 : Code := .seq c24_62 c24_73
noncomputable def c24_34 : Code := .seq c24_35 c24_61
noncomputable def c24_33 : Code := .block 4 c24_34
noncomputable def o24_77 : Array Oper := opsC (atC (bodyC Tryd.f24) [1, 0, 1, 1, 1, 1, 0, 0, 0, 1, 1, 0, 1, 0, 0, 0, 0, 0, 1, 0, 0, 0])
noncomputable def c24_77 : Code := .region 15 o24_77 false
noncomputable def o24_80 : Array Oper := opsC (atC (bodyC Tryd.f24) [1, 0, 1, 1, 1, 1, 0, 0, 0, 1, 1, 0, 1, 0, 0, 0, 0, 0, 1, 0, 0, 1, 0, 0])
noncomputable def c24_80 : Code := .region 16 o24_80 false
noncomputable def c24_81 : Code := .ret
noncomputable def c24_79 : Code := .seq c24_80 c24_81
noncomputable def c24_82 : Code := .skip
noncomputable def c24_78 : Code := .cond (opdC (atC (bodyC Tryd.f24) [1, 0, 1, 1, 1, 1, 0, 0, 0, 1, 1, 0, 1, 0, 0, 0, 0, 0, 1, 0, 0, 1])) c24_79 c24_82
noncomputable def c24_76 : Code := .seq c24_77 c24_78
noncomputable def o24_84 : Array Oper := opsC (atC (bodyC Tryd.f24) [1, 0, 1, 1, 1, 1, 0, 0, 0, 1, 1, 0, 1, 0, 0, 0, 0, 0, 1, 0, 1, 0])
noncomputable def c24_84 : Code := .region 17 o24_84 false
noncomputable def c24_85 : Code := .exit 1
noncomputable def c24_83 : Code := .seq c24_84 c24_85
noncomputable def c24_75 : Code := .seq c24_76 c24_83
noncomputable def c24_86 : Code := .exit 2
noncomputable def c24_74 : Code := .seq c24_75 c24_86
noncomputable def c24_32 : Code := .seq c24_33 c24_74
noncomputable def c24_31 : Code := .block 5 c24_32
noncomputable def o24_87 : Array Oper := opsC (atC (bodyC Tryd.f24) [1, 0, 1, 1, 1, 1, 0, 0, 0, 1, 1, 0, 1, 0, 0, 0, 1])
noncomputable def c24_87 : Code := .region 18 o24_87 false
noncomputable def c24_30 : Code := .seq c24_31 c24_87
noncomputable def c24_29 : Code := .block 6 c24_30
noncomputable def o24_90 : Array Oper := opsC (atC (bodyC Tryd.f24) [1, 0, 1, 1, 1, 1, 0, 0, 0, 1, 1, 0, 1, 0, 1, 0, 0])
noncomputable def c24_90 : Code := .region 19 o24_90 false
noncomputable def c24_91 : Code := .ret
noncomputable def c24_89 : Code := .seq c24_90 c24_91
noncomputable def c24_92 : Code := .exit 2
noncomputable def c24_88 : Code := .seq c24_89 c24_92
noncomputable def c24_28 : Code := .seq c24_29 c24_88
noncomputable def c24_27 : Code := .block 2 c24_28
noncomputable def c24_25 : Code := .seq c24_26 c24_27
noncomputable def o24_94 : Array Oper := opsC (atC (bodyC Tryd.f24) [1, 0, 1, 1, 1, 1, 0, 0, 0, 1, 1, 1, 0])
noncomputable def c24_94 : Code := .region 20 o24_94 false
noncomputable def c24_95 : Code := .ret
noncomputable def c24_93 : Code := .seq c24_94 c24_95
noncomputable def c24_24 : Code := .seq c24_25 c24_93
noncomputable def c24_16 : Code := .seq c24_17 c24_24
noncomputable def c24_14 : Code := .seq c24_15 c24_16
noncomputable def c24_13 : Code := .block 1 c24_14
noncomputable def c24_12 : Code := .loop c24_13
noncomputable def c24_11 : Code := .block 0 c24_12
noncomputable def c24_9 : Code := .seq c24_10 c24_11
noncomputable def c24_7 : Code := .seq c24_8 c24_9
noncomputable def c24_5 : Code := .seq c24_6 c24_7
noncomputable def c24_3 : Code := .seq c24_4 c24_5
noncomputable def c24_2 : Code := .scope c24_3
noncomputable def c24_0 : Code := .seq c24_1 c24_2
noncomputable def F24 : Func := { Tryd.f24 with body := some c24_0 }
theorem F24_eq : Tryd.f24 = F24 := rfl
theorem at24 : Tryd.prog.funcs[24]? = some F24 := by rw [← F24_eq]; exact Tryd.func24
noncomputable def o25_1 : Array Oper := opsC (atC (bodyC Tryd.f25) [0])
noncomputable def c25_1 : Code := .region 0 o25_1 false
noncomputable def o25_3 : Array Oper := opsC (atC (bodyC Tryd.f25) [1, 0])
noncomputable def c25_3 : Code := .region 1 o25_3 false
noncomputable def o25_5 : Array Oper := opsC (atC (bodyC Tryd.f25) [1, 1, 0])
noncomputable def c25_5 : Code := .region 2 o25_5 false
noncomputable def o25_10 : Array Oper := opsC (atC (bodyC Tryd.f25) [1, 1, 1, 0, 0, 0, 0])
noncomputable def c25_10 : Code := .region 3 o25_10 false
noncomputable def o25_13 : Array Oper := opsC (atC (bodyC Tryd.f25) [1, 1, 1, 0, 0, 0, 1, 0, 0])
noncomputable def c25_13 : Code := .region 4 o25_13 false
noncomputable def o25_17 : Array Oper := opsC (atC (bodyC Tryd.f25) [1, 1, 1, 0, 0, 0, 1, 0, 1, 0, 0, 0])
noncomputable def c25_17 : Code := .region 5 o25_17 false
noncomputable def o25_20 : Array Oper := opsC (atC (bodyC Tryd.f25) [1, 1, 1, 0, 0, 0, 1, 0, 1, 0, 0, 1, 0, 0])
noncomputable def c25_20 : Code := .region 6 o25_20 false
noncomputable def c25_21 : Code := .ret
noncomputable def c25_19 : Code := .seq c25_20 c25_21
noncomputable def c25_22 : Code := .skip
noncomputable def c25_18 : Code := .cond (opdC (atC (bodyC Tryd.f25) [1, 1, 1, 0, 0, 0, 1, 0, 1, 0, 0, 1])) c25_19 c25_22
noncomputable def c25_16 : Code := .seq c25_17 c25_18
noncomputable def o25_25 : Array Oper := opsC (atC (bodyC Tryd.f25) [1, 1, 1, 0, 0, 0, 1, 0, 1, 0, 1, 0, 0])
noncomputable def c25_25 : Code := .region 7 o25_25 false
noncomputable def o25_30 : Array Oper := opsC (atC (bodyC Tryd.f25) [1, 1, 1, 0, 0, 0, 1, 0, 1, 0, 1, 0, 1, 0, 0, 0, 0])
noncomputable def c25_30 : Code := .region 8 o25_30 false
noncomputable def c25_32 : Code := .skip
noncomputable def c25_33 : Code := .exit 2
noncomputable def c25_31 : Code := .cond (opdC (atC (bodyC Tryd.f25) [1, 1, 1, 0, 0, 0, 1, 0, 1, 0, 1, 0, 1, 0, 0, 0, 1])) c25_32 c25_33
noncomputable def c25_29 : Code := .seq c25_30 c25_31
noncomputable def o25_37 : Array Oper := opsC (atC (bodyC Tryd.f25) [1, 1, 1, 0, 0, 0, 1, 0, 1, 0, 1, 0, 1, 0, 0, 1, 0, 0, 0])
noncomputable def c25_37 : Code := .region 10 o25_37 false
noncomputable def o25_40 : Array Oper := opsC (atC (bodyC Tryd.f25) [1, 1, 1, 0, 0, 0, 1, 0, 1, 0, 1, 0, 1, 0, 0, 1, 0, 0, 1, 0, 0])
noncomputable def c25_40 : Code := .region 11 o25_40 false
noncomputable def c25_41 : Code := .ret
noncomputable def c25_39 : Code := .seq c25_40 c25_41
noncomputable def c25_42 : Code := .skip
noncomputable def c25_38 : Code := .cond (opdC (atC (bodyC Tryd.f25) [1, 1, 1, 0, 0, 0, 1, 0, 1, 0, 1, 0, 1, 0, 0, 1, 0, 0, 1])) c25_39 c25_42
noncomputable def c25_36 : Code := .seq c25_37 c25_38
noncomputable def c25_35 : Code := .block 3 c25_36
noncomputable def o25_43 : Array Oper := opsC (atC (bodyC Tryd.f25) [1, 1, 1, 0, 0, 0, 1, 0, 1, 0, 1, 0, 1, 0, 0, 1, 1])
noncomputable def c25_43 : Code := .region 9 o25_43 false
noncomputable def c25_34 : Code := .seq c25_35 c25_43
noncomputable def c25_28 : Code := .seq c25_29 c25_34
noncomputable def c25_27 : Code := .loop c25_28
noncomputable def c25_26 : Code := .block 2 c25_27
noncomputable def c25_24 : Code := .seq c25_25 c25_26
noncomputable def o25_45 : Array Oper := opsC (atC (bodyC Tryd.f25) [1, 1, 1, 0, 0, 0, 1, 0, 1, 0, 1, 1, 0])
noncomputable def c25_45 : Code := .region 12 o25_45 false
noncomputable def c25_46 : Code := .exit 1
noncomputable def c25_44 : Code := .seq c25_45 c25_46
noncomputable def c25_23 : Code := .seq c25_24 c25_44
noncomputable def c25_15 : Code := .seq c25_16 c25_23
noncomputable def c25_47 : Code := .skip
noncomputable def c25_14 : Code := .cond (opdC (atC (bodyC Tryd.f25) [1, 1, 1, 0, 0, 0, 1, 0, 1])) c25_15 c25_47
noncomputable def c25_12 : Code := .seq c25_13 c25_14
noncomputable def o25_50 : Array Oper := opsC (atC (bodyC Tryd.f25) [1, 1, 1, 0, 0, 0, 1, 1, 0, 0])
noncomputable def c25_50 : Code := .region 13 o25_50 false
noncomputable def o25_53 : Array Oper := opsC (atC (bodyC Tryd.f25) [1, 1, 1, 0, 0, 0, 1, 1, 0, 1, 0, 0])
noncomputable def c25_53 : Code := .region 14 o25_53 false
noncomputable def c25_54 : Code := .ret
noncomputable def c25_52 : Code := .seq c25_53 c25_54
noncomputable def c25_55 : Code := .skip
noncomputable def c25_51 : Code := .cond (opdC (atC (bodyC Tryd.f25) [1, 1, 1, 0, 0, 0, 1, 1, 0, 1])) c25_52 c25_55
noncomputable def c25_49 : Code := .seq c25_50 c25_51
noncomputable def o25_57 : Array Oper := opsC (atC (bodyC Tryd.f25) [1, 1, 1, 0, 0, 0, 1, 1, 1, 0])
noncomputable def c25_57 : Code := .region 15 o25_57 true
noncomputable def o25_59 : Array Oper := opsC (atC (bodyC Tryd.f25) [1, 1, 1, 0, 0, 0, 1, 1, 1, 1, 0])
noncomputable def c25_59 : Code := .region 16 o25_59 false
noncomputable def o25_62 : Array Oper := opsC (atC (bodyC Tryd.f25) [1, 1, 1, 0, 0, 0, 1, 1, 1, 1, 1, 0, 0])
noncomputable def c25_62 : Code := .region 17 o25_62 true
noncomputable def o25_65 : Array Oper := opsC (atC (bodyC Tryd.f25) [1, 1, 1, 0, 0, 0, 1, 1, 1, 1, 1, 0, 1, 0, 0])
noncomputable def c25_65 : Code := .region 18 o25_65 false
noncomputable def c25_66 : Code := .ret
noncomputable def c25_64 : Code := .seq c25_65 c25_66
noncomputable def c25_67 : Code := .skip
noncomputable def c25_63 : Code := .cond (opdC (atC (bodyC Tryd.f25) [1, 1, 1, 0, 0, 0, 1, 1, 1, 1, 1, 0, 1])) c25_64 c25_67
noncomputable def c25_61 : Code := .seq c25_62 c25_63
noncomputable def o25_70 : Array Oper := opsC (atC (bodyC Tryd.f25) [1, 1, 1, 0, 0, 0, 1, 1, 1, 1, 1, 1, 0, 0])
noncomputable def c25_70 : Code := .region 19 o25_70 false
noncomputable def o25_73 : Array Oper := opsC (atC (bodyC Tryd.f25) [1, 1, 1, 0, 0, 0, 1, 1, 1, 1, 1, 1, 0, 1, 0, 0])
noncomputable def c25_73 : Code := .region 20 o25_73 false
noncomputable def c25_74 : Code := .ret
noncomputable def c25_72 : Code := .seq c25_73 c25_74
noncomputable def c25_75 : Code := .skip
noncomputable def c25_71 : Code := .cond (opdC (atC (bodyC Tryd.f25) [1, 1, 1, 0, 0, 0, 1, 1, 1, 1, 1, 1, 0, 1])) c25_72 c25_75
noncomputable def c25_69 : Code := .seq c25_70 c25_71
noncomputable def o25_77 : Array Oper := opsC (atC (bodyC Tryd.f25) [1, 1, 1, 0, 0, 0, 1, 1, 1, 1, 1, 1, 1, 0])
noncomputable def c25_77 : Code := .region 21 o25_77 false
noncomputable def o25_80 : Array Oper := opsC (atC (bodyC Tryd.f25) [1, 1, 1, 0, 0, 0, 1, 1, 1, 1, 1, 1, 1, 1, 0, 0])
noncomputable def c25_80 : Code := .region 22 o25_80 false
noncomputable def o25_83 : Array Oper := opsC (atC (bodyC Tryd.f25) [1, 1, 1, 0, 0, 0, 1, 1, 1, 1, 1, 1, 1, 1, 0, 1, 0, 0])
noncomputable def c25_83 : Code := .region 23 o25_83 false
noncomputable def c25_84 : Code := .ret
noncomputable def c25_82 : Code := .seq c25_83 c25_84
noncomputable def c25_85 : Code := .skip
noncomputable def c25_81 : Code := .cond (opdC (atC (bodyC Tryd.f25) [1, 1, 1, 0, 0, 0, 1, 1, 1, 1, 1, 1, 1, 1, 0, 1])) c25_82 c25_85
noncomputable def c25_79 : Code := .seq c25_80 c25_81
noncomputable def o25_87 : Array Oper := opsC (atC (bodyC Tryd.f25) [1, 1, 1, 0, 0, 0, 1, 1, 1, 1, 1, 1, 1, 1, 1, 0])
noncomputable def c25_87 : Code := .region 24 o25_87 false
noncomputable def o25_90 : Array Oper := opsC (atC (bodyC Tryd.f25) [1, 1, 1, 0, 0, 0, 1, 1, 1, 1, 1, 1, 1, 1, 1, 1, 0, 0])
noncomputable def c25_90 : Code := .region 25 o25_90 false
noncomputable def o25_93 : Array Oper := opsC (atC (bodyC Tryd.f25) [1, 1, 1, 0, 0, 0, 1, 1, 1, 1, 1, 1, 1, 1, 1, 1, 0, 1, 0, 0])
noncomputable def c25_93 : Code := .region 26 o25_93 false
noncomputable def c25_94 : Code := .ret
noncomputable def c25_92 : Code := .seq c25_93 c25_94
noncomputable def c25_95 : Code := .skip
noncomputable def c25_91 : Code := .cond (opdC (atC (bodyC Tryd.f25) [1, 1, 1, 0, 0, 0, 1, 1, 1, 1, 1, 1, 1, 1, 1, 1, 0, 1])) c25_92 c25_95
noncomputable def c25_89 : Code := .seq c25_90 c25_91
noncomputable def o25_97 : Array Oper := opsC (atC (bodyC Tryd.f25) [1, 1, 1, 0, 0, 0, 1, 1, 1, 1, 1, 1, 1, 1, 1, 1, 1, 0])
noncomputable def c25_97 : Code := .region 27 o25_97 false
noncomputable def o25_99 : Array Oper := opsC (atC (bodyC Tryd.f25) [1, 1, 1, 0, 0, 0, 1, 1, 1, 1, 1, 1, 1, 1, 1, 1, 1, 1, 0])
noncomputable def c25_99 : Code := .region 28 o25_99 false
noncomputable def o25_101 : Array Oper := opsC (atC (bodyC Tryd.f25) [1, 1, 1, 0, 0, 0, 1, 1, 1, 1, 1, 1, 1, 1, 1, 1, 1, 1, 1, 0])
noncomputable def c25_101 : Code := .region 29 o25_101 false
noncomputable def o25_104 : Array Oper := opsC (atC (bodyC Tryd.f25) [1, 1, 1, 0, 0, 0, 1, 1, 1, 1, 1, 1, 1, 1, 1, 1, 1, 1, 1, 1, 0, 0])
noncomputable def c25_104 : Code := .region 30 o25_104 false
noncomputable def c25_105 : Code := .ret
noncomputable def c25_103 : Code := .seq c25_104 c25_105
noncomputable def c25_106 : Code := .skip
noncomputable def c25_102 : Code := .cond (opdC (atC (bodyC Tryd.f25) [1, 1, 1, 0, 0, 0, 1, 1, 1, 1, 1, 1, 1, 1, 1, 1, 1, 1, 1, 1])) c25_103 c25_106
noncomputable def c25_100 : Code := .seq c25_101 c25_102
noncomputable def c25_98 : Code := .seq c25_99 c25_100
noncomputable def c25_96 : Code := .seq c25_97 c25_98
noncomputable def c25_88 : Code := .seq c25_89 c25_96
noncomputable def c25_86 : Code := .seq c25_87 c25_88
noncomputable def c25_78 : Code := .seq c25_79 c25_86
noncomputable def c25_76 : Code := .seq c25_77 c25_78
noncomputable def c25_68 : Code := .seq c25_69 c25_76
noncomputable def c25_60 : Code := .seq c25_61 c25_68
noncomputable def c25_58 : Code := .seq c25_59 c25_60
noncomputable def c25_56 : Code := .seq c25_57 c25_58
noncomputable def c25_48 : Code := .seq c25_49 c25_56
noncomputable def c25_11 : Code := .seq c25_12 c25_48
noncomputable def c25_9 : Code := .seq c25_10 c25_11
noncomputable def c25_8 : Code := .block 1 c25_9
noncomputable def c25_7 : Code := .loop c25_8
noncomputable def c25_6 : Code := .block 0 c25_7
noncomputable def c25_4 : Code := .seq c25_5 c25_6
noncomputable def c25_2 : Code := .seq c25_3 c25_4
noncomputable def c25_0 : Code := .seq c25_1 c25_2
noncomputable def F25 : Func := { Tryd.f25 with body := some c25_0 }
theorem F25_eq : Tryd.f25 = F25 := rfl
theorem at25 : Tryd.prog.funcs[25]? = some F25 := by rw [← F25_eq]; exact Tryd.func25
noncomputable def o26_1 : Array Oper := opsC (atC (bodyC Tryd.f26) [0])
noncomputable def c26_1 : Code := .region 0 o26_1 false
noncomputable def o26_3 : Array Oper := opsC (atC (bodyC Tryd.f26) [1, 0])
noncomputable def c26_3 : Code := .region 1 o26_3 false
noncomputable def c26_4 : Code := .ret
noncomputable def c26_2 : Code := .seq c26_3 c26_4
noncomputable def c26_0 : Code := .seq c26_1 c26_2
noncomputable def F26 : Func := { Tryd.f26 with body := some c26_0 }
theorem F26_eq : Tryd.f26 = F26 := rfl
theorem at26 : Tryd.prog.funcs[26]? = some F26 := by rw [← F26_eq]; exact Tryd.func26
noncomputable def o27_1 : Array Oper := opsC (atC (bodyC Tryd.f27) [0])
noncomputable def c27_1 : Code := .region 0 o27_1 false
noncomputable def o27_3 : Array Oper := opsC (atC (bodyC Tryd.f27) [1, 0])
noncomputable def c27_3 : Code := .region 1 o27_3 false
noncomputable def o27_5 : Array Oper := opsC (atC (bodyC Tryd.f27) [1, 1, 0])
noncomputable def c27_5 : Code := .region 2 o27_5 false
noncomputable def c27_6 : Code := .ret
noncomputable def c27_4 : Code := .seq c27_5 c27_6
noncomputable def c27_2 : Code := .seq c27_3 c27_4
noncomputable def c27_0 : Code := .seq c27_1 c27_2
noncomputable def F27 : Func := { Tryd.f27 with body := some c27_0 }
theorem F27_eq : Tryd.f27 = F27 := rfl
theorem at27 : Tryd.prog.funcs[27]? = some F27 := by rw [← F27_eq]; exact Tryd.func27
noncomputable def o28_1 : Array Oper := opsC (atC (bodyC Tryd.f28) [0])
noncomputable def c28_1 : Code := .region 0 o28_1 false
noncomputable def o28_5 : Array Oper := opsC (atC (bodyC Tryd.f28) [1, 0, 0, 0])
noncomputable def c28_5 : Code := .region 1 o28_5 false
noncomputable def o28_8 : Array Oper := opsC (atC (bodyC Tryd.f28) [1, 0, 0, 1, 0, 0])
noncomputable def c28_8 : Code := .region 2 o28_8 false
noncomputable def c28_9 : Code := .ret
noncomputable def c28_7 : Code := .seq c28_8 c28_9
noncomputable def o28_11 : Array Oper := opsC (atC (bodyC Tryd.f28) [1, 0, 0, 1, 1, 0])
noncomputable def c28_11 : Code := .region 3 o28_11 false
noncomputable def o28_14 : Array Oper := opsC (atC (bodyC Tryd.f28) [1, 0, 0, 1, 1, 1, 0, 0])
noncomputable def c28_14 : Code := .region 4 o28_14 false
noncomputable def c28_15 : Code := .ret
noncomputable def c28_13 : Code := .seq c28_14 c28_15
noncomputable def o28_17 : Array Oper := opsC (atC (bodyC Tryd.f28) [1, 0, 0, 1, 1, 1, 1, 0])
noncomputable def c28_17 : Code := .region 5 o28_17 false
noncomputable def o28_20 : Array Oper := opsC (atC (bodyC Tryd.f28) [1, 0, 0, 1, 1, 1, 1, 1, 0, 0])
noncomputable def c28_20 : Code := .region 6 o28_20 false
noncomputable def c28_21 : Code := .ret
noncomputable def c28_19 : Code := .seq c28_20 c28_21
noncomputable def c28_22 : Code := .skip
noncomputable def c28_18 : Code := .cond (opdC (atC (bodyC Tryd.f28) [1, 0, 0, 1, 1, 1, 1, 1])) c28_19 c28_22
noncomputable def c28_16 : Code := .seq c28_17 c28_18
noncomputable def c28_12 : Code := .cond (opdC (atC (bodyC Tryd.f28) [1, 0, 0, 1, 1, 1])) c28_13 c28_16
noncomputable def c28_10 : Code := .seq c28_11 c28_12
noncomputable def c28_6 : Code := .cond (opdC (atC (bodyC Tryd.f28) [1, 0, 0, 1])) c28_7 c28_10
noncomputable def c28_4 : Code := .seq c28_5 c28_6
noncomputable def c28_3 : Code := .block 0 c28_4
noncomputable def o28_24 : Array Oper := opsC (atC (bodyC Tryd.f28) [1, 1, 0])
noncomputable def c28_24 : Code := .region 7 o28_24 false
noncomputable def c28_25 : Code := .ret
noncomputable def c28_23 : Code := .seq c28_24 c28_25
noncomputable def c28_2 : Code := .seq c28_3 c28_23
noncomputable def c28_0 : Code := .seq c28_1 c28_2
noncomputable def F28 : Func := { Tryd.f28 with body := some c28_0 }
theorem F28_eq : Tryd.f28 = F28 := rfl
theorem at28 : Tryd.prog.funcs[28]? = some F28 := by rw [← F28_eq]; exact Tryd.func28
noncomputable def o29_1 : Array Oper := opsC (atC (bodyC Tryd.f29) [0])
noncomputable def c29_1 : Code := .region 0 o29_1 false
noncomputable def o29_3 : Array Oper := opsC (atC (bodyC Tryd.f29) [1, 0])
noncomputable def c29_3 : Code := .region 1 o29_3 false
noncomputable def o29_5 : Array Oper := opsC (atC (bodyC Tryd.f29) [1, 1, 0])
noncomputable def c29_5 : Code := .region 2 o29_5 false
noncomputable def o29_7 : Array Oper := opsC (atC (bodyC Tryd.f29) [1, 1, 1, 0])
noncomputable def c29_7 : Code := .region 3 o29_7 false
noncomputable def c29_8 : Code := .ret
noncomputable def c29_6 : Code := .seq c29_7 c29_8
noncomputable def c29_4 : Code := .seq c29_5 c29_6
noncomputable def c29_2 : Code := .seq c29_3 c29_4
noncomputable def c29_0 : Code := .seq c29_1 c29_2
noncomputable def F29 : Func := { Tryd.f29 with body := some c29_0 }
theorem F29_eq : Tryd.f29 = F29 := rfl
theorem at29 : Tryd.prog.funcs[29]? = some F29 := by rw [← F29_eq]; exact Tryd.func29
noncomputable def o30_1 : Array Oper := opsC (atC (bodyC Tryd.f30) [0])
noncomputable def c30_1 : Code := .region 0 o30_1 false
noncomputable def o30_3 : Array Oper := opsC (atC (bodyC Tryd.f30) [1, 0])
noncomputable def c30_3 : Code := .region 1 o30_3 false
noncomputable def o30_5 : Array Oper := opsC (atC (bodyC Tryd.f30) [1, 1, 0])
noncomputable def c30_5 : Code := .region 2 o30_5 false
noncomputable def c30_6 : Code := .ret
noncomputable def c30_4 : Code := .seq c30_5 c30_6
noncomputable def c30_2 : Code := .seq c30_3 c30_4
noncomputable def c30_0 : Code := .seq c30_1 c30_2
noncomputable def F30 : Func := { Tryd.f30 with body := some c30_0 }
theorem F30_eq : Tryd.f30 = F30 := rfl
theorem at30 : Tryd.prog.funcs[30]? = some F30 := by rw [← F30_eq]; exact Tryd.func30
noncomputable def o31_1 : Array Oper := opsC (atC (bodyC Tryd.f31) [0])
noncomputable def c31_1 : Code := .region 0 o31_1 false
noncomputable def o31_4 : Array Oper := opsC (atC (bodyC Tryd.f31) [1, 0, 0])
noncomputable def c31_4 : Code := .region 1 o31_4 false
noncomputable def o31_6 : Array Oper := opsC (atC (bodyC Tryd.f31) [1, 0, 1, 0])
noncomputable def c31_6 : Code := .region 2 o31_6 false
noncomputable def o31_9 : Array Oper := opsC (atC (bodyC Tryd.f31) [1, 0, 1, 1, 0, 0])
noncomputable def c31_9 : Code := .region 3 o31_9 false
noncomputable def o31_12 : Array Oper := opsC (atC (bodyC Tryd.f31) [1, 0, 1, 1, 0, 1, 0, 0])
noncomputable def c31_12 : Code := .region 4 o31_12 false
noncomputable def o31_15 : Array Oper := opsC (atC (bodyC Tryd.f31) [1, 0, 1, 1, 0, 1, 0, 1, 0, 0])
noncomputable def c31_15 : Code := .region 5 o31_15 false
noncomputable def c31_16 : Code := .ret
noncomputable def c31_14 : Code := .seq c31_15 c31_16
noncomputable def c31_17 : Code := .skip
noncomputable def c31_13 : Code := .cond (opdC (atC (bodyC Tryd.f31) [1, 0, 1, 1, 0, 1, 0, 1])) c31_14 c31_17
noncomputable def c31_11 : Code := .seq c31_12 c31_13
noncomputable def o31_18 : Array Oper := opsC (atC (bodyC Tryd.f31) [1, 0, 1, 1, 0, 1, 1])
noncomputable def c31_18 : Code := .region 6 o31_18 false
noncomputable def c31_10 : Code := .seq c31_11 c31_18
noncomputable def c31_8 : Code := .seq c31_9 c31_10
noncomputable def c31_19 : Code := .skip
noncomputable def c31_7 : Code := .cond (opdC (atC (bodyC Tryd.f31) [1, 0, 1, 1])) c31_8 c31_19
noncomputable def c31_5 : Code := .seq c31_6 c31_7
noncomputable def c31_3 : Code := .seq c31_4 c31_5
noncomputable def o31_22 : Array Oper := opsC (atC (bodyC Tryd.f31) [1, 1, 0, 0])
noncomputable def c31_22 : Code := .region 7 o31_22 false
noncomputable def o31_25 : Array Oper := opsC (atC (bodyC Tryd.f31) [1, 1, 0, 1, 0, 0])
noncomputable def c31_25 : Code := .region 8 o31_25 false
noncomputable def c31_26 : Code := .ret
noncomputable def c31_24 : Code := .seq c31_25 c31_26
noncomputable def c31_27 : Code := .skip
noncomputable def c31_23 : Code := .cond (opdC (atC (bodyC Tryd.f31) [1, 1, 0, 1])) c31_24 c31_27
noncomputable def c31_21 : Code := .seq c31_22 c31_23
noncomputable def o31_29 : Array Oper := opsC (atC (bodyC Tryd.f31) [1, 1, 1, 0])
noncomputable def c31_29 : Code := .region 9 o31_29 false
noncomputable def o31_31 : Array Oper := opsC (atC (bodyC Tryd.f31) [1, 1, 1, 1, 0])
noncomputable def c31_31 : Code := .region 10 o31_31 true
noncomputable def o31_34 : Array Oper := opsC (atC (bodyC Tryd.f31) [1, 1, 1, 1, 1, 0, 0])
noncomputable def c31_34 : Code := .region 11 o31_34 false
noncomputable def o31_37 : Array Oper := opsC (atC (bodyC Tryd.f31) [1, 1, 1, 1, 1, 0, 1, 0, 0])
noncomputable def c31_37 : Code := .region 12 o31_37 false
noncomputable def c31_38 : Code := .ret
noncomputable def c31_36 : Code := .seq c31_37 c31_38
noncomputable def c31_39 : Code := .skip
noncomputable def c31_35 : Code := .cond (opdC (atC (bodyC Tryd.f31) [1, 1, 1, 1, 1, 0, 1])) c31_36 c31_39
noncomputable def c31_33 : Code := .seq c31_34 c31_35
noncomputable def o31_41 : Array Oper := opsC (atC (bodyC Tryd.f31) [1, 1, 1, 1, 1, 1, 0])
noncomputable def c31_41 : Code := .region 13 o31_41 false
noncomputable def o31_44 : Array Oper := opsC (atC (bodyC Tryd.f31) [1, 1, 1, 1, 1, 1, 1, 0, 0])
noncomputable def c31_44 : Code := .region 14 o31_44 false
noncomputable def o31_47 : Array Oper := opsC (atC (bodyC Tryd.f31) [1, 1, 1, 1, 1, 1, 1, 0, 1, 0, 0])
noncomputable def c31_47 : Code := .region 15 o31_47 false
noncomputable def c31_48 : Code := .ret
noncomputable def c31_46 : Code := .seq c31_47 c31_48
noncomputable def c31_49 : Code := .skip
noncomputable def c31_45 : Code := .cond (opdC (atC (bodyC Tryd.f31) [1, 1, 1, 1, 1, 1, 1, 0, 1])) c31_46 c31_49
noncomputable def c31_43 : Code := .seq c31_44 c31_45
noncomputable def o31_51 : Array Oper := opsC (atC (bodyC Tryd.f31) [1, 1, 1, 1, 1, 1, 1, 1, 0])
noncomputable def c31_51 : Code := .region 16 o31_51 true
noncomputable def c31_52 : Code := .ret
noncomputable def c31_50 : Code := .seq c31_51 c31_52
noncomputable def c31_42 : Code := .seq c31_43 c31_50
noncomputable def c31_40 : Code := .seq c31_41 c31_42
noncomputable def c31_32 : Code := .seq c31_33 c31_40
noncomputable def c31_30 : Code := .seq c31_31 c31_32
noncomputable def c31_28 : Code := .seq c31_29 c31_30
noncomputable def c31_20 : Code := .seq c31_21 c31_28
noncomputable def c31_2 : Code := .seq c31_3 c31_20
noncomputable def c31_0 : Code := .seq c31_1 c31_2
noncomputable def F31 : Func := { Tryd.f31 with body := some c31_0 }
theorem F31_eq : Tryd.f31 = F31 := rfl
theorem at31 : Tryd.prog.funcs[31]? = some F31 := by rw [← F31_eq]; exact Tryd.func31
noncomputable def o32_1 : Array Oper := opsC (atC (bodyC Tryd.f32) [0])
noncomputable def c32_1 : Code := .region 0 o32_1 false
noncomputable def o32_3 : Array Oper := opsC (atC (bodyC Tryd.f32) [1, 0])
noncomputable def c32_3 : Code := .region 1 o32_3 false
noncomputable def o32_6 : Array Oper := opsC (atC (bodyC Tryd.f32) [1, 1, 0, 0])
noncomputable def c32_6 : Code := .region 2 o32_6 false
noncomputable def o32_11 : Array Oper := opsC (atC (bodyC Tryd.f32) [1, 1, 0, 1, 0, 0, 0, 0])
noncomputable def c32_11 : Code := .region 3 o32_11 false
noncomputable def c32_13 : Code := .skip
noncomputable def c32_14 : Code := .exit 0
noncomputable def c32_12 : Code := .cond (opdC (atC (bodyC Tryd.f32) [1, 1, 0, 1, 0, 0, 0, 1])) c32_13 c32_14
noncomputable def c32_10 : Code := .seq c32_11 c32_12
noncomputable def o32_17 : Array Oper := opsC (atC (bodyC Tryd.f32) [1, 1, 0, 1, 0, 0, 1, 0, 0])
noncomputable def c32_17 : Code := .region 5 o32_17 false
noncomputable def c32_16 : Code := .block 1 c32_17
noncomputable def o32_18 : Array Oper := opsC (atC (bodyC Tryd.f32) [1, 1, 0, 1, 0, 0, 1, 1])
noncomputable def c32_18 : Code := .region 4 o32_18 false
noncomputable def c32_15 : Code := .seq c32_16 c32_18
noncomputable def c32_9 : Code := .seq c32_10 c32_15
noncomputable def c32_8 : Code := .loop c32_9
noncomputable def c32_7 : Code := .block 0 c32_8
noncomputable def c32_5 : Code := .seq c32_6 c32_7
noncomputable def o32_20 : Array Oper := opsC (atC (bodyC Tryd.f32) [1, 1, 1, 0])
noncomputable def c32_20 : Code := .region 6 o32_20 false
noncomputable def c32_21 : Code := .ret
noncomputable def c32_19 : Code := .seq c32_20 c32_21
noncomputable def c32_4 : Code := .seq c32_5 c32_19
noncomputable def c32_2 : Code := .seq c32_3 c32_4
noncomputable def c32_0 : Code := .seq c32_1 c32_2
noncomputable def F32 : Func := { Tryd.f32 with body := some c32_0 }
theorem F32_eq : Tryd.f32 = F32 := rfl
theorem at32 : Tryd.prog.funcs[32]? = some F32 := by rw [← F32_eq]; exact Tryd.func32
noncomputable def o33_1 : Array Oper := opsC (atC (bodyC Tryd.f33) [0])
noncomputable def c33_1 : Code := .region 0 o33_1 false
noncomputable def o33_3 : Array Oper := opsC (atC (bodyC Tryd.f33) [1, 0])
noncomputable def c33_3 : Code := .region 1 o33_3 false
noncomputable def o33_6 : Array Oper := opsC (atC (bodyC Tryd.f33) [1, 1, 0, 0])
noncomputable def c33_6 : Code := .region 2 o33_6 false
noncomputable def o33_11 : Array Oper := opsC (atC (bodyC Tryd.f33) [1, 1, 0, 1, 0, 0, 0, 0])
noncomputable def c33_11 : Code := .region 3 o33_11 false
noncomputable def c33_13 : Code := .skip
noncomputable def c33_14 : Code := .exit 0
noncomputable def c33_12 : Code := .cond (opdC (atC (bodyC Tryd.f33) [1, 1, 0, 1, 0, 0, 0, 1])) c33_13 c33_14
noncomputable def c33_10 : Code := .seq c33_11 c33_12
noncomputable def o33_18 : Array Oper := opsC (atC (bodyC Tryd.f33) [1, 1, 0, 1, 0, 0, 1, 0, 0, 0])
noncomputable def c33_18 : Code := .region 5 o33_18 false
noncomputable def o33_20 : Array Oper := opsC (atC (bodyC Tryd.f33) [1, 1, 0, 1, 0, 0, 1, 0, 0, 1, 0])
noncomputable def c33_20 : Code := .region 6 o33_20 false
noncomputable def o33_25 : Array Oper := opsC (atC (bodyC Tryd.f33) [1, 1, 0, 1, 0, 0, 1, 0, 0, 1, 1, 0, 0, 0, 0])
noncomputable def c33_25 : Code := .region 7 o33_25 false
noncomputable def c33_27 : Code := .skip
noncomputable def c33_28 : Code := .exit 2
noncomputable def c33_26 : Code := .cond (opdC (atC (bodyC Tryd.f33) [1, 1, 0, 1, 0, 0, 1, 0, 0, 1, 1, 0, 0, 0, 1])) c33_27 c33_28
noncomputable def c33_24 : Code := .seq c33_25 c33_26
noncomputable def o33_32 : Array Oper := opsC (atC (bodyC Tryd.f33) [1, 1, 0, 1, 0, 0, 1, 0, 0, 1, 1, 0, 0, 1, 0, 0, 0])
noncomputable def c33_32 : Code := .region 9 o33_32 false
noncomputable def o33_34 : Array Oper := opsC (atC (bodyC Tryd.f33) [1, 1, 0, 1, 0, 0, 1, 0, 0, 1, 1, 0, 0, 1, 0, 0, 1, 0])
noncomputable def c33_34 : Code := .region 10 o33_34 false
noncomputable def o33_35 : Array Oper := opsC (atC (bodyC Tryd.f33) [1, 1, 0, 1, 0, 0, 1, 0, 0, 1, 1, 0, 0, 1, 0, 0, 1, 1])
noncomputable def c33_35 : Code := .region 11 o33_35 false
noncomputable def c33_33 : Code := .cond (opdC (atC (bodyC Tryd.f33) [1, 1, 0, 1, 0, 0, 1, 0, 0, 1, 1, 0, 0, 1, 0, 0, 1])) c33_34 c33_35
noncomputable def c33_31 : Code := .seq c33_32 c33_33
noncomputable def c33_30 : Code := .block 3 c33_31
noncomputable def o33_36 : Array Oper := opsC (atC (bodyC Tryd.f33) [1, 1, 0, 1, 0, 0, 1, 0, 0, 1, 1, 0, 0, 1, 1])
noncomputable def c33_36 : Code := .region 8 o33_36 false
noncomputable def c33_29 : Code := .seq c33_30 c33_36
noncomputable def c33_23 : Code := .seq c33_24 c33_29
noncomputable def c33_22 : Code := .loop c33_23
noncomputable def c33_21 : Code := .block 2 c33_22
noncomputable def c33_19 : Code := .seq c33_20 c33_21
noncomputable def c33_17 : Code := .seq c33_18 c33_19
noncomputable def c33_16 : Code := .block 1 c33_17
noncomputable def o33_37 : Array Oper := opsC (atC (bodyC Tryd.f33) [1, 1, 0, 1, 0, 0, 1, 1])
noncomputable def c33_37 : Code := .region 4 o33_37 false
noncomputable def c33_15 : Code := .seq c33_16 c33_37
noncomputable def c33_9 : Code := .seq c33_10 c33_15
noncomputable def c33_8 : Code := .loop c33_9
noncomputable def c33_7 : Code := .block 0 c33_8
noncomputable def c33_5 : Code := .seq c33_6 c33_7
noncomputable def o33_39 : Array Oper := opsC (atC (bodyC Tryd.f33) [1, 1, 1, 0])
noncomputable def c33_39 : Code := .region 12 o33_39 false
noncomputable def c33_40 : Code := .ret
noncomputable def c33_38 : Code := .seq c33_39 c33_40
noncomputable def c33_4 : Code := .seq c33_5 c33_38
noncomputable def c33_2 : Code := .seq c33_3 c33_4
noncomputable def c33_0 : Code := .seq c33_1 c33_2
noncomputable def F33 : Func := { Tryd.f33 with body := some c33_0 }
theorem F33_eq : Tryd.f33 = F33 := rfl
theorem at33 : Tryd.prog.funcs[33]? = some F33 := by rw [← F33_eq]; exact Tryd.func33
noncomputable def o34_1 : Array Oper := opsC (atC (bodyC Tryd.f34) [0])
noncomputable def c34_1 : Code := .region 0 o34_1 false
noncomputable def o34_3 : Array Oper := opsC (atC (bodyC Tryd.f34) [1, 0])
noncomputable def c34_3 : Code := .region 1 o34_3 false
noncomputable def c34_4 : Code := .ret
noncomputable def c34_2 : Code := .seq c34_3 c34_4
noncomputable def c34_0 : Code := .seq c34_1 c34_2
noncomputable def F34 : Func := { Tryd.f34 with body := some c34_0 }
theorem F34_eq : Tryd.f34 = F34 := rfl
theorem at34 : Tryd.prog.funcs[34]? = some F34 := by rw [← F34_eq]; exact Tryd.func34
noncomputable def o35_1 : Array Oper := opsC (atC (bodyC Tryd.f35) [0])
noncomputable def c35_1 : Code := .region 0 o35_1 false
noncomputable def o35_3 : Array Oper := opsC (atC (bodyC Tryd.f35) [1, 0])
noncomputable def c35_3 : Code := .region 1 o35_3 false
noncomputable def o35_6 : Array Oper := opsC (atC (bodyC Tryd.f35) [1, 1, 0, 0])
noncomputable def c35_6 : Code := .region 2 o35_6 false
noncomputable def o35_10 : Array Oper := opsC (atC (bodyC Tryd.f35) [1, 1, 0, 1, 0, 0, 0])
noncomputable def c35_10 : Code := .region 3 o35_10 false
noncomputable def c35_13 : Code := .skip
noncomputable def c35_14 : Code := .exit 0
noncomputable def c35_12 : Code := .cond (opdC (atC (bodyC Tryd.f35) [1, 1, 0, 1, 0, 0, 1, 0])) c35_13 c35_14
noncomputable def o35_18 : Array Oper := opsC (atC (bodyC Tryd.f35) [1, 1, 0, 1, 0, 0, 1, 1, 0, 0, 0])
noncomputable def c35_18 : Code := .region 4 o35_18 false
noncomputable def o35_20 : Array Oper := opsC (atC (bodyC Tryd.f35) [1, 1, 0, 1, 0, 0, 1, 1, 0, 0, 1, 0])
noncomputable def c35_20 : Code := .region 5 o35_20 false
noncomputable def o35_22 : Array Oper := opsC (atC (bodyC Tryd.f35) [1, 1, 0, 1, 0, 0, 1, 1, 0, 0, 1, 1, 0])
noncomputable def c35_22 : Code := .region 6 o35_22 false
noncomputable def o35_26 : Array Oper := opsC (atC (bodyC Tryd.f35) [1, 1, 0, 1, 0, 0, 1, 1, 0, 0, 1, 1, 1, 0, 0, 0])
noncomputable def c35_26 : Code := .region 7 o35_26 false
noncomputable def c35_29 : Code := .skip
noncomputable def c35_30 : Code := .exit 2
noncomputable def c35_28 : Code := .cond (opdC (atC (bodyC Tryd.f35) [1, 1, 0, 1, 0, 0, 1, 1, 0, 0, 1, 1, 1, 0, 0, 1, 0])) c35_29 c35_30
noncomputable def o35_33 : Array Oper := opsC (atC (bodyC Tryd.f35) [1, 1, 0, 1, 0, 0, 1, 1, 0, 0, 1, 1, 1, 0, 0, 1, 1, 0, 0])
noncomputable def c35_33 : Code := .region 8 o35_33 false
noncomputable def c35_32 : Code := .block 3 c35_33
noncomputable def o35_34 : Array Oper := opsC (atC (bodyC Tryd.f35) [1, 1, 0, 1, 0, 0, 1, 1, 0, 0, 1, 1, 1, 0, 0, 1, 1, 1])
noncomputable def c35_34 : Code := .region 9 o35_34 false
noncomputable def c35_31 : Code := .seq c35_32 c35_34
noncomputable def c35_27 : Code := .seq c35_28 c35_31
noncomputable def c35_25 : Code := .seq c35_26 c35_27
noncomputable def c35_24 : Code := .loop c35_25
noncomputable def c35_23 : Code := .block 2 c35_24
noncomputable def c35_21 : Code := .seq c35_22 c35_23
noncomputable def c35_19 : Code := .seq c35_20 c35_21
noncomputable def c35_17 : Code := .seq c35_18 c35_19
noncomputable def c35_16 : Code := .block 1 c35_17
noncomputable def o35_35 : Array Oper := opsC (atC (bodyC Tryd.f35) [1, 1, 0, 1, 0, 0, 1, 1, 1])
noncomputable def c35_35 : Code := .region 10 o35_35 false
noncomputable def c35_15 : Code := .seq c35_16 c35_35
noncomputable def c35_11 : Code := .seq c35_12 c35_15
noncomputable def c35_9 : Code := .seq c35_10 c35_11
noncomputable def c35_8 : Code := .loop c35_9
noncomputable def c35_7 : Code := .block 0 c35_8
noncomputable def c35_5 : Code := .seq c35_6 c35_7
noncomputable def o35_37 : Array Oper := opsC (atC (bodyC Tryd.f35) [1, 1, 1, 0])
noncomputable def c35_37 : Code := .region 11 o35_37 false
noncomputable def c35_38 : Code := .ret
noncomputable def c35_36 : Code := .seq c35_37 c35_38
noncomputable def c35_4 : Code := .seq c35_5 c35_36
noncomputable def c35_2 : Code := .seq c35_3 c35_4
noncomputable def c35_0 : Code := .seq c35_1 c35_2
noncomputable def F35 : Func := { Tryd.f35 with body := some c35_0 }
theorem F35_eq : Tryd.f35 = F35 := rfl
theorem at35 : Tryd.prog.funcs[35]? = some F35 := by rw [← F35_eq]; exact Tryd.func35
noncomputable def o36_1 : Array Oper := opsC (atC (bodyC Tryd.f36) [0])
noncomputable def c36_1 : Code := .region 0 o36_1 false
noncomputable def o36_3 : Array Oper := opsC (atC (bodyC Tryd.f36) [1, 0])
noncomputable def c36_3 : Code := .region 1 o36_3 false
noncomputable def c36_4 : Code := .ret
noncomputable def c36_2 : Code := .seq c36_3 c36_4
noncomputable def c36_0 : Code := .seq c36_1 c36_2
noncomputable def F36 : Func := { Tryd.f36 with body := some c36_0 }
theorem F36_eq : Tryd.f36 = F36 := rfl
theorem at36 : Tryd.prog.funcs[36]? = some F36 := by rw [← F36_eq]; exact Tryd.func36
noncomputable def o37_1 : Array Oper := opsC (atC (bodyC Tryd.f37) [0])
noncomputable def c37_1 : Code := .region 0 o37_1 false
noncomputable def o37_4 : Array Oper := opsC (atC (bodyC Tryd.f37) [1, 0, 0])
noncomputable def c37_4 : Code := .region 1 o37_4 false
noncomputable def o37_7 : Array Oper := opsC (atC (bodyC Tryd.f37) [1, 0, 1, 0, 0])
noncomputable def c37_7 : Code := .region 2 o37_7 false
noncomputable def c37_8 : Code := .ret
noncomputable def c37_6 : Code := .seq c37_7 c37_8
noncomputable def c37_9 : Code := .skip
noncomputable def c37_5 : Code := .cond (opdC (atC (bodyC Tryd.f37) [1, 0, 1])) c37_6 c37_9
noncomputable def c37_3 : Code := .seq c37_4 c37_5
noncomputable def o37_12 : Array Oper := opsC (atC (bodyC Tryd.f37) [1, 1, 0, 0])
noncomputable def c37_12 : Code := .region 3 o37_12 false
noncomputable def o37_15 : Array Oper := opsC (atC (bodyC Tryd.f37) [1, 1, 0, 1, 0, 0])
noncomputable def c37_15 : Code := .region 4 o37_15 false
noncomputable def c37_16 : Code := .ret
noncomputable def c37_14 : Code := .seq c37_15 c37_16
noncomputable def c37_17 : Code := .skip
noncomputable def c37_13 : Code := .cond (opdC (atC (bodyC Tryd.f37) [1, 1, 0, 1])) c37_14 c37_17
noncomputable def c37_11 : Code := .seq c37_12 c37_13
noncomputable def o37_20 : Array Oper := opsC (atC (bodyC Tryd.f37) [1, 1, 1, 0, 0])
noncomputable def c37_20 : Code := .region 5 o37_20 false
noncomputable def o37_23 : Array Oper := opsC (atC (bodyC Tryd.f37) [1, 1, 1, 0, 1, 0, 0])
noncomputable def c37_23 : Code := .region 6 o37_23 true
noncomputable def c37_24 : Code := .ret
noncomputable def c37_22 : Code := .seq c37_23 c37_24
noncomputable def c37_25 : Code := .skip
noncomputable def c37_21 : Code := .cond (opdC (atC (bodyC Tryd.f37) [1, 1, 1, 0, 1])) c37_22 c37_25
noncomputable def c37_19 : Code := .seq c37_20 c37_21
noncomputable def o37_28 : Array Oper := opsC (atC (bodyC Tryd.f37) [1, 1, 1, 1, 0, 0])
noncomputable def c37_28 : Code := .region 7 o37_28 false
noncomputable def o37_30 : Array Oper := opsC (atC (bodyC Tryd.f37) [1, 1, 1, 1, 0, 1, 0])
noncomputable def c37_30 : Code := .region 8 o37_30 false
noncomputable def o37_33 : Array Oper := opsC (atC (bodyC Tryd.f37) [1, 1, 1, 1, 0, 1, 1, 0, 0])
noncomputable def c37_33 : Code := .region 9 o37_33 false
noncomputable def c37_34 : Code := .ret
noncomputable def c37_32 : Code := .seq c37_33 c37_34
noncomputable def c37_35 : Code := .skip
noncomputable def c37_31 : Code := .cond (opdC (atC (bodyC Tryd.f37) [1, 1, 1, 1, 0, 1, 1])) c37_32 c37_35
noncomputable def c37_29 : Code := .seq c37_30 c37_31
noncomputable def c37_27 : Code := .seq c37_28 c37_29
noncomputable def o37_37 : Array Oper := opsC (atC (bodyC Tryd.f37) [1, 1, 1, 1, 1, 0])
noncomputable def c37_37 : Code := .region 10 o37_37 false
noncomputable def c37_38 : Code := .ret
noncomputable def c37_36 : Code := .seq c37_37 c37_38
noncomputable def c37_26 : Code := .seq c37_27 c37_36
noncomputable def c37_18 : Code := .seq c37_19 c37_26
noncomputable def c37_10 : Code := .seq c37_11 c37_18
noncomputable def c37_2 : Code := .seq c37_3 c37_10
noncomputable def c37_0 : Code := .seq c37_1 c37_2
noncomputable def F37 : Func := { Tryd.f37 with body := some c37_0 }
theorem F37_eq : Tryd.f37 = F37 := rfl
theorem at37 : Tryd.prog.funcs[37]? = some F37 := by rw [← F37_eq]; exact Tryd.func37
noncomputable def o38_1 : Array Oper := opsC (atC (bodyC Tryd.f38) [0])
noncomputable def c38_1 : Code := .region 0 o38_1 false
noncomputable def o38_3 : Array Oper := opsC (atC (bodyC Tryd.f38) [1, 0])
noncomputable def c38_3 : Code := .region 1 o38_3 false
noncomputable def o38_5 : Array Oper := opsC (atC (bodyC Tryd.f38) [1, 1, 0])
noncomputable def c38_5 : Code := .region 2 o38_5 false
noncomputable def c38_6 : Code := .ret
noncomputable def c38_4 : Code := .seq c38_5 c38_6
noncomputable def c38_2 : Code := .seq c38_3 c38_4
noncomputable def c38_0 : Code := .seq c38_1 c38_2
noncomputable def F38 : Func := { Tryd.f38 with body := some c38_0 }
theorem F38_eq : Tryd.f38 = F38 := rfl
theorem at38 : Tryd.prog.funcs[38]? = some F38 := by rw [← F38_eq]; exact Tryd.func38
noncomputable def o39_1 : Array Oper := opsC (atC (bodyC Tryd.f39) [0])
noncomputable def c39_1 : Code := .region 0 o39_1 false
noncomputable def o39_3 : Array Oper := opsC (atC (bodyC Tryd.f39) [1, 0])
noncomputable def c39_3 : Code := .region 1 o39_3 false
noncomputable def o39_6 : Array Oper := opsC (atC (bodyC Tryd.f39) [1, 1, 0, 0])
noncomputable def c39_6 : Code := .region 2 o39_6 false
noncomputable def o39_10 : Array Oper := opsC (atC (bodyC Tryd.f39) [1, 1, 0, 1, 0, 0, 0])
noncomputable def c39_10 : Code := .region 3 o39_10 false
noncomputable def c39_13 : Code := .skip
noncomputable def c39_14 : Code := .exit 0
noncomputable def c39_12 : Code := .cond (opdC (atC (bodyC Tryd.f39) [1, 1, 0, 1, 0, 0, 1, 0])) c39_13 c39_14
noncomputable def o39_18 : Array Oper := opsC (atC (bodyC Tryd.f39) [1, 1, 0, 1, 0, 0, 1, 1, 0, 0, 0])
noncomputable def c39_18 : Code := .region 4 o39_18 false
noncomputable def o39_19 : Array Oper := opsC (atC (bodyC Tryd.f39) [1, 1, 0, 1, 0, 0, 1, 1, 0, 0, 1])
noncomputable def c39_19 : Code := .region 5 o39_19 false
noncomputable def c39_17 : Code := .seq c39_18 c39_19
noncomputable def c39_16 : Code := .block 1 c39_17
noncomputable def o39_20 : Array Oper := opsC (atC (bodyC Tryd.f39) [1, 1, 0, 1, 0, 0, 1, 1, 1])
noncomputable def c39_20 : Code := .region 6 o39_20 false
noncomputable def c39_15 : Code := .seq c39_16 c39_20
noncomputable def c39_11 : Code := .seq c39_12 c39_15
noncomputable def c39_9 : Code := .seq c39_10 c39_11
noncomputable def c39_8 : Code := .loop c39_9
noncomputable def c39_7 : Code := .block 0 c39_8
noncomputable def c39_5 : Code := .seq c39_6 c39_7
noncomputable def o39_22 : Array Oper := opsC (atC (bodyC Tryd.f39) [1, 1, 1, 0])
noncomputable def c39_22 : Code := .region 7 o39_22 false
noncomputable def c39_23 : Code := .ret
noncomputable def c39_21 : Code := .seq c39_22 c39_23
noncomputable def c39_4 : Code := .seq c39_5 c39_21
noncomputable def c39_2 : Code := .seq c39_3 c39_4
noncomputable def c39_0 : Code := .seq c39_1 c39_2
noncomputable def F39 : Func := { Tryd.f39 with body := some c39_0 }
theorem F39_eq : Tryd.f39 = F39 := rfl
theorem at39 : Tryd.prog.funcs[39]? = some F39 := by rw [← F39_eq]; exact Tryd.func39
noncomputable def o40_1 : Array Oper := opsC (atC (bodyC Tryd.f40) [0])
noncomputable def c40_1 : Code := .region 0 o40_1 false
noncomputable def o40_3 : Array Oper := opsC (atC (bodyC Tryd.f40) [1, 0])
noncomputable def c40_3 : Code := .region 1 o40_3 false
noncomputable def o40_6 : Array Oper := opsC (atC (bodyC Tryd.f40) [1, 1, 0, 0])
noncomputable def c40_6 : Code := .region 2 o40_6 false
noncomputable def o40_11 : Array Oper := opsC (atC (bodyC Tryd.f40) [1, 1, 0, 1, 0, 0, 0, 0])
noncomputable def c40_11 : Code := .region 3 o40_11 false
noncomputable def c40_13 : Code := .skip
noncomputable def c40_14 : Code := .exit 0
noncomputable def c40_12 : Code := .cond (opdC (atC (bodyC Tryd.f40) [1, 1, 0, 1, 0, 0, 0, 1])) c40_13 c40_14
noncomputable def c40_10 : Code := .seq c40_11 c40_12
noncomputable def o40_17 : Array Oper := opsC (atC (bodyC Tryd.f40) [1, 1, 0, 1, 0, 0, 1, 0, 0])
noncomputable def c40_17 : Code := .region 5 o40_17 false
noncomputable def c40_16 : Code := .block 1 c40_17
noncomputable def o40_18 : Array Oper := opsC (atC (bodyC Tryd.f40) [1, 1, 0, 1, 0, 0, 1, 1])
noncomputable def c40_18 : Code := .region 4 o40_18 false
noncomputable def c40_15 : Code := .seq c40_16 c40_18
noncomputable def c40_9 : Code := .seq c40_10 c40_15
noncomputable def c40_8 : Code := .loop c40_9
noncomputable def c40_7 : Code := .block 0 c40_8
noncomputable def c40_5 : Code := .seq c40_6 c40_7
noncomputable def o40_20 : Array Oper := opsC (atC (bodyC Tryd.f40) [1, 1, 1, 0])
noncomputable def c40_20 : Code := .region 6 o40_20 false
noncomputable def c40_21 : Code := .ret
noncomputable def c40_19 : Code := .seq c40_20 c40_21
noncomputable def c40_4 : Code := .seq c40_5 c40_19
noncomputable def c40_2 : Code := .seq c40_3 c40_4
noncomputable def c40_0 : Code := .seq c40_1 c40_2
noncomputable def F40 : Func := { Tryd.f40 with body := some c40_0 }
theorem F40_eq : Tryd.f40 = F40 := rfl
theorem at40 : Tryd.prog.funcs[40]? = some F40 := by rw [← F40_eq]; exact Tryd.func40
noncomputable def o41_1 : Array Oper := opsC (atC (bodyC Tryd.f41) [0])
noncomputable def c41_1 : Code := .region 0 o41_1 false
noncomputable def o41_7 : Array Oper := opsC (atC (bodyC Tryd.f41) [1, 0, 0, 0, 0, 0])
noncomputable def c41_7 : Code := .region 1 o41_7 false
noncomputable def c41_9 : Code := .skip
noncomputable def c41_10 : Code := .exit 0
noncomputable def c41_8 : Code := .cond (opdC (atC (bodyC Tryd.f41) [1, 0, 0, 0, 0, 1])) c41_9 c41_10
noncomputable def c41_6 : Code := .seq c41_7 c41_8
noncomputable def o41_12 : Array Oper := opsC (atC (bodyC Tryd.f41) [1, 0, 0, 0, 1, 0])
noncomputable def c41_12 : Code := .region 2 o41_12 false
noncomputable def c41_11 : Code := .block 1 c41_12
noncomputable def c41_5 : Code := .seq c41_6 c41_11
noncomputable def c41_4 : Code := .loop c41_5
noncomputable def c41_3 : Code := .block 0 c41_4
noncomputable def o41_15 : Array Oper := opsC (atC (bodyC Tryd.f41) [1, 1, 0, 0])
noncomputable def c41_15 : Code := .region 3 o41_15 false
noncomputable def o41_18 : Array Oper := opsC (atC (bodyC Tryd.f41) [1, 1, 0, 1, 0, 0])
noncomputable def c41_18 : Code := .region 4 o41_18 false
noncomputable def c41_19 : Code := .ret
noncomputable def c41_17 : Code := .seq c41_18 c41_19
noncomputable def c41_20 : Code := .skip
noncomputable def c41_16 : Code := .cond (opdC (atC (bodyC Tryd.f41) [1, 1, 0, 1])) c41_17 c41_20
noncomputable def c41_14 : Code := .seq c41_15 c41_16
noncomputable def o41_22 : Array Oper := opsC (atC (bodyC Tryd.f41) [1, 1, 1, 0])
noncomputable def c41_22 : Code := .region 5 o41_22 false
noncomputable def c41_23 : Code := .ret
noncomputable def c41_21 : Code := .seq c41_22 c41_23
noncomputable def c41_13 : Code := .seq c41_14 c41_21
noncomputable def c41_2 : Code := .seq c41_3 c41_13
noncomputable def c41_0 : Code := .seq c41_1 c41_2
noncomputable def F41 : Func := { Tryd.f41 with body := some c41_0 }
theorem F41_eq : Tryd.f41 = F41 := rfl
theorem at41 : Tryd.prog.funcs[41]? = some F41 := by rw [← F41_eq]; exact Tryd.func41
noncomputable def o42_1 : Array Oper := opsC (atC (bodyC Tryd.f42) [0])
noncomputable def c42_1 : Code := .region 0 o42_1 false
noncomputable def o42_7 : Array Oper := opsC (atC (bodyC Tryd.f42) [1, 0, 0, 0, 0, 0])
noncomputable def c42_7 : Code := .region 1 o42_7 false
noncomputable def c42_9 : Code := .skip
noncomputable def c42_10 : Code := .exit 0
noncomputable def c42_8 : Code := .cond (opdC (atC (bodyC Tryd.f42) [1, 0, 0, 0, 0, 1])) c42_9 c42_10
noncomputable def c42_6 : Code := .seq c42_7 c42_8
noncomputable def o42_12 : Array Oper := opsC (atC (bodyC Tryd.f42) [1, 0, 0, 0, 1, 0])
noncomputable def c42_12 : Code := .region 2 o42_12 false
noncomputable def c42_11 : Code := .block 1 c42_12
noncomputable def c42_5 : Code := .seq c42_6 c42_11
noncomputable def c42_4 : Code := .loop c42_5
noncomputable def c42_3 : Code := .block 0 c42_4
noncomputable def o42_14 : Array Oper := opsC (atC (bodyC Tryd.f42) [1, 1, 0])
noncomputable def c42_14 : Code := .region 3 o42_14 false
noncomputable def c42_15 : Code := .ret
noncomputable def c42_13 : Code := .seq c42_14 c42_15
noncomputable def c42_2 : Code := .seq c42_3 c42_13
noncomputable def c42_0 : Code := .seq c42_1 c42_2
noncomputable def F42 : Func := { Tryd.f42 with body := some c42_0 }
theorem F42_eq : Tryd.f42 = F42 := rfl
theorem at42 : Tryd.prog.funcs[42]? = some F42 := by rw [← F42_eq]; exact Tryd.func42
noncomputable def o43_1 : Array Oper := opsC (atC (bodyC Tryd.f43) [0])
noncomputable def c43_1 : Code := .region 0 o43_1 false
noncomputable def o43_4 : Array Oper := opsC (atC (bodyC Tryd.f43) [1, 0, 0])
noncomputable def c43_4 : Code := .region 1 o43_4 false
noncomputable def o43_9 : Array Oper := opsC (atC (bodyC Tryd.f43) [1, 0, 1, 0, 0, 0, 0])
noncomputable def c43_9 : Code := .region 2 o43_9 false
noncomputable def c43_11 : Code := .skip
noncomputable def c43_12 : Code := .exit 0
noncomputable def c43_10 : Code := .cond (opdC (atC (bodyC Tryd.f43) [1, 0, 1, 0, 0, 0, 1])) c43_11 c43_12
noncomputable def c43_8 : Code := .seq c43_9 c43_10
noncomputable def o43_16 : Array Oper := opsC (atC (bodyC Tryd.f43) [1, 0, 1, 0, 0, 1, 0, 0, 0])
noncomputable def c43_16 : Code := .region 4 o43_16 false
noncomputable def o43_19 : Array Oper := opsC (atC (bodyC Tryd.f43) [1, 0, 1, 0, 0, 1, 0, 0, 1, 0, 0])
noncomputable def c43_19 : Code := .region 5 o43_19 false
noncomputable def o43_22 : Array Oper := opsC (atC (bodyC Tryd.f43) [1, 0, 1, 0, 0, 1, 0, 0, 1, 0, 1, 0, 0])
noncomputable def c43_22 : Code := .region 6 o43_22 false
noncomputable def c43_23 : Code := .ret
noncomputable def c43_21 : Code := .seq c43_22 c43_23
noncomputable def c43_24 : Code := .skip
noncomputable def c43_20 : Code := .cond (opdC (atC (bodyC Tryd.f43) [1, 0, 1, 0, 0, 1, 0, 0, 1, 0, 1])) c43_21 c43_24
noncomputable def c43_18 : Code := .seq c43_19 c43_20
noncomputable def o43_25 : Array Oper := opsC (atC (bodyC Tryd.f43) [1, 0, 1, 0, 0, 1, 0, 0, 1, 1])
noncomputable def c43_25 : Code := .region 7 o43_25 false
noncomputable def c43_17 : Code := .seq c43_18 c43_25
noncomputable def c43_15 : Code := .seq c43_16 c43_17
noncomputable def c43_14 : Code := .block 1 c43_15
noncomputable def o43_26 : Array Oper := opsC (atC (bodyC Tryd.f43) [1, 0, 1, 0, 0, 1, 1])
noncomputable def c43_26 : Code := .region 3 o43_26 false
noncomputable def c43_13 : Code := .seq c43_14 c43_26
noncomputable def c43_7 : Code := .seq c43_8 c43_13
noncomputable def c43_6 : Code := .loop c43_7
noncomputable def c43_5 : Code := .block 0 c43_6
noncomputable def c43_3 : Code := .seq c43_4 c43_5
noncomputable def o43_28 : Array Oper := opsC (atC (bodyC Tryd.f43) [1, 1, 0])
noncomputable def c43_28 : Code := .region 8 o43_28 false
noncomputable def c43_29 : Code := .ret
noncomputable def c43_27 : Code := .seq c43_28 c43_29
noncomputable def c43_2 : Code := .seq c43_3 c43_27
noncomputable def c43_0 : Code := .seq c43_1 c43_2
noncomputable def F43 : Func := { Tryd.f43 with body := some c43_0 }
theorem F43_eq : Tryd.f43 = F43 := rfl
theorem at43 : Tryd.prog.funcs[43]? = some F43 := by rw [← F43_eq]; exact Tryd.func43
noncomputable def o44_1 : Array Oper := opsC (atC (bodyC Tryd.f44) [0])
noncomputable def c44_1 : Code := .region 0 o44_1 false
noncomputable def o44_7 : Array Oper := opsC (atC (bodyC Tryd.f44) [1, 0, 0, 0, 0, 0])
noncomputable def c44_7 : Code := .region 1 o44_7 false
noncomputable def c44_9 : Code := .skip
noncomputable def c44_10 : Code := .exit 0
noncomputable def c44_8 : Code := .cond (opdC (atC (bodyC Tryd.f44) [1, 0, 0, 0, 0, 1])) c44_9 c44_10
noncomputable def c44_6 : Code := .seq c44_7 c44_8
noncomputable def o44_14 : Array Oper := opsC (atC (bodyC Tryd.f44) [1, 0, 0, 0, 1, 0, 0, 0])
noncomputable def c44_14 : Code := .region 2 o44_14 false
noncomputable def c44_16 : Code := .exit 0
noncomputable def c44_17 : Code := .skip
noncomputable def c44_15 : Code := .cond (opdC (atC (bodyC Tryd.f44) [1, 0, 0, 0, 1, 0, 0, 1])) c44_16 c44_17
noncomputable def c44_13 : Code := .seq c44_14 c44_15
noncomputable def o44_18 : Array Oper := opsC (atC (bodyC Tryd.f44) [1, 0, 0, 0, 1, 0, 1])
noncomputable def c44_18 : Code := .region 3 o44_18 false
noncomputable def c44_12 : Code := .seq c44_13 c44_18
noncomputable def c44_11 : Code := .block 1 c44_12
noncomputable def c44_5 : Code := .seq c44_6 c44_11
noncomputable def c44_4 : Code := .loop c44_5
noncomputable def c44_3 : Code := .block 0 c44_4
noncomputable def o44_21 : Array Oper := opsC (atC (bodyC Tryd.f44) [1, 1, 0, 0])
noncomputable def c44_21 : Code := .region 4 o44_21 false
noncomputable def o44_24 : Array Oper := opsC (atC (bodyC Tryd.f44) [1, 1, 0, 1, 0, 0])
noncomputable def c44_24 : Code := .region 5 o44_24 false
noncomputable def c44_25 : Code := .ret
noncomputable def c44_23 : Code := .seq c44_24 c44_25
noncomputable def c44_26 : Code := .skip
noncomputable def c44_22 : Code := .cond (opdC (atC (bodyC Tryd.f44) [1, 1, 0, 1])) c44_23 c44_26
noncomputable def c44_20 : Code := .seq c44_21 c44_22
noncomputable def o44_28 : Array Oper := opsC (atC (bodyC Tryd.f44) [1, 1, 1, 0])
noncomputable def c44_28 : Code := .region 6 o44_28 false
noncomputable def c44_29 : Code := .ret
noncomputable def c44_27 : Code := .seq c44_28 c44_29
noncomputable def c44_19 : Code := .seq c44_20 c44_27
noncomputable def c44_2 : Code := .seq c44_3 c44_19
noncomputable def c44_0 : Code := .seq c44_1 c44_2
noncomputable def F44 : Func := { Tryd.f44 with body := some c44_0 }
theorem F44_eq : Tryd.f44 = F44 := rfl
theorem at44 : Tryd.prog.funcs[44]? = some F44 := by rw [← F44_eq]; exact Tryd.func44
noncomputable def o45_1 : Array Oper := opsC (atC (bodyC Tryd.f45) [0])
noncomputable def c45_1 : Code := .region 0 o45_1 false
noncomputable def o45_7 : Array Oper := opsC (atC (bodyC Tryd.f45) [1, 0, 0, 0, 0, 0])
noncomputable def c45_7 : Code := .region 1 o45_7 false
noncomputable def c45_9 : Code := .skip
noncomputable def c45_10 : Code := .exit 0
noncomputable def c45_8 : Code := .cond (opdC (atC (bodyC Tryd.f45) [1, 0, 0, 0, 0, 1])) c45_9 c45_10
noncomputable def c45_6 : Code := .seq c45_7 c45_8
noncomputable def o45_14 : Array Oper := opsC (atC (bodyC Tryd.f45) [1, 0, 0, 0, 1, 0, 0, 0])
noncomputable def c45_14 : Code := .region 2 o45_14 false
noncomputable def c45_16 : Code := .exit 0
noncomputable def c45_17 : Code := .skip
noncomputable def c45_15 : Code := .cond (opdC (atC (bodyC Tryd.f45) [1, 0, 0, 0, 1, 0, 0, 1])) c45_16 c45_17
noncomputable def c45_13 : Code := .seq c45_14 c45_15
noncomputable def o45_18 : Array Oper := opsC (atC (bodyC Tryd.f45) [1, 0, 0, 0, 1, 0, 1])
noncomputable def c45_18 : Code := .region 3 o45_18 false
noncomputable def c45_12 : Code := .seq c45_13 c45_18
noncomputable def c45_11 : Code := .block 1 c45_12
noncomputable def c45_5 : Code := .seq c45_6 c45_11
noncomputable def c45_4 : Code := .loop c45_5
noncomputable def c45_3 : Code := .block 0 c45_4
noncomputable def o45_20 : Array Oper := opsC (atC (bodyC Tryd.f45) [1, 1, 0])
noncomputable def c45_20 : Code := .region 4 o45_20 false
noncomputable def c45_21 : Code := .ret
noncomputable def c45_19 : Code := .seq c45_20 c45_21
noncomputable def c45_2 : Code := .seq c45_3 c45_19
noncomputable def c45_0 : Code := .seq c45_1 c45_2
noncomputable def F45 : Func := { Tryd.f45 with body := some c45_0 }
theorem F45_eq : Tryd.f45 = F45 := rfl
theorem at45 : Tryd.prog.funcs[45]? = some F45 := by rw [← F45_eq]; exact Tryd.func45
noncomputable def o46_1 : Array Oper := opsC (atC (bodyC Tryd.f46) [0])
noncomputable def c46_1 : Code := .region 0 o46_1 false
noncomputable def o46_7 : Array Oper := opsC (atC (bodyC Tryd.f46) [1, 0, 0, 0, 0, 0])
noncomputable def c46_7 : Code := .region 1 o46_7 false
noncomputable def c46_9 : Code := .skip
noncomputable def c46_10 : Code := .exit 0
noncomputable def c46_8 : Code := .cond (opdC (atC (bodyC Tryd.f46) [1, 0, 0, 0, 0, 1])) c46_9 c46_10
noncomputable def c46_6 : Code := .seq c46_7 c46_8
noncomputable def o46_13 : Array Oper := opsC (atC (bodyC Tryd.f46) [1, 0, 0, 0, 1, 0, 0])
noncomputable def c46_13 : Code := .region 2 o46_13 false
noncomputable def o46_16 : Array Oper := opsC (atC (bodyC Tryd.f46) [1, 0, 0, 0, 1, 0, 1, 0, 0])
noncomputable def c46_16 : Code := .region 3 o46_16 false
noncomputable def c46_18 : Code := .exit 0
noncomputable def c46_19 : Code := .skip
noncomputable def c46_17 : Code := .cond (opdC (atC (bodyC Tryd.f46) [1, 0, 0, 0, 1, 0, 1, 0, 1])) c46_18 c46_19
noncomputable def c46_15 : Code := .seq c46_16 c46_17
noncomputable def o46_20 : Array Oper := opsC (atC (bodyC Tryd.f46) [1, 0, 0, 0, 1, 0, 1, 1])
noncomputable def c46_20 : Code := .region 4 o46_20 false
noncomputable def c46_14 : Code := .seq c46_15 c46_20
noncomputable def c46_12 : Code := .seq c46_13 c46_14
noncomputable def c46_11 : Code := .block 1 c46_12
noncomputable def c46_5 : Code := .seq c46_6 c46_11
noncomputable def c46_4 : Code := .loop c46_5
noncomputable def c46_3 : Code := .block 0 c46_4
noncomputable def o46_23 : Array Oper := opsC (atC (bodyC Tryd.f46) [1, 1, 0, 0])
noncomputable def c46_23 : Code := .region 5 o46_23 false
noncomputable def o46_26 : Array Oper := opsC (atC (bodyC Tryd.f46) [1, 1, 0, 1, 0, 0])
noncomputable def c46_26 : Code := .region 6 o46_26 false
noncomputable def c46_27 : Code := .ret
noncomputable def c46_25 : Code := .seq c46_26 c46_27
noncomputable def c46_28 : Code := .skip
noncomputable def c46_24 : Code := .cond (opdC (atC (bodyC Tryd.f46) [1, 1, 0, 1])) c46_25 c46_28
noncomputable def c46_22 : Code := .seq c46_23 c46_24
noncomputable def o46_30 : Array Oper := opsC (atC (bodyC Tryd.f46) [1, 1, 1, 0])
noncomputable def c46_30 : Code := .region 7 o46_30 false
noncomputable def c46_31 : Code := .ret
noncomputable def c46_29 : Code := .seq c46_30 c46_31
noncomputable def c46_21 : Code := .seq c46_22 c46_29
noncomputable def c46_2 : Code := .seq c46_3 c46_21
noncomputable def c46_0 : Code := .seq c46_1 c46_2
noncomputable def F46 : Func := { Tryd.f46 with body := some c46_0 }
theorem F46_eq : Tryd.f46 = F46 := rfl
theorem at46 : Tryd.prog.funcs[46]? = some F46 := by rw [← F46_eq]; exact Tryd.func46
noncomputable def o47_1 : Array Oper := opsC (atC (bodyC Tryd.f47) [0])
noncomputable def c47_1 : Code := .region 0 o47_1 false
noncomputable def o47_7 : Array Oper := opsC (atC (bodyC Tryd.f47) [1, 0, 0, 0, 0, 0])
noncomputable def c47_7 : Code := .region 1 o47_7 false
noncomputable def c47_9 : Code := .skip
noncomputable def c47_10 : Code := .exit 0
noncomputable def c47_8 : Code := .cond (opdC (atC (bodyC Tryd.f47) [1, 0, 0, 0, 0, 1])) c47_9 c47_10
noncomputable def c47_6 : Code := .seq c47_7 c47_8
noncomputable def o47_13 : Array Oper := opsC (atC (bodyC Tryd.f47) [1, 0, 0, 0, 1, 0, 0])
noncomputable def c47_13 : Code := .region 2 o47_13 false
noncomputable def o47_16 : Array Oper := opsC (atC (bodyC Tryd.f47) [1, 0, 0, 0, 1, 0, 1, 0, 0])
noncomputable def c47_16 : Code := .region 3 o47_16 false
noncomputable def o47_18 : Array Oper := opsC (atC (bodyC Tryd.f47) [1, 0, 0, 0, 1, 0, 1, 0, 1, 0])
noncomputable def c47_18 : Code := .region 4 o47_18 false
noncomputable def c47_19 : Code := .skip
noncomputable def c47_17 : Code := .cond (opdC (atC (bodyC Tryd.f47) [1, 0, 0, 0, 1, 0, 1, 0, 1])) c47_18 c47_19
noncomputable def c47_15 : Code := .seq c47_16 c47_17
noncomputable def o47_22 : Array Oper := opsC (atC (bodyC Tryd.f47) [1, 0, 0, 0, 1, 0, 1, 1, 0, 0])
noncomputable def c47_22 : Code := .region 5 o47_22 false
noncomputable def c47_24 : Code := .exit 0
noncomputable def c47_25 : Code := .skip
noncomputable def c47_23 : Code := .cond (opdC (atC (bodyC Tryd.f47) [1, 0, 0, 0, 1, 0, 1, 1, 0, 1])) c47_24 c47_25
noncomputable def c47_21 : Code := .seq c47_22 c47_23
noncomputable def o47_26 : Array Oper := opsC (atC (bodyC Tryd.f47) [1, 0, 0, 0, 1, 0, 1, 1, 1])
noncomputable def c47_26 : Code := .region 6 o47_26 false
noncomputable def c47_20 : Code := .seq c47_21 c47_26
noncomputable def c47_14 : Code := .seq c47_15 c47_20
noncomputable def c47_12 : Code := .seq c47_13 c47_14
noncomputable def c47_11 : Code := .block 1 c47_12
noncomputable def c47_5 : Code := .seq c47_6 c47_11
noncomputable def c47_4 : Code := .loop c47_5
noncomputable def c47_3 : Code := .block 0 c47_4
noncomputable def o47_28 : Array Oper := opsC (atC (bodyC Tryd.f47) [1, 1, 0])
noncomputable def c47_28 : Code := .region 7 o47_28 false
noncomputable def c47_29 : Code := .ret
noncomputable def c47_27 : Code := .seq c47_28 c47_29
noncomputable def c47_2 : Code := .seq c47_3 c47_27
noncomputable def c47_0 : Code := .seq c47_1 c47_2
noncomputable def F47 : Func := { Tryd.f47 with body := some c47_0 }
theorem F47_eq : Tryd.f47 = F47 := rfl
theorem at47 : Tryd.prog.funcs[47]? = some F47 := by rw [← F47_eq]; exact Tryd.func47
noncomputable def o48_1 : Array Oper := opsC (atC (bodyC Tryd.f48) [0])
noncomputable def c48_1 : Code := .region 0 o48_1 false
noncomputable def o48_4 : Array Oper := opsC (atC (bodyC Tryd.f48) [1, 0, 0])
noncomputable def c48_4 : Code := .region 1 o48_4 false
noncomputable def o48_7 : Array Oper := opsC (atC (bodyC Tryd.f48) [1, 0, 1, 0, 0])
noncomputable def c48_7 : Code := .region 2 o48_7 false
noncomputable def c48_8 : Code := .ret
noncomputable def c48_6 : Code := .seq c48_7 c48_8
noncomputable def c48_9 : Code := .skip
noncomputable def c48_5 : Code := .cond (opdC (atC (bodyC Tryd.f48) [1, 0, 1])) c48_6 c48_9
noncomputable def c48_3 : Code := .seq c48_4 c48_5
noncomputable def o48_11 : Array Oper := opsC (atC (bodyC Tryd.f48) [1, 1, 0])
noncomputable def c48_11 : Code := .region 3 o48_11 false
noncomputable def o48_14 : Array Oper := opsC (atC (bodyC Tryd.f48) [1, 1, 1, 0, 0])
noncomputable def c48_14 : Code := .region 4 o48_14 false
noncomputable def o48_18 : Array Oper := opsC (atC (bodyC Tryd.f48) [1, 1, 1, 0, 1, 0, 0, 0])
noncomputable def c48_18 : Code := .region 5 o48_18 false
noncomputable def c48_21 : Code := .skip
noncomputable def c48_22 : Code := .exit 0
noncomputable def c48_20 : Code := .cond (opdC (atC (bodyC Tryd.f48) [1, 1, 1, 0, 1, 0, 0, 1, 0])) c48_21 c48_22
noncomputable def o48_26 : Array Oper := opsC (atC (bodyC Tryd.f48) [1, 1, 1, 0, 1, 0, 0, 1, 1, 0, 0, 0])
noncomputable def c48_26 : Code := .region 6 o48_26 false
noncomputable def o48_27 : Array Oper := opsC (atC (bodyC Tryd.f48) [1, 1, 1, 0, 1, 0, 0, 1, 1, 0, 0, 1])
noncomputable def c48_27 : Code := .region 7 o48_27 false
noncomputable def c48_25 : Code := .seq c48_26 c48_27
noncomputable def c48_24 : Code := .block 1 c48_25
noncomputable def o48_28 : Array Oper := opsC (atC (bodyC Tryd.f48) [1, 1, 1, 0, 1, 0, 0, 1, 1, 1])
noncomputable def c48_28 : Code := .region 8 o48_28 false
noncomputable def c48_23 : Code := .seq c48_24 c48_28
noncomputable def c48_19 : Code := .seq c48_20 c48_23
noncomputable def c48_17 : Code := .seq c48_18 c48_19
noncomputable def c48_16 : Code := .loop c48_17
noncomputable def c48_15 : Code := .block 0 c48_16
noncomputable def c48_13 : Code := .seq c48_14 c48_15
noncomputable def o48_30 : Array Oper := opsC (atC (bodyC Tryd.f48) [1, 1, 1, 1, 0])
noncomputable def c48_30 : Code := .region 9 o48_30 false
noncomputable def c48_31 : Code := .ret
noncomputable def c48_29 : Code := .seq c48_30 c48_31
noncomputable def c48_12 : Code := .seq c48_13 c48_29
noncomputable def c48_10 : Code := .seq c48_11 c48_12
noncomputable def c48_2 : Code := .seq c48_3 c48_10
noncomputable def c48_0 : Code := .seq c48_1 c48_2
noncomputable def F48 : Func := { Tryd.f48 with body := some c48_0 }
theorem F48_eq : Tryd.f48 = F48 := rfl
theorem at48 : Tryd.prog.funcs[48]? = some F48 := by rw [← F48_eq]; exact Tryd.func48
noncomputable def o49_1 : Array Oper := opsC (atC (bodyC Tryd.f49) [0])
noncomputable def c49_1 : Code := .region 0 o49_1 false
noncomputable def o49_3 : Array Oper := opsC (atC (bodyC Tryd.f49) [1, 0])
noncomputable def c49_3 : Code := .region 1 o49_3 false
noncomputable def c49_4 : Code := .ret
noncomputable def c49_2 : Code := .seq c49_3 c49_4
noncomputable def c49_0 : Code := .seq c49_1 c49_2
noncomputable def F49 : Func := { Tryd.f49 with body := some c49_0 }
theorem F49_eq : Tryd.f49 = F49 := rfl
theorem at49 : Tryd.prog.funcs[49]? = some F49 := by rw [← F49_eq]; exact Tryd.func49
noncomputable def o50_1 : Array Oper := opsC (atC (bodyC Tryd.f50) [0])
noncomputable def c50_1 : Code := .region 0 o50_1 false
noncomputable def o50_4 : Array Oper := opsC (atC (bodyC Tryd.f50) [1, 0, 0])
noncomputable def c50_4 : Code := .region 1 o50_4 false
noncomputable def o50_8 : Array Oper := opsC (atC (bodyC Tryd.f50) [1, 0, 1, 0, 0, 0])
noncomputable def c50_8 : Code := .region 2 o50_8 false
noncomputable def c50_11 : Code := .skip
noncomputable def c50_12 : Code := .exit 0
noncomputable def c50_10 : Code := .cond (opdC (atC (bodyC Tryd.f50) [1, 0, 1, 0, 0, 1, 0])) c50_11 c50_12
noncomputable def o50_16 : Array Oper := opsC (atC (bodyC Tryd.f50) [1, 0, 1, 0, 0, 1, 1, 0, 0, 0])
noncomputable def c50_16 : Code := .region 3 o50_16 false
noncomputable def o50_19 : Array Oper := opsC (atC (bodyC Tryd.f50) [1, 0, 1, 0, 0, 1, 1, 0, 0, 1, 0, 0])
noncomputable def c50_19 : Code := .region 4 o50_19 false
noncomputable def o50_22 : Array Oper := opsC (atC (bodyC Tryd.f50) [1, 0, 1, 0, 0, 1, 1, 0, 0, 1, 0, 1, 0, 0])
noncomputable def c50_22 : Code := .region 5 o50_22 false
noncomputable def c50_23 : Code := .ret
noncomputable def c50_21 : Code := .seq c50_22 c50_23
noncomputable def c50_24 : Code := .skip
noncomputable def c50_20 : Code := .cond (opdC (atC (bodyC Tryd.f50) [1, 0, 1, 0, 0, 1, 1, 0, 0, 1, 0, 1])) c50_21 c50_24
noncomputable def c50_18 : Code := .seq c50_19 c50_20
noncomputable def c50_25 : Code := .exit 0
noncomputable def c50_17 : Code := .seq c50_18 c50_25
noncomputable def c50_15 : Code := .seq c50_16 c50_17
noncomputable def c50_14 : Code := .block 1 c50_15
noncomputable def o50_26 : Array Oper := opsC (atC (bodyC Tryd.f50) [1, 0, 1, 0, 0, 1, 1, 1])
noncomputable def c50_26 : Code := .region 6 o50_26 false
noncomputable def c50_13 : Code := .seq c50_14 c50_26
noncomputable def c50_9 : Code := .seq c50_10 c50_13
noncomputable def c50_7 : Code := .seq c50_8 c50_9
noncomputable def c50_6 : Code := .loop c50_7
noncomputable def c50_5 : Code := .block 0 c50_6
noncomputable def c50_3 : Code := .seq c50_4 c50_5
noncomputable def o50_28 : Array Oper := opsC (atC (bodyC Tryd.f50) [1, 1, 0])
noncomputable def c50_28 : Code := .region 7 o50_28 false
noncomputable def c50_29 : Code := .ret
noncomputable def c50_27 : Code := .seq c50_28 c50_29
noncomputable def c50_2 : Code := .seq c50_3 c50_27
noncomputable def c50_0 : Code := .seq c50_1 c50_2
noncomputable def F50 : Func := { Tryd.f50 with body := some c50_0 }
theorem F50_eq : Tryd.f50 = F50 := rfl
theorem at50 : Tryd.prog.funcs[50]? = some F50 := by rw [← F50_eq]; exact Tryd.func50
noncomputable def o51_1 : Array Oper := opsC (atC (bodyC Tryd.f51) [0])
noncomputable def c51_1 : Code := .region 0 o51_1 false
noncomputable def o51_4 : Array Oper := opsC (atC (bodyC Tryd.f51) [1, 0, 0])
noncomputable def c51_4 : Code := .region 1 o51_4 false
noncomputable def o51_8 : Array Oper := opsC (atC (bodyC Tryd.f51) [1, 0, 1, 0, 0, 0])
noncomputable def c51_8 : Code := .region 2 o51_8 false
noncomputable def c51_11 : Code := .skip
noncomputable def c51_12 : Code := .exit 0
noncomputable def c51_10 : Code := .cond (opdC (atC (bodyC Tryd.f51) [1, 0, 1, 0, 0, 1, 0])) c51_11 c51_12
noncomputable def o51_15 : Array Oper := opsC (atC (bodyC Tryd.f51) [1, 0, 1, 0, 0, 1, 1, 0, 0])
noncomputable def c51_15 : Code := .region 3 o51_15 false
noncomputable def o51_17 : Array Oper := opsC (atC (bodyC Tryd.f51) [1, 0, 1, 0, 0, 1, 1, 0, 1, 0])
noncomputable def c51_17 : Code := .region 4 o51_17 false
noncomputable def o51_20 : Array Oper := opsC (atC (bodyC Tryd.f51) [1, 0, 1, 0, 0, 1, 1, 0, 1, 1, 0, 0])
noncomputable def c51_20 : Code := .region 5 o51_20 false
noncomputable def c51_21 : Code := .ret
noncomputable def c51_19 : Code := .seq c51_20 c51_21
noncomputable def c51_22 : Code := .skip
noncomputable def c51_18 : Code := .cond (opdC (atC (bodyC Tryd.f51) [1, 0, 1, 0, 0, 1, 1, 0, 1, 1])) c51_19 c51_22
noncomputable def c51_16 : Code := .seq c51_17 c51_18
noncomputable def c51_14 : Code := .seq c51_15 c51_16
noncomputable def c51_13 : Code := .block 1 c51_14
noncomputable def c51_9 : Code := .seq c51_10 c51_13
noncomputable def c51_7 : Code := .seq c51_8 c51_9
noncomputable def c51_6 : Code := .loop c51_7
noncomputable def c51_5 : Code := .block 0 c51_6
noncomputable def c51_3 : Code := .seq c51_4 c51_5
noncomputable def o51_24 : Array Oper := opsC (atC (bodyC Tryd.f51) [1, 1, 0])
noncomputable def c51_24 : Code := .region 6 o51_24 false
noncomputable def c51_25 : Code := .ret
noncomputable def c51_23 : Code := .seq c51_24 c51_25
noncomputable def c51_2 : Code := .seq c51_3 c51_23
noncomputable def c51_0 : Code := .seq c51_1 c51_2
noncomputable def F51 : Func := { Tryd.f51 with body := some c51_0 }
theorem F51_eq : Tryd.f51 = F51 := rfl
theorem at51 : Tryd.prog.funcs[51]? = some F51 := by rw [← F51_eq]; exact Tryd.func51
noncomputable def o52_1 : Array Oper := opsC (atC (bodyC Tryd.f52) [0])
noncomputable def c52_1 : Code := .region 0 o52_1 false
noncomputable def o52_3 : Array Oper := opsC (atC (bodyC Tryd.f52) [1, 0])
noncomputable def c52_3 : Code := .region 1 o52_3 false
noncomputable def o52_6 : Array Oper := opsC (atC (bodyC Tryd.f52) [1, 1, 0, 0])
noncomputable def c52_6 : Code := .region 2 o52_6 false
noncomputable def o52_9 : Array Oper := opsC (atC (bodyC Tryd.f52) [1, 1, 0, 1, 0, 0])
noncomputable def c52_9 : Code := .region 3 o52_9 false
noncomputable def c52_10 : Code := .ret
noncomputable def c52_8 : Code := .seq c52_9 c52_10
noncomputable def c52_11 : Code := .skip
noncomputable def c52_7 : Code := .cond (opdC (atC (bodyC Tryd.f52) [1, 1, 0, 1])) c52_8 c52_11
noncomputable def c52_5 : Code := .seq c52_6 c52_7
noncomputable def o52_13 : Array Oper := opsC (atC (bodyC Tryd.f52) [1, 1, 1, 0])
noncomputable def c52_13 : Code := .region 4 o52_13 false
noncomputable def o52_15 : Array Oper := opsC (atC (bodyC Tryd.f52) [1, 1, 1, 1, 0])
noncomputable def c52_15 : Code := .region 5 o52_15 false
noncomputable def o52_18 : Array Oper := opsC (atC (bodyC Tryd.f52) [1, 1, 1, 1, 1, 0, 0])
noncomputable def c52_18 : Code := .region 6 o52_18 false
noncomputable def o52_21 : Array Oper := opsC (atC (bodyC Tryd.f52) [1, 1, 1, 1, 1, 0, 1, 0, 0])
noncomputable def c52_21 : Code := .region 7 o52_21 false
noncomputable def c52_22 : Code := .ret
noncomputable def c52_20 : Code := .seq c52_21 c52_22
noncomputable def c52_23 : Code := .skip
noncomputable def c52_19 : Code := .cond (opdC (atC (bodyC Tryd.f52) [1, 1, 1, 1, 1, 0, 1])) c52_20 c52_23
noncomputable def c52_17 : Code := .seq c52_18 c52_19
noncomputable def o52_25 : Array Oper := opsC (atC (bodyC Tryd.f52) [1, 1, 1, 1, 1, 1, 0])
noncomputable def c52_25 : Code := .region 8 o52_25 false
noncomputable def o52_28 : Array Oper := opsC (atC (bodyC Tryd.f52) [1, 1, 1, 1, 1, 1, 1, 0, 0])
noncomputable def c52_28 : Code := .region 9 o52_28 false
noncomputable def o52_33 : Array Oper := opsC (atC (bodyC Tryd.f52) [1, 1, 1, 1, 1, 1, 1, 0, 1, 0, 0, 0, 0])
noncomputable def c52_33 : Code := .region 10 o52_33 false
noncomputable def c52_35 : Code := .skip
noncomputable def c52_36 : Code := .exit 0
noncomputable def c52_34 : Code := .cond (opdC (atC (bodyC Tryd.f52) [1, 1, 1, 1, 1, 1, 1, 0, 1, 0, 0, 0, 1])) c52_35 c52_36
noncomputable def c52_32 : Code := .seq c52_33 c52_34
noncomputable def o52_40 : Array Oper := opsC (atC (bodyC Tryd.f52) [1, 1, 1, 1, 1, 1, 1, 0, 1, 0, 0, 1, 0, 0, 0])
noncomputable def c52_40 : Code := .region 12 o52_40 false
noncomputable def c52_42 : Code := .exit 0
noncomputable def c52_43 : Code := .skip
noncomputable def c52_41 : Code := .cond (opdC (atC (bodyC Tryd.f52) [1, 1, 1, 1, 1, 1, 1, 0, 1, 0, 0, 1, 0, 0, 1])) c52_42 c52_43
noncomputable def c52_39 : Code := .seq c52_40 c52_41
noncomputable def c52_38 : Code := .block 1 c52_39
noncomputable def o52_44 : Array Oper := opsC (atC (bodyC Tryd.f52) [1, 1, 1, 1, 1, 1, 1, 0, 1, 0, 0, 1, 1])
noncomputable def c52_44 : Code := .region 11 o52_44 false
noncomputable def c52_37 : Code := .seq c52_38 c52_44
noncomputable def c52_31 : Code := .seq c52_32 c52_37
noncomputable def c52_30 : Code := .loop c52_31
noncomputable def c52_29 : Code := .block 0 c52_30
noncomputable def c52_27 : Code := .seq c52_28 c52_29
noncomputable def o52_47 : Array Oper := opsC (atC (bodyC Tryd.f52) [1, 1, 1, 1, 1, 1, 1, 1, 0, 0])
noncomputable def c52_47 : Code := .region 13 o52_47 false
noncomputable def o52_49 : Array Oper := opsC (atC (bodyC Tryd.f52) [1, 1, 1, 1, 1, 1, 1, 1, 0, 1, 0])
noncomputable def c52_49 : Code := .region 14 o52_49 false
noncomputable def c52_50 : Code := .skip
noncomputable def c52_48 : Code := .cond (opdC (atC (bodyC Tryd.f52) [1, 1, 1, 1, 1, 1, 1, 1, 0, 1])) c52_49 c52_50
noncomputable def c52_46 : Code := .seq c52_47 c52_48
noncomputable def o52_52 : Array Oper := opsC (atC (bodyC Tryd.f52) [1, 1, 1, 1, 1, 1, 1, 1, 1, 0])
noncomputable def c52_52 : Code := .region 15 o52_52 false
noncomputable def o52_55 : Array Oper := opsC (atC (bodyC Tryd.f52) [1, 1, 1, 1, 1, 1, 1, 1, 1, 1, 0, 0])
noncomputable def c52_55 : Code := .region 16 o52_55 false
noncomputable def o52_58 : Array Oper := opsC (atC (bodyC Tryd.f52) [1, 1, 1, 1, 1, 1, 1, 1, 1, 1, 0, 1, 0, 0])
noncomputable def c52_58 : Code := .region 17 o52_58 false
noncomputable def c52_59 : Code := .ret
noncomputable def c52_57 : Code := .seq c52_58 c52_59
noncomputable def c52_60 : Code := .skip
noncomputable def c52_56 : Code := .cond (opdC (atC (bodyC Tryd.f52) [1, 1, 1, 1, 1, 1, 1, 1, 1, 1, 0, 1])) c52_57 c52_60
noncomputable def c52_54 : Code := .seq c52_55 c52_56
noncomputable def o52_62 : Array Oper := opsC (atC (bodyC Tryd.f52) [1, 1, 1, 1, 1, 1, 1, 1, 1, 1, 1, 0])
noncomputable def c52_62 : Code := .region 18 o52_62 false
noncomputable def c52_63 : Code := .ret
noncomputable def c52_61 : Code := .seq c52_62 c52_63
noncomputable def c52_53 : Code := .seq c52_54 c52_61
noncomputable def c52_51 : Code := .seq c52_52 c52_53
noncomputable def c52_45 : Code := .seq c52_46 c52_51
noncomputable def c52_26 : Code := .seq c52_27 c52_45
noncomputable def c52_24 : Code := .seq c52_25 c52_26
noncomputable def c52_16 : Code := .seq c52_17 c52_24
noncomputable def c52_14 : Code := .seq c52_15 c52_16
noncomputable def c52_12 : Code := .seq c52_13 c52_14
noncomputable def c52_4 : Code := .seq c52_5 c52_12
noncomputable def c52_2 : Code := .seq c52_3 c52_4
noncomputable def c52_0 : Code := .seq c52_1 c52_2
noncomputable def F52 : Func := { Tryd.f52 with body := some c52_0 }
theorem F52_eq : Tryd.f52 = F52 := rfl
theorem at52 : Tryd.prog.funcs[52]? = some F52 := by rw [← F52_eq]; exact Tryd.func52
noncomputable def o53_1 : Array Oper := opsC (atC (bodyC Tryd.f53) [0])
noncomputable def c53_1 : Code := .region 0 o53_1 false
noncomputable def o53_3 : Array Oper := opsC (atC (bodyC Tryd.f53) [1, 0])
noncomputable def c53_3 : Code := .region 1 o53_3 false
noncomputable def o53_6 : Array Oper := opsC (atC (bodyC Tryd.f53) [1, 1, 0, 0])
noncomputable def c53_6 : Code := .region 2 o53_6 false
noncomputable def o53_9 : Array Oper := opsC (atC (bodyC Tryd.f53) [1, 1, 0, 1, 0, 0])
noncomputable def c53_9 : Code := .region 3 o53_9 false
noncomputable def c53_10 : Code := .ret
noncomputable def c53_8 : Code := .seq c53_9 c53_10
noncomputable def c53_11 : Code := .skip
noncomputable def c53_7 : Code := .cond (opdC (atC (bodyC Tryd.f53) [1, 1, 0, 1])) c53_8 c53_11
noncomputable def c53_5 : Code := .seq c53_6 c53_7
noncomputable def o53_13 : Array Oper := opsC (atC (bodyC Tryd.f53) [1, 1, 1, 0])
noncomputable def c53_13 : Code := .region 4 o53_13 false
noncomputable def o53_15 : Array Oper := opsC (atC (bodyC Tryd.f53) [1, 1, 1, 1, 0])
noncomputable def c53_15 : Code := .region 5 o53_15 false
noncomputable def o53_18 : Array Oper := opsC (atC (bodyC Tryd.f53) [1, 1, 1, 1, 1, 0, 0])
noncomputable def c53_18 : Code := .region 6 o53_18 false
noncomputable def o53_21 : Array Oper := opsC (atC (bodyC Tryd.f53) [1, 1, 1, 1, 1, 0, 1, 0, 0])
noncomputable def c53_21 : Code := .region 7 o53_21 false
noncomputable def o53_23 : Array Oper := opsC (atC (bodyC Tryd.f53) [1, 1, 1, 1, 1, 0, 1, 0, 1, 0])
noncomputable def c53_23 : Code := .region 8 o53_23 false
noncomputable def c53_24 : Code := .ret
noncomputable def c53_22 : Code := .seq c53_23 c53_24
noncomputable def c53_20 : Code := .seq c53_21 c53_22
noncomputable def c53_25 : Code := .skip
noncomputable def c53_19 : Code := .cond (opdC (atC (bodyC Tryd.f53) [1, 1, 1, 1, 1, 0, 1])) c53_20 c53_25
noncomputable def c53_17 : Code := .seq c53_18 c53_19
noncomputable def o53_27 : Array Oper := opsC (atC (bodyC Tryd.f53) [1, 1, 1, 1, 1, 1, 0])
noncomputable def c53_27 : Code := .region 9 o53_27 false
noncomputable def o53_29 : Array Oper := opsC (atC (bodyC Tryd.f53) [1, 1, 1, 1, 1, 1, 1, 0])
noncomputable def c53_29 : Code := .region 10 o53_29 false
noncomputable def o53_32 : Array Oper := opsC (atC (bodyC Tryd.f53) [1, 1, 1, 1, 1, 1, 1, 1, 0, 0])
noncomputable def c53_32 : Code := .region 11 o53_32 false
noncomputable def o53_35 : Array Oper := opsC (atC (bodyC Tryd.f53) [1, 1, 1, 1, 1, 1, 1, 1, 0, 1, 0, 0])
noncomputable def c53_35 : Code := .region 12 o53_35 false
noncomputable def c53_36 : Code := .ret
noncomputable def c53_34 : Code := .seq c53_35 c53_36
noncomputable def c53_37 : Code := .skip
noncomputable def c53_33 : Code := .cond (opdC (atC (bodyC Tryd.f53) [1, 1, 1, 1, 1, 1, 1, 1, 0, 1])) c53_34 c53_37
noncomputable def c53_31 : Code := .seq c53_32 c53_33
noncomputable def o53_39 : Array Oper := opsC (atC (bodyC Tryd.f53) [1, 1, 1, 1, 1, 1, 1, 1, 1, 0])
noncomputable def c53_39 : Code := .region 13 o53_39 false
noncomputable def o53_42 : Array Oper := opsC (atC (bodyC Tryd.f53) [1, 1, 1, 1, 1, 1, 1, 1, 1, 1, 0, 0])
noncomputable def c53_42 : Code := .region 14 o53_42 false
noncomputable def o53_45 : Array Oper := opsC (atC (bodyC Tryd.f53) [1, 1, 1, 1, 1, 1, 1, 1, 1, 1, 0, 1, 0, 0])
noncomputable def c53_45 : Code := .region 15 o53_45 false
noncomputable def c53_46 : Code := .ret
noncomputable def c53_44 : Code := .seq c53_45 c53_46
noncomputable def c53_47 : Code := .skip
noncomputable def c53_43 : Code := .cond (opdC (atC (bodyC Tryd.f53) [1, 1, 1, 1, 1, 1, 1, 1, 1, 1, 0, 1])) c53_44 c53_47
noncomputable def c53_41 : Code := .seq c53_42 c53_43
noncomputable def o53_50 : Array Oper := opsC (atC (bodyC Tryd.f53) [1, 1, 1, 1, 1, 1, 1, 1, 1, 1, 1, 0, 0])
noncomputable def c53_50 : Code := .region 16 o53_50 false
noncomputable def o53_53 : Array Oper := opsC (atC (bodyC Tryd.f53) [1, 1, 1, 1, 1, 1, 1, 1, 1, 1, 1, 0, 1, 0, 0])
noncomputable def c53_53 : Code := .region 17 o53_53 false
noncomputable def c53_54 : Code := .ret
noncomputable def c53_52 : Code := .seq c53_53 c53_54
noncomputable def c53_55 : Code := .skip
noncomputable def c53_51 : Code := .cond (opdC (atC (bodyC Tryd.f53) [1, 1, 1, 1, 1, 1, 1, 1, 1, 1, 1, 0, 1])) c53_52 c53_55
noncomputable def c53_49 : Code := .seq c53_50 c53_51
noncomputable def o53_57 : Array Oper := opsC (atC (bodyC Tryd.f53) [1, 1, 1, 1, 1, 1, 1, 1, 1, 1, 1, 1, 0])
noncomputable def c53_57 : Code := .region 18 o53_57 false
noncomputable def o53_60 : Array Oper := opsC (atC (bodyC Tryd.f53) [1, 1, 1, 1, 1, 1, 1, 1, 1, 1, 1, 1, 1, 0, 0])
noncomputable def c53_60 : Code := .region 19 o53_60 false
noncomputable def o53_63 : Array Oper := opsC (atC (bodyC Tryd.f53) [1, 1, 1, 1, 1, 1, 1, 1, 1, 1, 1, 1, 1, 0, 1, 0, 0])
noncomputable def c53_63 : Code := .region 20 o53_63 false
noncomputable def c53_64 : Code := .ret
noncomputable def c53_62 : Code := .seq c53_63 c53_64
noncomputable def c53_65 : Code := .skip
noncomputable def c53_61 : Code := .cond (opdC (atC (bodyC Tryd.f53) [1, 1, 1, 1, 1, 1, 1, 1, 1, 1, 1, 1, 1, 0, 1])) c53_62 c53_65
noncomputable def c53_59 : Code := .seq c53_60 c53_61
noncomputable def o53_68 : Array Oper := opsC (atC (bodyC Tryd.f53) [1, 1, 1, 1, 1, 1, 1, 1, 1, 1, 1, 1, 1, 1, 0, 0])
noncomputable def c53_68 : Code := .region 21 o53_68 false
noncomputable def o53_71 : Array Oper := opsC (atC (bodyC Tryd.f53) [1, 1, 1, 1, 1, 1, 1, 1, 1, 1, 1, 1, 1, 1, 0, 1, 0, 0])
noncomputable def c53_71 : Code := .region 22 o53_71 false
noncomputable def c53_72 : Code := .ret
noncomputable def c53_70 : Code := .seq c53_71 c53_72
noncomputable def c53_73 : Code := .skip
noncomputable def c53_69 : Code := .cond (opdC (atC (bodyC Tryd.f53) [1, 1, 1, 1, 1, 1, 1, 1, 1, 1, 1, 1, 1, 1, 0, 1])) c53_70 c53_73
noncomputable def c53_67 : Code := .seq c53_68 c53_69
noncomputable def o53_75 : Array Oper := opsC (atC (bodyC Tryd.f53) [1, 1, 1, 1, 1, 1, 1, 1, 1, 1, 1, 1, 1, 1, 1, 0])
noncomputable def c53_75 : Code := .region 23 o53_75 false
noncomputable def o53_78 : Array Oper := opsC (atC (bodyC Tryd.f53) [1, 1, 1, 1, 1, 1, 1, 1, 1, 1, 1, 1, 1, 1, 1, 1, 0, 0])
noncomputable def c53_78 : Code := .region 24 o53_78 false
noncomputable def o53_81 : Array Oper := opsC (atC (bodyC Tryd.f53) [1, 1, 1, 1, 1, 1, 1, 1, 1, 1, 1, 1, 1, 1, 1, 1, 0, 1, 0, 0])
noncomputable def c53_81 : Code := .region 25 o53_81 false
noncomputable def c53_82 : Code := .ret
noncomputable def c53_80 : Code := .seq c53_81 c53_82
noncomputable def c53_83 : Code := .skip
noncomputable def c53_79 : Code := .cond (opdC (atC (bodyC Tryd.f53) [1, 1, 1, 1, 1, 1, 1, 1, 1, 1, 1, 1, 1, 1, 1, 1, 0, 1])) c53_80 c53_83
noncomputable def c53_77 : Code := .seq c53_78 c53_79
noncomputable def o53_85 : Array Oper := opsC (atC (bodyC Tryd.f53) [1, 1, 1, 1, 1, 1, 1, 1, 1, 1, 1, 1, 1, 1, 1, 1, 1, 0])
noncomputable def c53_85 : Code := .region 26 o53_85 false
noncomputable def c53_86 : Code := .ret
noncomputable def c53_84 : Code := .seq c53_85 c53_86
noncomputable def c53_76 : Code := .seq c53_77 c53_84
noncomputable def c53_74 : Code := .seq c53_75 c53_76
noncomputable def c53_66 : Code := .seq c53_67 c53_74
noncomputable def c53_58 : Code := .seq c53_59 c53_66
noncomputable def c53_56 : Code := .seq c53_57 c53_58
noncomputable def c53_48 : Code := .seq c53_49 c53_56
noncomputable def c53_40 : Code := .seq c53_41 c53_48
noncomputable def c53_38 : Code := .seq c53_39 c53_40
noncomputable def c53_30 : Code := .seq c53_31 c53_38
noncomputable def c53_28 : Code := .seq c53_29 c53_30
noncomputable def c53_26 : Code := .seq c53_27 c53_28
noncomputable def c53_16 : Code := .seq c53_17 c53_26
noncomputable def c53_14 : Code := .seq c53_15 c53_16
noncomputable def c53_12 : Code := .seq c53_13 c53_14
noncomputable def c53_4 : Code := .seq c53_5 c53_12
noncomputable def c53_2 : Code := .seq c53_3 c53_4
noncomputable def c53_0 : Code := .seq c53_1 c53_2
noncomputable def F53 : Func := { Tryd.f53 with body := some c53_0 }
theorem F53_eq : Tryd.f53 = F53 := rfl
theorem at53 : Tryd.prog.funcs[53]? = some F53 := by rw [← F53_eq]; exact Tryd.func53
noncomputable def o54_1 : Array Oper := opsC (atC (bodyC Tryd.f54) [0])
noncomputable def c54_1 : Code := .region 0 o54_1 false
noncomputable def o54_3 : Array Oper := opsC (atC (bodyC Tryd.f54) [1, 0])
noncomputable def c54_3 : Code := .region 1 o54_3 false
noncomputable def c54_4 : Code := .ret
noncomputable def c54_2 : Code := .seq c54_3 c54_4
noncomputable def c54_0 : Code := .seq c54_1 c54_2
noncomputable def F54 : Func := { Tryd.f54 with body := some c54_0 }
theorem F54_eq : Tryd.f54 = F54 := rfl
theorem at54 : Tryd.prog.funcs[54]? = some F54 := by rw [← F54_eq]; exact Tryd.func54
noncomputable def o76_0 : Array Oper := opsC (atC (bodyC Tryd.f76) [])
noncomputable def c76_0 : Code := .region 0 o76_0 false
noncomputable def F76 : Func := { Tryd.f76 with body := some c76_0 }
theorem F76_eq : Tryd.f76 = F76 := rfl
theorem at76 : Tryd.prog.funcs[76]? = some F76 := by rw [← F76_eq]; exact Tryd.func76
instance : StOK o13_24 := ⟨by kernel_rfl⟩
instance : StOK o18_30 := ⟨by kernel_rfl⟩
instance : StOK o19_41 := ⟨by kernel_rfl⟩
instance : StOK o25_57 := ⟨by kernel_rfl⟩
instance : StOK o25_62 := ⟨by kernel_rfl⟩
instance : StOK o31_31 := ⟨by kernel_rfl⟩
instance : StOK o31_51 := ⟨by kernel_rfl⟩
instance : StOK o37_23 := ⟨by kernel_rfl⟩
end Go.Proofs.YtbcfagackcnpkaaDoor.Ev
/- The seat's functions for the walker: the kinds of their parameters, where all are data; their live slots, block by block. Written by a program of this session. -/
namespace Go.Proofs.YtbcfagackcnpkaaDoor.Ev
open Go
set_option maxRecDepth 100000
structure FnRow where
  fn : Func
  ts : Option (List Ty)
  live : List (Nat × List Nat × List Nat)
def lookL : List (Nat × List Nat × List Nat) → Nat → List Nat × List Nat
  | [], _ => ([], [])
  | (b, x) :: l, n => match Nat.beq b n with | true => x | false => lookL l n
noncomputable def fnRows : List (Option FnRow) := [
  none,
  none,
  some ⟨F2, some [], []⟩,
  some ⟨F3, some [(.li (.it .u8))], []⟩,
  some ⟨F4, some [(.li (.li (.it .u8))), (.it .i64)], [(0, [0, 1, 5, 6, 10, 11], [0, 1, 5, 10, 11]), (1, [], [0, 1, 5, 6, 10, 11])]⟩,
  some ⟨F5, some [(.li (.li (.it .u8))), (.it .i64), (.it .u8)], [(0, [0, 1, 7, 8, 10, 11], [0, 7, 10, 11]), (1, [], [0, 1, 7, 8, 10, 11])]⟩,
  some ⟨F6, some [(.li (.li (.it .u8))), (.it .i64), (.li (.li (.it .u8)))], [(0, [2, 7, 10, 12], [2, 7, 10]), (1, [], [2, 7, 10, 12])]⟩,
  some ⟨F7, some [(.it .i64), (.li (.it .u8)), (.it .i64)], []⟩,
  some ⟨F8, some [(.it .i64), (.it .i64)], []⟩,
  some ⟨F9, some [(.it .i64), (.it .i64)], [(0, [0, 1, 5, 6, 7, 8], [5, 6]), (1, [], [0, 1, 5, 6, 7, 8]), (2, [0, 1, 5, 6, 7, 8, 9, 10], [0, 1, 5, 6, 7, 8, 9]), (3, [], [0, 1, 5, 6, 7, 8, 9, 10])]⟩,
  some ⟨F10, some [], []⟩,
  some ⟨F11, some [(.li (.it .u8))], [(0, [0, 4, 5], [2, 3]), (1, [], [0, 4, 5])]⟩,
  some ⟨F12, some [(.li (.it .u8))], [(0, [0, 4, 5], [4, 5]), (1, [], [0, 4, 5])]⟩,
  some ⟨F13, some [(.li (.li (.it .u8))), (.li (.li (.it .u8)))], [(0, [0, 1, 5], []), (1, [], [0, 1, 5])]⟩,
  some ⟨F14, some [(.li (.it .u8)), (.li (.it .u8))], []⟩,
  some ⟨F15, some [(.li (.it .u8))], [(0, [0, 2], []), (1, [], [0, 2])]⟩,
  some ⟨F16, some [(.li (.li (.it .u8)))], [(0, [0, 3, 4], [0, 3]), (1, [], [0, 3, 4])]⟩,
  some ⟨F17, some [(.li (.li (.it .u8)))], [(0, [0, 5, 6, 7], [5, 6]), (1, [], [0, 5, 6, 7]), (999999, [5], [])]⟩,
  some ⟨F18, some [(.li (.it .u8))], [(0, [0, 3, 4], [3]), (1, [], [0, 3, 4])]⟩,
  some ⟨F19, some [(.it .i64), (.li (.it .u8))], [(0, [0, 1, 6, 7, 8], [6]), (1, [], [0, 1, 6, 7, 8])]⟩,
  some ⟨F20, some [(.li (.li (.it .u8)))], [(0, [0, 3, 4], [3]), (1, [], [0, 3, 4])]⟩,
  some ⟨F21, some [(.it .i64), (.li (.it .u8))], [(0, [0, 1, 6, 7], [4, 5]), (1, [], [0, 1, 6, 7]), (2, [], [0, 1, 6, 9, 10, 11])]⟩,
  some ⟨F22, some [(.it .i64), (.it .i64)], []⟩,
  some ⟨F23, some [(.it .i64), (.it .i64)], []⟩,
  some ⟨F24, some [(.li (.it .u8)), (.it .i64)], [(0, [0, 1, 7, 8, 9], [4, 5, 6]), (1, [], [0, 1, 7, 8, 9]), (2, [], []), (3, [], [0, 7, 8, 9, 10, 11]), (4, [], [0, 7, 8, 9, 10, 11]), (5, [], [7, 9, 11]), (6, [], [7, 9, 11])]⟩,
  some ⟨F25, some [(.li (.it .u8)), (.it .i64)], [(0, [0, 1, 7, 8], [4, 5, 6]), (1, [], [0, 1, 7, 8]), (2, [0, 1, 7, 8, 9, 10], [0, 1, 7, 8, 9]), (3, [], [0, 1, 7, 8, 9, 10])]⟩,
  some ⟨F26, some [(.it .i64)], []⟩,
  some ⟨F27, some [(.it .u8), (.li (.it .u8))], []⟩,
  some ⟨F28, some [.bo, .bo], [(0, [], [])]⟩,
  some ⟨F29, some [(.it .i64), (.li (.it .u8))], []⟩,
  some ⟨F30, none, []⟩,
  some ⟨F31, some [(.li (.it .u8)), (.it .i64)], []⟩,
  some ⟨F32, some [(.li (.it .u8)), (.it .i64), (.it .i64)], [(0, [0, 1, 7, 8], [7]), (1, [], [0, 1, 7, 8])]⟩,
  some ⟨F33, some [(.li (.it .u8))], [(0, [0, 3, 4], [3]), (1, [], [0, 3, 4]), (2, [0, 3, 4, 5], [0, 3, 4]), (3, [], [0, 3, 4, 5])]⟩,
  some ⟨F34, some [(.it .u32)], []⟩,
  some ⟨F35, some [(.li (.it .u8))], [(0, [3, 6, 7, 8], [3]), (1, [], [3, 6, 7, 8]), (2, [3, 6, 7, 8, 16], [3, 6, 7, 8]), (3, [], [3, 6, 7, 8, 16])]⟩,
  some ⟨F36, some [(.li (.it .u8))], []⟩,
  some ⟨F37, some [(.li (.it .u8)), .st], []⟩,
  some ⟨F38, some [(.li (.it .u8))], []⟩,
  some ⟨F39, some [(.it .u64), (.it .i64)], [(0, [0, 5, 7, 8], [5]), (1, [], [0, 5, 7, 8])]⟩,
  some ⟨F40, some [(.it .u64), (.it .i64)], [(0, [0, 1, 5, 6], [5]), (1, [], [0, 1, 5, 6])]⟩,
  some ⟨F41, some [(.li (.it .u8)), (.it .u8)], [(0, [0, 1], [0]), (1, [], [0, 1])]⟩,
  some ⟨F42, some [(.li (.it .u8)), (.it .u8)], [(0, [0, 1], [0]), (1, [], [0, 1])]⟩,
  some ⟨F43, some [.st], [(0, [0, 2, 4], [2]), (1, [], [0, 2, 4])]⟩,
  some ⟨F44, none, [(0, [0, 1], [0]), (1, [], [0, 1])]⟩,
  some ⟨F45, none, [(0, [0, 1], [0]), (1, [], [0, 1])]⟩,
  some ⟨F46, some [(.li (.it .u8)), .st], [(0, [0, 1], [0]), (1, [], [0, 1])]⟩,
  some ⟨F47, some [(.li (.it .u8)), .st], [(0, [0, 1], [0]), (1, [], [0, 1])]⟩,
  some ⟨F48, some [(.li (.it .u8)), (.it .i64)], [(0, [0, 6, 12, 13], [6]), (1, [], [0, 6, 12, 13])]⟩,
  some ⟨F49, none, []⟩,
  some ⟨F50, some [(.li (.it .u8))], [(0, [0, 6, 7, 8], [0]), (1, [], [0, 6, 7, 8])]⟩,
  some ⟨F51, some [.st, (.it .i32)], [(0, [1, 8], []), (1, [], [1, 8])]⟩,
  some ⟨F52, some [(.li (.it .u8))], [(0, [0, 4, 5, 6], [0, 4, 5]), (1, [], [0, 4, 5, 6])]⟩,
  some ⟨F53, some [(.li (.it .u8))], []⟩,
  some ⟨F54, some [(.it .u8)], []⟩,
  none,
  none,
  none,
  none,
  none,
  none,
  none,
  none,
  none,
  none,
  none,
  none,
  none,
  none,
  none,
  none,
  none,
  none,
  none,
  none,
  none,
  some ⟨F76, some [], []⟩]
end Go.Proofs.YtbcfagackcnpkaaDoor.Ev
namespace Go.Proofs.YtbcfagackcnpkaaDoor.Ev
open Go
set_option maxRecDepth 100000
theorem fns_at : ∀ (g : FuncId) (x : FnRow), fnRows.getD g none = some x → Tryd.prog.funcs[g]? = some x.fn ∧ (x.fn.name == "runtime.NumGoroutine") = false ∧ x.fn.body.isNone = false
  | 0, x, h => by cases h
  | 1, x, h => by cases h
  | 2, x, h => by obtain rfl := Option.some.inj h; exact ⟨at2, by kernel_rfl, by kernel_rfl⟩
  | 3, x, h => by obtain rfl := Option.some.inj h; exact ⟨at3, by kernel_rfl, by kernel_rfl⟩
  | 4, x, h => by obtain rfl := Option.some.inj h; exact ⟨at4, by kernel_rfl, by kernel_rfl⟩
  | 5, x, h => by obtain rfl := Option.some.inj h; exact ⟨at5, by kernel_rfl, by kernel_rfl⟩
  | 6, x, h => by obtain rfl := Option.some.inj h; exact ⟨at6, by kernel_rfl, by kernel_rfl⟩
  | 7, x, h => by obtain rfl := Option.some.inj h; exact ⟨at7, by kernel_rfl, by kernel_rfl⟩
  | 8, x, h => by obtain rfl := Option.some.inj h; exact ⟨at8, by kernel_rfl, by kernel_rfl⟩
  | 9, x, h => by obtain rfl := Option.some.inj h; exact ⟨at9, by kernel_rfl, by kernel_rfl⟩
  | 10, x, h => by obtain rfl := Option.some.inj h; exact ⟨at10, by kernel_rfl, by kernel_rfl⟩
  | 11, x, h => by obtain rfl := Option.some.inj h; exact ⟨at11, by kernel_rfl, by kernel_rfl⟩
  | 12, x, h => by obtain rfl := Option.some.inj h; exact ⟨at12, by kernel_rfl, by kernel_rfl⟩
  | 13, x, h => by obtain rfl := Option.some.inj h; exact ⟨at13, by kernel_rfl, by kernel_rfl⟩
  | 14, x, h => by obtain rfl := Option.some.inj h; exact ⟨at14, by kernel_rfl, by kernel_rfl⟩
  | 15, x, h => by obtain rfl := Option.some.inj h; exact ⟨at15, by kernel_rfl, by kernel_rfl⟩
  | 16, x, h => by obtain rfl := Option.some.inj h; exact ⟨at16, by kernel_rfl, by kernel_rfl⟩
  | 17, x, h => by obtain rfl := Option.some.inj h; exact ⟨at17, by kernel_rfl, by kernel_rfl⟩
  | 18, x, h => by obtain rfl := Option.some.inj h; exact ⟨at18, by kernel_rfl, by kernel_rfl⟩
  | 19, x, h => by obtain rfl := Option.some.inj h; exact ⟨at19, by kernel_rfl, by kernel_rfl⟩
  | 20, x, h => by obtain rfl := Option.some.inj h; exact ⟨at20, by kernel_rfl, by kernel_rfl⟩
  | 21, x, h => by obtain rfl := Option.some.inj h; exact ⟨at21, by kernel_rfl, by kernel_rfl⟩
  | 22, x, h => by obtain rfl := Option.some.inj h; exact ⟨at22, by kernel_rfl, by kernel_rfl⟩
  | 23, x, h => by obtain rfl := Option.some.inj h; exact ⟨at23, by kernel_rfl, by kernel_rfl⟩
  | 24, x, h => by obtain rfl := Option.some.inj h; exact ⟨at24, by kernel_rfl, by kernel_rfl⟩
  | 25, x, h => by obtain rfl := Option.some.inj h; exact ⟨at25, by kernel_rfl, by kernel_rfl⟩
  | 26, x, h => by obtain rfl := Option.some.inj h; exact ⟨at26, by kernel_rfl, by kernel_rfl⟩
  | 27, x, h => by obtain rfl := Option.some.inj h; exact ⟨at27, by kernel_rfl, by kernel_rfl⟩
  | 28, x, h => by obtain rfl := Option.some.inj h; exact ⟨at28, by kernel_rfl, by kernel_rfl⟩
  | 29, x, h => by obtain rfl := Option.some.inj h; exact ⟨at29, by kernel_rfl, by kernel_rfl⟩
  | 30, x, h => by obtain rfl := Option.some.inj h; exact ⟨at30, by kernel_rfl, by kernel_rfl⟩
  | 31, x, h => by obtain rfl := Option.some.inj h; exact ⟨at31, by kernel_rfl, by kernel_rfl⟩
  | 32, x, h => by obtain rfl := Option.some.inj h; exact ⟨at32, by kernel_rfl, by kernel_rfl⟩
  | 33, x, h => by obtain rfl := Option.some.inj h; exact ⟨at33, by kernel_rfl, by kernel_rfl⟩
  | 34, x, h => by obtain rfl := Option.some.inj h; exact ⟨at34, by kernel_rfl, by kernel_rfl⟩
  | 35, x, h => by obtain rfl := Option.some.inj h; exact ⟨at35, by kernel_rfl, by kernel_rfl⟩
  | 36, x, h => by obtain rfl := Option.some.inj h; exact ⟨at36, by kernel_rfl, by kernel_rfl⟩
  | 37, x, h => by obtain rfl := Option.some.inj h; exact ⟨at37, by kernel_rfl, by kernel_rfl⟩
  | 38, x, h => by obtain rfl := Option.some.inj h; exact ⟨at38, by kernel_rfl, by kernel_rfl⟩
  | 39, x, h => by obtain rfl := Option.some.inj h; exact ⟨at39, by kernel_rfl, by kernel_rfl⟩
  | 40, x, h => by obtain rfl := Option.some.inj h; exact ⟨at40, by kernel_rfl, by kernel_rfl⟩
  | 41, x, h => by obtain rfl := Option.some.inj h; exact ⟨at41, by kernel_rfl, by kernel_rfl⟩
  | 42, x, h => by obtain rfl := Option.some.inj h; exact ⟨at42, by kernel_rfl, by kernel_rfl⟩
  | 43, x, h => by obtain rfl := Option.some.inj h; exact ⟨at43, by kernel_rfl, by kernel_rfl⟩
  | 44, x, h => by obtain rfl := Option.some.inj h; exact ⟨at44, by kernel_rfl, by kernel_rfl⟩
  | 45, x, h => by obtain rfl := Option.some.inj h; exact ⟨at45, by kernel_rfl, by kernel_rfl⟩
  | 46, x, h => by obtain rfl := Option.some.inj h; exact ⟨at46, by kernel_rfl, by kernel_rfl⟩
  | 47, x, h => by obtain rfl := Option.some.inj h; exact ⟨at47, by kernel_rfl, by kernel_rfl⟩
  | 48, x, h => by obtain rfl := Option.some.inj h; exact ⟨at48, by kernel_rfl, by kernel_rfl⟩
  | 49, x, h => by obtain rfl := Option.some.inj h; exact ⟨at49, by kernel_rfl, by kernel_rfl⟩
  | 50, x, h => by obtain rfl := Option.some.inj h; exact ⟨at50, by kernel_rfl, by kernel_rfl⟩
  | 51, x, h => by obtain rfl := Option.some.inj h; exact ⟨at51, by kernel_rfl, by kernel_rfl⟩
  | 52, x, h => by obtain rfl := Option.some.inj h; exact ⟨at52, by kernel_rfl, by kernel_rfl⟩
  | 53, x, h => by obtain rfl := Option.some.inj h; exact ⟨at53, by kernel_rfl, by kernel_rfl⟩
  | 54, x, h => by obtain rfl := Option.some.inj h; exact ⟨at54, by kernel_rfl, by kernel_rfl⟩
  | 55, x, h => by cases h
  | 56, x, h => by cases h
  | 57, x, h => by cases h
  | 58, x, h => by cases h
  | 59, x, h => by cases h
  | 60, x, h => by cases h
  | 61, x, h => by cases h
  | 62, x, h => by cases h
  | 63, x, h => by cases h
  | 64, x, h => by cases h
  | 65, x, h => by cases h
  | 66, x, h => by cases h
  | 67, x, h => by cases h
  | 68, x, h => by cases h
  | 69, x, h => by cases h
  | 70, x, h => by cases h
  | 71, x, h => by cases h
  | 72, x, h => by cases h
  | 73, x, h => by cases h
  | 74, x, h => by cases h
  | 75, x, h => by cases h
  | 76, x, h => by obtain rfl := Option.some.inj h; exact ⟨at76, by kernel_rfl, by kernel_rfl⟩
  | g + 77, x, h => by simp [fnRows] at h
end Go.Proofs.YtbcfagackcnpkaaDoor.Ev
/- Contracts that are the walker's own: for what is run on given data; and bytes.Clone's, by hand. -/
namespace Go.Proofs.YtbcfagackcnpkaaDoor.Ev
open Go Go.RowKit
set_option linter.unusedVariables false
set_option linter.unusedSimpArgs false
set_option maxRecDepth 100000

noncomputable def fnOf (g : FuncId) : Option Func := (fnRows.getD g none).map (·.fn)
noncomputable def ctxOf (g : FuncId) : Ctx := ⟨rows, match fnRows.getD g none with | some x => lookL x.live | none => fun _ => ([], [])⟩
/-- all that may be called on data is called by contract; the rest is gone into -/
noncomputable def autoTab [tI : Tst] (t0 : Tab) (fuel : Nat) : Nat → Tab
  | 0 => t0
  | d + 1 => fun g => match t0 g with
    | some y => some y
    | none => match fnRows.getD g none with
      | some x => match x.ts with
        | some ts => some (ts, fun xs => (evFn (ctxOf g) (autoTab t0 fuel d) (inlH ctxOf (autoTab t0 fuel d) fuel fnOf d) fuel x.fn xs [] (fun v S => exportV S v)).map fun v => (true, v))
        | none => none
      | none => none

theorem fnsOK : FnsOK Tryd.prog fnOf := by
  intro g fn h
  simp only [fnOf, Option.map_eq_some_iff] at h
  obtain ⟨x, hx, rfl⟩ := h
  exact fns_at g x hx
theorem autoTab_far [tI : Tst] {t0 : Tab} (h0 : TabFar Tryd.prog t0) (fuel : Nat) : ∀ d, TabFar Tryd.prog (autoTab t0 fuel d)
  | 0 => h0
  | d + 1 => by
    have ih := autoTab_far h0 fuel d
    intro g ts F h
    simp only [autoTab] at h
    cases hy : t0 g with
    | some y =>
      rw [hy] at h
      simp only [Option.some.injEq] at h; subst h
      exact h0 g ts F hy
    | none =>
      rw [hy] at h
      simp only at h
      cases hx : fnRows.getD g none with
      | none => rw [hx] at h; simp at h
      | some x =>
        rw [hx] at h
        simp only at h
        obtain ⟨h1, h2, h3⟩ := fns_at g x hx
        cases ht : x.ts with
        | none => rw [ht] at h; simp at h
        | some ts' =>
          rw [ht] at h
          simp only [Option.some.injEq, Prod.mk.injEq] at h
          obtain ⟨rfl, rfl⟩ := h
          intro vs xs v _ hv
          refine .inl ⟨⟨x.fn, h1, h2, h3⟩, ?_⟩
          simp only [Option.map_eq_some_iff, Prod.mk.injEq, true_and, exists_eq_right] at hv
          exact far_fn (rows_ok _) (tabFar_ok ih) (inl_ok (fun _ => rows_ok _) (tabFar_ok ih) mixed fnsOK d) mixed fuel h1 hv

end Go.Proofs.YtbcfagackcnpkaaDoor.Ev
/- Methods by contract: a call on an object of the caller's own, whose cells are data, and on data. -/
namespace Go.Proofs.YtbcfagackcnpkaaDoor.Ev
open Go Go.RowKit
set_option linter.unusedVariables false
set_option linter.unusedSimpArgs false

/-- what a method tells: its object's kind, those of its arguments; where, what becomes of the object, what is told -/
structure MEnt where
  T : Ty
  ts : List Ty
  F : T.den → List V → Option (Bool × T.den × V)
abbrev MTab := FuncId → Option MEnt

def importK {R : Type} (id : Nat) (S : List Ent) (v : V) (k : V → List Ent → Option R) : Option R :=
  match importV id v with
  | (v', some n) => setE S id (.fam n) fun S => k v' S
  | (v', none) => k v' S
def methH {R : Type} [tI : Tst] (M : MTab) (next : CallH R) : CallH R := fun g args id S k =>
  match M g with
  | none => next g args id S k
  | some e => match args with
    | .p o 0 :: rest => match ent S o with
      | .obj cs => match asT e.T (.agg cs) with
        | some x => match argsV e.ts rest with
          | some ys => match e.F x ys with
            | some (b, x', v) => br b (setE S o (.obj (flatT e.T x')) fun S => importK id S v k) none
            | none => none
          | none => none
        | none => none
      | _ => none
    | _ => none

/-- the world of a method: its object alone, that lies in a block which is lent -/
def Env.lend (m : Mem) (b : Nat) : Env := ⟨m, fun _ => b, fun _ => 0, fun _ => undef, fun _ => 0, fun _ => none, fun o => o = 0, m, fun k => k = b, fun _ _ => none⟩
def MRes [tI : Tst] (P : Program) (g : FuncId) (T : Ty) (x : T.den) (ys : List V) (x' : T.den) (v : V) : Prop :=
  ∀ (m : Mem) (w : World) (b : Nat) (us0 us : List Value) (ty : TypeId) (R : Ending → World → Prop), m.lies w → w.heap[b]? = some (.cells us0.toArray ty (0, 0)) → RepL m T x us0 → (∀ j, m b j = none) → RepVs (Env.of m) ys us →
    (∀ E' S' v' u w' cs, (Env.lend m b).Le E' → Sim w.heap.size w E' S' w' → ent S' 0 = .obj cs → asT T (.agg cs) = some x' → RepV E' v' u → exportV S' v' = some v → R (.returned u) w') →
    Calls P g (.pointer (some ⟨b, 0, none⟩) :: us).toArray w R
/-- what a walk of the method tells: the result, and the object's data -/
def exportM [tI : Tst] (T : Ty) (v : V) (S : List Ent) : Option (V × T.den) :=
  exportK S v fun v => match ent S 0 with
    | .obj cs => match asT T (.agg cs) with
      | some x => some (v, x)
      | none => none
    | _ => none

theorem repVs_env {E E2 : Env} (hm : E2.m = E.m) {ts : List Ty} {vs xs : List V} {us : List Value} (h : argsV ts vs = some xs) (hr : RepVs E vs us) [tI : Tst] : RepVs E2 xs us := (argsV_rep h hr).2 E2 hm

theorem meth_fn [tI : Tst] {P : Program} {C : Ctx} {tab : Tab} {T : Ty} {call : CallH (V × T.den)} (hC : RowsOK P C) (hT : TabOK P tab) (hcall : CallOK P call) (hm : P.follows .mixedOrders = true) (fuel : Nat) {f : FuncId} {fn : Func} (hf : P.funcs[f]? = some fn)
    {x x' : T.den} {ys : List V} {v : V} (hy : ∀ (E E2 : Env) us, E2.m = E.m → RepVs E ys us → RepVs E2 ys us)
    (h : evFn C tab call fuel fn (.p 0 0 :: ys) [.obj (flatT T x)] (exportM T) = some (v, x')) : MRes P f T x ys x' v := by
  obtain ⟨v', S', h1, h2⟩ := fn_ok hC hT hcall hm fuel hf h
  unfold exportM at h1
  obtain ⟨v1, e1, e2⟩ := exportK_exp h1
  have e3 := exportV_of e1
  have h3 := h2 (export_notBad e3)
  split at e2
  case h_2 => simp at e2
  rename_i cs hcs
  split at e2
  case h_2 => simp at e2
  rename_i z hz
  simp only [Option.some.injEq, Prod.mk.injEq] at e2
  obtain ⟨rfl, rfl⟩ := e2
  intro m w b us0 us ty R hl hb hx hn hr hR
  have hb' : b < w.heap.size := (Array.getElem?_eq_some_iff.1 hb).1
  have one := RepL.one _ _ _ hx
  refine h3.2 w.heap.size w (Env.lend m b) w (.pointer (some ⟨b, 0, none⟩) :: us) R ?_ ?_ ?_
  · refine ⟨⟨rfl, rfl, rfl, Nat.le_refl _, fun _ _ _ => rfl⟩, Nat.le_refl _, hl, ?_, ?_, ?_, fun _ _ _ => rfl, fun _ _ _ h => by simp [Env.lend] at h⟩
    · intro o
      cases o with
      | zero => exact ⟨rfl, .inr rfl, us0, ty, hb, flatT_rep T x us0 hx, one, hn⟩
      | succ o => simp [ent, EntOK]
    · intro o o' B hne ho ho'
      cases o with
      | zero => cases o' with
        | zero => exact hne rfl
        | succ o' => simp [ent, owns] at ho'
      | succ o => simp [ent, owns] at ho
    · intro o ho
      have : o = 0 := ho
      subst this
      simp
  · simp only [RepVs]
    exact ⟨by simp only [RepV]; exact ⟨rfl, rfl⟩, hy (Env.of m) _ us rfl hr⟩
  · intro E' u w' k1 k0 k2 k3
    exact hR E' S' v' u w' cs k1 k2 hcs hz k3 e3
/-- the contracts of methods hold -/
def MTabOK [tI : Tst] (P : Program) (M : MTab) : Prop :=
  ∀ g e, M g = some e → (∃ fn, P.funcs[g]? = some fn ∧ (fn.name == "runtime.NumGoroutine") = false ∧ fn.body.isNone = false) ∧ e.T.agg = true ∧ ∀ x vs ys x' v, argsV e.ts vs = some ys → e.F x ys = some (true, x', v) → MRes P g e.T x ys x' v
theorem asT_agg [tI : Tst] {E : Env} {T : Ty} (hT : T.agg = true) {cs : List V} {us : List Value} {x : T.den} (h : asT T (.agg cs) = some x) (hr : RepVs E cs us) : RepL E.m T x us := by
  simp only [asT, hT, if_true] at h
  split at h
  · rename_i y hy
    simp only [Option.some.injEq] at h; subst h
    obtain ⟨u1, u2, rfl, h1, h2⟩ := unflat_rep _ _ _ _ _ hy hr
    cases u2 with
    | nil => simpa using h1
    | cons u u2 => simp [RepVs] at h2
  · simp at h
theorem meth_ok {R : Type} [tI : Tst] {P : Program} {M : MTab} {next : CallH R} (hM : MTabOK P M) (hnext : CallOK P next) : CallOK P (methH M next) := by
  intro g args id S k r h
  unfold methH at h
  cases hg : M g with
  | none => rw [hg] at h; exact hnext g args id S k r h
  | some e =>
    rw [hg] at h
    simp only at h
    obtain ⟨⟨fn, hfn, hn, hbd⟩, hagg, hres⟩ := hM g e hg
    split at h
    case h_2 => simp at h
    rename_i o rest
    split at h
    case h_2 => simp at h
    rename_i cs hcs
    split at h
    case h_2 => simp at h
    rename_i x hx
    split at h
    case h_2 => simp at h
    rename_i ys hys
    split at h
    case h_2 => simp at h
    rename_i b x' v hF
    cases b with
    | false => simp [br] at h
    | true =>
    simp only [br] at h
    rw [setE_eq] at h
    have hfar := hres x rest ys x' v hys hF
    have hrun : ∀ (us : List Value) (w : World), (callFunc g us.toArray).run P w = .ok (.enter g us.toArray) w := by
      intro us w
      have hn' : fn.name ≠ "runtime.NumGoroutine" := by simpa using hn
      have hb' : fn.body ≠ none := by intro e; rw [e] at hbd; simp at hbd
      simp [callFunc, hfn, hn', hb']
    -- what the machine's call comes to, whatever is told
    have main : ∀ (base : Nat) (w0 : World) (E : Env) (w : World) (us : List Value) (Q : Value → World → Prop), Sim base w0 E S w → RepVs E (.p o 0 :: rest) us →
        (∀ (E' : Env) (S' : List Ent) (v' : V) (u : Value) (w' : World) (us1 : List Value) (ty1 : TypeId), E.live o → o < S.length → E.m.le E'.m → w'.heap[E.blk o]? = some (.cells us1.toArray ty1 (0, 0)) → (∀ u ∈ us1, u.oneCell' = true) → RepL E'.m e.T x' us1 → (∀ j, E'.m (E.blk o) j = none) →
          BelowX E.lent base w w' → (∀ i B, i ≠ o → owns E i (ent S i) = some B → B < w.heap.size ∧ w'.heap[B]? = w.heap[B]? ∧ ∀ j, E'.m B j = E.m B j) → (∀ b, b < w.heap.size → ∀ j, E'.m b j = E.m b j) → E.blk o < w.heap.size → (base ≤ E.blk o ∨ E.lent (E.blk o)) →
          Sim w.heap.size w E' S' w' → RepV E' v' u → exportV S' v' = some v → Q u w') → Called P g us.toArray w Q := by
      intro base w0 E w us Q sim hargs hQ
      cases us with
      | nil => simp [RepVs] at hargs
      | cons u0 us =>
      simp only [RepVs] at hargs
      obtain ⟨hu0, hrest⟩ := hargs
      simp only [RepV] at hu0
      obtain ⟨hlive, rfl⟩ := hu0
      have he := sim.ents o
      rw [hcs] at he
      obtain ⟨_, hbase, us0, ty, hb, hr, hone, hnone⟩ := he
      have hb' : E.blk o < w.heap.size := (Array.getElem?_eq_some_iff.1 hb).1
      unfold Called
      rw [hrun]
      refine hfar E.m w (E.blk o) us0 us ty _ sim.mem hb (asT_agg hagg hx hr) hnone ((argsV_rep hys hrest).2 _ rfl) ?_
      intro E' S' v' u w' cs' k1 k2 k3 k4 k5 k6
      refine ⟨u, rfl, ?_⟩
      have kb : BelowX (fun k => k = E.blk o) w.heap.size w w' := by have := k2.below; rw [k1.lent] at this; exact this
      have hold : ∀ b, b < w.heap.size → ∀ j, E'.m b j = E.m b j := fun b hb j => by rw [k2.old b hb j, k1.m0]; rfl
      have he' := k2.ents 0
      rw [k3] at he'
      obtain ⟨l1, _, us1, ty1, hb1, hr1, one1, hn1⟩ := he'
      have hblk0 : E'.blk 0 = E.blk o := k1.blk 0 rfl
      rw [hblk0] at hb1 hn1
      refine hQ E' S' v' u w' us1 ty1 hlive (sim.lt o hlive) k1.m hb1 one1 (asT_agg hagg k4 hr1) hn1 ?_ ?_ hold hb' hbase k2 k5 k6
      · refine ⟨kb.os, kb.tape, kb.output, kb.size, fun k hk hx => kb.block k (Nat.lt_of_lt_of_le hk sim.base_le) ?_⟩
        rintro rfl
        exact hbase.elim (fun h => by omega) hx
      · intro i B hi hB
        have hne : B ≠ E.blk o := by
          rintro rfl
          exact sim.apart i o _ hi hB (by rw [hcs]; rfl)
        have := (owns_lt sim hB).2
        exact ⟨this, kb.block B this hne, hold B this⟩
    unfold importK at h
    split at h
    · rename_i v1 n himp
      rw [setE_eq] at h
      refine ⟨v1, _, h, by simp, ?_⟩
      intro base w0 E w us sim hargs hid
      refine main base w0 E w us _ sim hargs ?_
      intro E' S' v' u w' us1 ty1 hlive hlt hmle hb1 one1 hx1 hn1 hbel hblk hold hb' hbase k2 k5 k6
      have hoid : o ≠ id := by rintro rfl; exact hid.1 hlive
      rcases import_rep (E := E) id k6 k5 with ⟨hi, _⟩ | ⟨o2, n2, ho2, hi, hr'⟩
      · rw [himp] at hi; simp at hi
      · rw [himp] at hi hr'
        simp only [Option.some.injEq] at hi
        subst hi
        have hle : E.Le (E.imp E' id o2) := (Env.le_setM hmle).trans (Env.le_add (E := E.setM E'.m) hid.1 _ _ _ _ _)
        refine ⟨E.imp E' id o2, hle, ?_, hr', fun i l => l.elim (fun h => .inr (.inl h)) (fun h => .inl h)⟩
        have he2 := k2.ents o2
        obtain ⟨f1, f2, f3⟩ : E'.live o2 ∧ n = E'.len o2 ∧ FamOK E' w.heap.size w' o2 := by
          rcases ho2 with ho2 | ho2
          · rw [ho2] at he2; exact he2
          · rw [ho2] at he2; exact he2.1
        have fin : ent ((S.set o (.obj (flatT e.T x'))).set id (.fam n)) id = .fam n := ent_set_same _ (by simpa using hid.2)
        have fino : ent ((S.set o (.obj (flatT e.T x'))).set id (.fam n)) o = .obj (flatT e.T x') := by rw [ent_set_ne _ hoid]; exact ent_set_same _ hlt
        have himpo : (E.imp E' id o2).blk o = E.blk o := if_neg (h := instDecidableEqNat o id) hoid
        refine sim.step hle hbel (fun i => i = o ∨ i = id) ?_ (fun i B hi hB => (hblk i B (fun h => hi (.inl h)) hB).2) k2.mem ?_ ?_ ?_ ?_ (fun b hb j => hold b (Nat.lt_of_lt_of_le hb sim.base_le) j)
        · intro i hi
          have h1 : i ≠ o := fun h => hi (.inl h)
          have h2 : i ≠ id := fun h => hi (.inr h)
          exact ⟨by rw [ent_set_ne _ h2, ent_set_ne _ h1], fun _ => ⟨if_neg (h := instDecidableEqNat i id) h2, if_neg (h := instDecidableEqNat i id) h2⟩⟩
        · rintro i (rfl | rfl)
          · rw [fino]
            refine ⟨.inr hlive, by rw [himpo, hle.lent]; exact hbase, us1, ty1, by rw [himpo]; exact hb1, flatT_rep _ _ _ hx1, one1, fun j => by rw [himpo]; exact hn1 j⟩
          · rw [fin]
            refine ⟨.inl rfl, by simp [Env.imp, Env.add, f2], ?_⟩
            unfold FamOK at f3 ⊢
            simp only [Env.imp, Env.add, Env.setM, if_true]
            cases hx : E'.ex o2 with
            | none => rw [hx] at f3; exact f3
            | some g =>
              rw [hx] at f3
              obtain ⟨cap, cur, e, q1, q2, q3⟩ := f3
              exact ⟨cap, cur, e, q1, Nat.le_trans sim.base_le q2, q3⟩
        · rintro i B (rfl | rfl) hB i' hi' hB'
          · rw [fino] at hB
            simp only [owns, himpo, Option.some.injEq] at hB
            subst hB
            exact sim.apart i' i _ (fun h => hi' (.inl h)) hB' (by rw [hcs]; rfl)
          · rw [fin] at hB
            simp only [owns, Env.imp, Env.add, if_true] at hB
            unfold FamOK at f3
            rw [hB] at f3
            obtain ⟨cap, cur, e, q1, q2, q3⟩ := f3
            have := (owns_lt sim hB').2
            omega
        · have key : ∀ B, owns (E.imp E' id o2) id (.fam n) = some B → B ≠ E.blk o := by
            intro B hB
            simp only [owns, Env.imp, Env.add, if_true] at hB
            unfold FamOK at f3
            rw [hB] at f3
            obtain ⟨cap, cur, e, q1, q2, q3⟩ := f3
            omega
          rintro i i' B (rfl | rfl) (rfl | rfl) hne h1 h2
          · exact hne rfl
          · rw [fino] at h1; rw [fin] at h2
            simp only [owns, himpo, Option.some.injEq] at h1
            exact key B h2 h1.symm
          · rw [fin] at h1; rw [fino] at h2
            simp only [owns, himpo, Option.some.injEq] at h2
            exact key B h1 h2.symm
          · exact hne rfl
        · rintro i (rfl | l)
          · simpa using hid.2
          · simpa using sim.lt _ l
    · rename_i v1 himp
      refine ⟨v1, _, h, by simp, ?_⟩
      intro base w0 E w us sim hargs hid
      refine main base w0 E w us _ sim hargs ?_
      intro E' S' v' u w' us1 ty1 hlive hlt hmle hb1 one1 hx1 hn1 hbel hblk hold hb' hbase k2 k5 k6
      rcases import_rep (E := E) id k6 k5 with ⟨hi, hr'⟩ | ⟨o2, n2, ho2, hi, _⟩
      · rw [himp] at hr'
        refine ⟨E.setM E'.m, Env.le_setM hmle, ?_, hr' _ rfl, fun _ l => .inl l⟩
        have fino : ent (S.set o (.obj (flatT e.T x'))) o = .obj (flatT e.T x') := ent_set_same _ hlt
        refine sim.step (Env.le_setM hmle) hbel (fun i => i = o) ?_ (fun i B hi hB => (hblk i B hi hB).2) k2.mem ?_ ?_ ?_ ?_ (fun b hb j => hold b (Nat.lt_of_lt_of_le hb sim.base_le) j)
        · intro i hi
          exact ⟨ent_set_ne _ hi, fun _ => ⟨rfl, rfl⟩⟩
        · rintro i rfl
          rw [fino]
          exact ⟨hlive, hbase, us1, ty1, hb1, flatT_rep _ _ _ hx1, one1, hn1⟩
        · rintro i B rfl hB i' hi' hB'
          rw [fino] at hB
          simp only [owns, Option.some.injEq] at hB
          subst hB
          exact sim.apart i' i _ hi' hB' (by rw [hcs]; rfl)
        · rintro i i' B rfl rfl hne; exact absurd rfl hne
        · intro i l
          simpa using sim.lt _ l
      · rw [himp] at hi; simp at hi
end Go.Proofs.YtbcfagackcnpkaaDoor.Ev
/- Contracts on data of given kinds: what is told of the arguments, where they are such; functions that the machine answers itself. -/
namespace Go.Proofs.YtbcfagackcnpkaaDoor.Ev
open Go Go.RowKit
set_option linter.unusedVariables false
set_option linter.unusedSimpArgs false
set_option maxRecDepth 100000

theorem dec_ex (p : Prop) [Decidable p] : Nonempty {b : Bool // b = decide p} := ⟨⟨_, rfl⟩⟩
/-- a test that nothing goes into, the kernel neither -/
@[irreducible] noncomputable def tstS (p : Prop) [Decidable p] : Bool := (Classical.choice (dec_ex p)).1
noncomputable instance slowT : Tst := ⟨tstS, fun p _ => by unfold tstS; exact (Classical.choice (dec_ex p)).2⟩
@[reducible] def fastT : Tst := ⟨fun p _ => decide p, fun _ _ => rfl⟩
abbrev by8 : Ty := .it .u8
@[reducible] def dens : List Ty → Type
  | [] => Unit
  | t :: ts => t.den × dens ts
def ofDens : (ts : List Ty) → dens ts → List V
  | [], _ => []
  | t :: ts, x => .d t x.1 :: ofDens ts x.2
def toDens {R : Type} : (ts : List Ty) → List V → (dens ts → Option R) → Option R
  | [], [], k => k ()
  | t :: ts, .d s x :: vs, k => match cast? s t x with
    | some y => toDens ts vs fun ys => k (y, ys)
    | none => none
  | _, _, _ => none
def FitsD : (ts : List Ty) → dens ts → Prop
  | [], _ => True
  | t :: ts, x => Fits t x.1 ∧ FitsD ts x.2
/-- what a function tells: of which kinds of data, where, and what -/
structure Sp where
  ts : List Ty
  pre : dens ts → Bool
  res : dens ts → V
def Sp.F (s : Sp) (xs : List V) : Option (Bool × V) := toDens s.ts xs fun x => some (s.pre x, s.res x)
abbrev Sp.ent (s : Sp) : Option (List Ty × (List V → Option (Bool × V))) := some (s.ts, s.F)
noncomputable abbrev inl {R : Type} (T : Tab) (F d : Nat) : CallH R := inlH ctxOf T F fnOf d
def Sp.Ok (s : Sp) (T : Tab) (C : Ctx) (fn : Func) : Prop :=
  ∀ x : dens s.ts, FitsD s.ts x → s.pre x = true → ∃ F d, evFn C T (inl T F d) F fn (ofDens s.ts x) [] (fun v S => exportF C fn.resultTypes.toList v S) = some (s.res x)

theorem toDens_some {R : Type} : ∀ {ts : List Ty} {xs : List V} {k : dens ts → Option R} {v : R}, toDens ts xs k = some v → ∃ x, xs = ofDens ts x ∧ k x = some v
  | [], [], k, v, h => ⟨(), rfl, h⟩
  | t :: ts, .d s x :: vs, k, v, h => by
    rw [toDens] at h
    split at h
    · rename_i y hy
      obtain ⟨ys, rfl, h2⟩ := toDens_some h
      unfold cast? at hy
      split at hy
      · rename_i he; subst he
        simp only [Option.some.injEq] at hy
        subst hy
        exact ⟨(x, ys), rfl, h2⟩
      · simp at hy
    · simp at h
  | [], _ :: _, _, _, h => by simp [toDens] at h
  | _ :: _, [], _, _, h => by simp [toDens] at h
  | _ :: _, .bad :: _, _, _, h => by simp [toDens] at h
  | _ :: _, .un :: _, _, _, h => by simp [toDens] at h
  | _ :: _, .nils :: _, _, _, h => by simp [toDens] at h
  | _ :: _, .own .. :: _, _, _, h => by simp [toDens] at h
  | _ :: _, .p .. :: _, _, _, h => by simp [toDens] at h
  | _ :: _, .ro .. :: _, _, _, h => by simp [toDens] at h
  | _ :: _, .sr .. :: _, _, _, h => by simp [toDens] at h
  | _ :: _, .pr .. :: _, _, _, h => by simp [toDens] at h
  | _ :: _, .agg .. :: _, _, _, h => by simp [toDens] at h
  | _ :: _, .tup .. :: _, _, _, h => by simp [toDens] at h
  | _ :: _, .fn .. :: _, _, _, h => by simp [toDens] at h
  | _ :: _, .nn .. :: _, _, _, h => by simp [toDens] at h
  | _ :: _, .ifc .. :: _, _, _, h => by simp [toDens] at h
theorem fitsD_of : ∀ {ts : List Ty} {x : dens ts}, FitsV (ofDens ts x) → FitsD ts x
  | [], _, _ => trivial
  | t :: ts, x, h => ⟨h.1, fitsD_of h.2⟩
/-- a contract more -/
theorem add_ok {T : Tab} {g : FuncId} {C : Ctx} {fn : Func} (s : Sp) (hT : TabFar Tryd.prog T) (hC : RowsOK Tryd.prog C) (hf : Tryd.prog.funcs[g]? = some fn) (hn : (fn.name == "runtime.NumGoroutine") = false) (hb : fn.body.isNone = false)
    (h : s.Ok T C fn) : TabFar Tryd.prog (tabAdd T g s.ts s.F) := by
  intro i ts' F' hi
  unfold tabAdd at hi
  split at hi
  · rename_i he
    obtain rfl := Nat.eq_of_beq_eq_true he
    simp only [Option.some.injEq, Prod.mk.injEq] at hi
    obtain ⟨rfl, rfl⟩ := hi
    intro vs xs v h1 h2
    refine .inl ⟨⟨fn, hf, hn, hb⟩, ?_⟩
    intro m w us R hl hr hR
    obtain ⟨x, rfl, h3⟩ := toDens_some h2
    obtain ⟨h4, rfl⟩ := Prod.mk.inj (Option.some.inj h3)
    obtain ⟨F, d, h5⟩ := h x (fitsD_of (argsV_fits h1 hr)) h4
    exact far_fnF hC (tabFar_ok hT) (inl_ok (fun _ => rows_ok _) (tabFar_ok hT) mixed fnsOK d) mixed F hf h5 m w us R hl hr hR
  · exact hT i ts' F' hi
/-- what is handed out, all of it as data -/
def exportW1 : V → (V → Option V) → Option V
  | .d t x, k => k (.d t x)
  | .own _ t xs, k => k (.d (.li t) xs)
  | .un, k => k .un
  | _, _ => none
def exportWs : List V → (List V → Option V) → Option V
  | [], k => k []
  | v :: vs, k => exportW1 v fun v => exportWs vs fun vs => k (v :: vs)
def exportW : V → Option V
  | .tup vs => exportWs vs fun vs => some (.tup vs)
  | v => exportW1 v some
theorem exportW1_rep {v r : V} {k : V → Option V} (h : exportW1 v k = some r) : ∃ v', k v' = some r ∧ (∀ S (j : V → Option V), exportV1 S v' j = j v') ∧ (∀ E u, RepV E v u → RepV E v' u) ∧ (∀ vs, v' ≠ .tup vs) := by
  cases v with
  | d t x => exact ⟨_, h, fun _ _ => rfl, fun _ _ h => h, fun _ => by simp⟩
  | own o t xs => exact ⟨_, h, fun _ _ => rfl, fun _ _ h => by simp only [RepV] at h ⊢; exact h.1, fun _ => by simp⟩
  | un => exact ⟨_, h, fun _ _ => rfl, fun _ _ h => h, fun _ => by simp⟩
  | _ => simp [exportW1] at h
theorem exportWs_rep : ∀ {vs : List V} {r : V} {k : List V → Option V}, exportWs vs k = some r → ∃ vs', k vs' = some r ∧ (∀ S (j : List V → Option V), exportVs S vs' j = j vs') ∧ ∀ E us, RepVs E vs us → RepVs E vs' us
  | [], _, _, h => ⟨[], h, fun _ _ => rfl, fun _ _ h => h⟩
  | v :: vs, r, k, h => by
    rw [exportWs] at h
    obtain ⟨v', h1, h2, h3, _⟩ := exportW1_rep h
    obtain ⟨vs', k1, k2, k3⟩ := exportWs_rep h1
    refine ⟨v' :: vs', k1, fun S j => by rw [exportVs, h2, k2], ?_⟩
    intro E us hr
    cases us with
    | nil => simp [RepVs] at hr
    | cons u us => simp only [RepVs] at hr ⊢; exact ⟨h3 E u hr.1, k3 E us hr.2⟩
theorem exportWs_notBad : ∀ {vs : List V} {r : V} {k : List V → Option V}, exportWs vs k = some r → vs.all (fun v => match v with | .bad => false | _ => true) = true
  | [], _, _, _ => rfl
  | v :: vs, r, k, h => by
    rw [exportWs] at h
    rw [List.all_cons]
    cases v with
    | d t x => exact exportWs_notBad (vs := vs) h
    | own o t xs => exact exportWs_notBad (vs := vs) h
    | un => exact exportWs_notBad (vs := vs) h
    | _ => simp [exportW1] at h
theorem exportW_rep {v r : V} (h : exportW v = some r) : notBad v = true ∧ (∀ S, exportV S r = some r) ∧ ∀ E u, RepV E v u → RepV E r u := by
  unfold exportW at h
  split at h
  · rename_i vs
    obtain ⟨vs', k1, k2, k3⟩ := exportWs_rep h
    simp only [Option.some.injEq] at k1
    subst k1
    refine ⟨?_, fun S => by simp only [exportV, exportK, k2], fun E u hr => ?_⟩
    · exact exportWs_notBad h
    · simp only [RepV] at hr ⊢
      obtain ⟨us, h1, h2⟩ := hr
      exact ⟨us, h1, k3 E us h2⟩
  · rename_i hn
    obtain ⟨v', h1, h2, h3, h4⟩ := exportW1_rep h
    simp only [Option.some.injEq] at h1
    subst h1
    refine ⟨?_, fun S => ?_, h3⟩
    · cases v <;> first | rfl | simp [exportW1] at h
    · have := h2 S some
      unfold exportV exportK
      split
      · rename_i vs; exact absurd rfl (h4 vs)
      · exact this
/-- so too where rows that may be written to are among it -/
noncomputable def exportFW (C : Ctx) (ts : List TypeId) (v : V) (S : List Ent) : Option V :=
  match rowR v with
  | false => exportW v
  | true => match v with
    | .tup vs => frzA S vs fun vs S => exportW (.tup (dataVs C ts vs))
    | v => frzV S v fun v S => exportW (dataV C (ts.headD 0) v)
theorem exportFW_rep {C : Ctx} {ts : List TypeId} {v r : V} {S : List Ent} (h : exportFW C ts v S = some r) : notBad v = true ∧ (∀ S, exportV S r = some r) ∧ ∀ (base : Nat) (w0 : World) (E : Env) (w : World) (u : Value), Sim base w0 E S w → RepV E v u →
    ∃ E' S', E.Le E' ∧ Sim base w0 E' S' w ∧ RepV E' r u := by
  unfold exportFW at h
  split at h
  · obtain ⟨e1, e2, e3⟩ := exportW_rep h
    exact ⟨e1, e2, fun base w0 E w u sim hr => ⟨E, S, Env.Le.refl E, sim, e3 E u hr⟩⟩
  · split at h
    · rename_i vs _
      obtain ⟨vs', S', h1, h2, h3⟩ := nb_frzA h
      obtain ⟨e1, e2, e3⟩ := exportW_rep h1
      refine ⟨h3 (nb_dataVs (C := C) (ts := ts) e1), e2, ?_⟩
      intro base w0 E w u sim hr
      simp only [RepV] at hr
      obtain ⟨us, rfl, hr⟩ := hr
      obtain ⟨E', k1, k2, k3, k4⟩ := h2.2 base w0 E w us sim hr
      exact ⟨E', S', k1, k2, e3 E' _ (by simp only [RepV]; exact ⟨us, rfl, dataVs_rep k3⟩)⟩
    · rename_i hnt
      obtain ⟨v', S', h1, h2, h3⟩ := nb_frz h
      obtain ⟨e1, e2, e3⟩ := exportW_rep h1
      refine ⟨?_, e2, ?_⟩
      · cases v with
        | bad =>
          have : nb v' = true := by
            have hq : nb (dataV C (ts.headD 0) v') = true := by
              generalize dataV C (ts.headD 0) v' = x at e1
              cases x <;> first | rfl | simp [notBad] at e1
            exact nb_dataV hq
          exact absurd (h3 this) (by simp [nb])
        | tup vs => exact absurd rfl (hnt vs)
        | _ => rfl
      · intro base w0 E w u sim hr
        obtain ⟨E', k1, k2, k3, k4⟩ := h2.2 base w0 E w u sim hr
        exact ⟨E', S', k1, k2, e3 E' u (dataV_rep k3)⟩
theorem far_fnW {P : Program} {C : Ctx} {tab : Tab} {call : CallH V} (hC : RowsOK P C) (hT : TabOK P tab) (hcall : CallOK P call) (hm : P.follows .mixedOrders = true) (fuel : Nat) {f : FuncId} {fn : Func} (hf : P.funcs[f]? = some fn) {args : List V} {v : V} {ts : List TypeId}
    (h : evFn C tab call fuel fn args [] (fun v S => exportFW C ts v S) = some v) : FarRes P f args v := by
  obtain ⟨v', S', h1, h2⟩ := fn_ok hC hT hcall hm fuel hf h
  obtain ⟨e1, e2, e3⟩ := exportFW_rep h1
  have h3 := h2 e1
  intro m w us R hl hr hR
  refine h3.2 w.heap.size w (Env.of m) w us R (sim_start hl) hr ?_
  intro E' u w' k1 k0 k2 k3
  obtain ⟨E2, S2, l1, l2, l3⟩ := e3 _ _ E' w' u k2 k3
  exact hR E2 S2 v u w' (k1.trans l1) l2 l3 (e2 S2)
def Sp.OkW (s : Sp) (T : Tab) (C : Ctx) (fn : Func) : Prop :=
  ∀ x : dens s.ts, FitsD s.ts x → s.pre x = true → ∃ F d, evFn C T (inl T F d) F fn (ofDens s.ts x) [] (fun v S => exportFW C fn.resultTypes.toList v S) = some (s.res x)
theorem add_okW {T : Tab} {g : FuncId} {C : Ctx} {fn : Func} (s : Sp) (hT : TabFar Tryd.prog T) (hC : RowsOK Tryd.prog C) (hf : Tryd.prog.funcs[g]? = some fn) (hn : (fn.name == "runtime.NumGoroutine") = false) (hb : fn.body.isNone = false)
    (h : s.OkW T C fn) : TabFar Tryd.prog (tabAdd T g s.ts s.F) := by
  intro i ts' F' hi
  unfold tabAdd at hi
  split at hi
  · rename_i he
    obtain rfl := Nat.eq_of_beq_eq_true he
    simp only [Option.some.injEq, Prod.mk.injEq] at hi
    obtain ⟨rfl, rfl⟩ := hi
    intro vs xs v h1 h2
    refine .inl ⟨⟨fn, hf, hn, hb⟩, ?_⟩
    intro m w us R hl hr hR
    obtain ⟨x, rfl, h3⟩ := toDens_some h2
    obtain ⟨h4, rfl⟩ := Prod.mk.inj (Option.some.inj h3)
    obtain ⟨F, d, h5⟩ := h x (fitsD_of (argsV_fits h1 hr)) h4
    exact far_fnW hC (tabFar_ok hT) (inl_ok (fun _ => rows_ok _) (tabFar_ok hT) mixed fnsOK d) mixed F hf h5 m w us R hl hr hR
  · exact hT i ts' F' hi
/-- a contract more, told of the machine in some other way -/
theorem add_far {T : Tab} {g : FuncId} {fn : Func} (s : Sp) (hT : TabFar Tryd.prog T) (hf : Tryd.prog.funcs[g]? = some fn) (hn : (fn.name == "runtime.NumGoroutine") = false) (hb : fn.body.isNone = false)
    (h : ∀ x : dens s.ts, s.pre x = true → FarRes Tryd.prog g (ofDens s.ts x) (s.res x)) : TabFar Tryd.prog (tabAdd T g s.ts s.F) := by
  intro i ts' F' hi
  unfold tabAdd at hi
  split at hi
  · rename_i he
    obtain rfl := Nat.eq_of_beq_eq_true he
    simp only [Option.some.injEq, Prod.mk.injEq] at hi
    obtain ⟨rfl, rfl⟩ := hi
    intro vs xs v h1 h2
    obtain ⟨x, rfl, h3⟩ := toDens_some h2
    obtain ⟨h4, rfl⟩ := Prod.mk.inj (Option.some.inj h3)
    exact .inl ⟨⟨fn, hf, hn, hb⟩, h x h4⟩
  · exact hT i ts' F' hi
theorem add_ext {T : Tab} {g : FuncId} (s : Sp) (hT : TabFar Tryd.prog T) (h : ∀ x : dens s.ts, s.pre x = true → ExtRes Tryd.prog g (ofDens s.ts x) (s.res x)) : TabFar Tryd.prog (tabAdd T g s.ts s.F) := by
  intro i ts' F' hi
  unfold tabAdd at hi
  split at hi
  · rename_i he
    obtain rfl := Nat.eq_of_beq_eq_true he
    simp only [Option.some.injEq, Prod.mk.injEq] at hi
    obtain ⟨rfl, rfl⟩ := hi
    intro vs xs v h1 h2
    obtain ⟨x, rfl, h3⟩ := toDens_some h2
    obtain ⟨h4, rfl⟩ := Prod.mk.inj (Option.some.inj h3)
    exact .inr (h x h4)
  · exact hT i ts' F' hi

theorem fitsD_rep {E : Env} : ∀ {ts : List Ty} {x : dens ts} {us : List Value}, RepVs E (ofDens ts x) us → FitsD ts x
  | [], _, _, _ => trivial
  | t :: ts, x, [], h => by simp [ofDens, RepVs] at h
  | t :: ts, x, u :: us, h => by
    simp only [ofDens, RepVs] at h
    refine ⟨?_, fitsD_rep h.2⟩
    have := h.1
    simp only [RepV] at this
    obtain ⟨zs, h1, _⟩ := this
    exact RepL.fits _ _ _ h1
/-- a contract for all data, of the machine -/
theorem far_of_ok {T : Tab} {g : FuncId} {C : Ctx} {fn : Func} (s : Sp) (hT : TabFar Tryd.prog T) (hC : RowsOK Tryd.prog C) (hf : Tryd.prog.funcs[g]? = some fn) (h : s.Ok T C fn) (x : dens s.ts) (hp : FitsD s.ts x → s.pre x = true) : FarRes Tryd.prog g (ofDens s.ts x) (s.res x) := by
  intro m w us R hl hr hR
  have hx := fitsD_rep hr
  obtain ⟨F, d, h5⟩ := h x hx (hp hx)
  exact far_fnF hC (tabFar_ok hT) (inl_ok (fun _ => rows_ok _) (tabFar_ok hT) mixed fnsOK d) mixed F hf h5 m w us R hl hr hR
/-- a contract that a table has may be laid on top -/
theorem on_top {T : Tab} {g : FuncId} {s : Sp} (h : T g = s.ent) : T = tabAdd T g s.ts s.F := by
  funext i
  unfold tabAdd
  split
  · rename_i he
    obtain rfl := Nat.eq_of_beq_eq_true he
    exact h
  · rfl
theorem add_new {T : Tab} {g : FuncId} (s : Sp) : tabAdd T g s.ts s.F g = s.ent := by
  have : Nat.beq g g = true := Nat.beq_refl g
  simp only [tabAdd, this]
theorem add_old {T : Tab} {g i : FuncId} (s r : Sp) (hne : Nat.beq i g = false) (h : T i = r.ent) : tabAdd T g s.ts s.F i = r.ent := by
  simp only [tabAdd, hne]; exact h

theorem fits_by {l : List Int} : Fits (.li (.it .u8)) l ↔ l.length ≤ 140737488355328 ∧ ∀ x ∈ l, 0 ≤ x ∧ x ≤ 255 := Iff.rfl
theorem fits_i64 {n : Int} : Fits (.it .i64) n ↔ -9223372036854775808 ≤ n ∧ n ≤ 9223372036854775807 := Iff.rfl
theorem fits_u64 {n : Int} : Fits (.it .u64) n ↔ 0 ≤ n ∧ n ≤ 18446744073709551615 := Iff.rfl
theorem fits_u32 {n : Int} : Fits (.it .u32) n ↔ 0 ≤ n ∧ n ≤ 4294967295 := Iff.rfl
theorem fits_u8 {n : Int} : Fits (.it .u8) n ↔ 0 ≤ n ∧ n ≤ 255 := Iff.rfl
end Go.Proofs.YtbcfagackcnpkaaDoor.Ev
/- Contracts of methods, of data of given kinds; contracts of functions that call methods. -/
namespace Go.Proofs.YtbcfagackcnpkaaDoor.Ev
open Go Go.RowKit
set_option linter.unusedVariables false
set_option linter.unusedSimpArgs false
set_option maxRecDepth 100000

structure MSp where
  T : Ty
  ts : List Ty
  pre : T.den → dens ts → Bool
  post : T.den → dens ts → T.den
  res : T.den → dens ts → V
def MSp.ent (s : MSp) : MEnt := ⟨s.T, s.ts, fun x vs => toDens s.ts vs fun ys => some (s.pre x ys, s.post x ys, s.res x ys)⟩
def M0 : MTab := fun _ => none
def mAdd (M : MTab) (g : FuncId) (s : MSp) : MTab := fun i => match Nat.beq i g with | true => some s.ent | false => M i
noncomputable abbrev callM {R : Type} (M : MTab) (T : Tab) (F d : Nat) : CallH R := methH M (inl T F d)
def MSp.Ok (s : MSp) (M : MTab) (T : Tab) (C : Ctx) (fn : Func) : Prop :=
  ∀ (x : s.T.den) (ys : dens s.ts), Fits s.T x → FitsD s.ts ys → s.pre x ys = true → ∃ F d, evFn C T (callM M T F d) F fn (.p 0 0 :: ofDens s.ts ys) [.obj (flatT s.T x)] (exportM s.T) = some (s.res x ys, s.post x ys)
def Sp.OkM (s : Sp) (M : MTab) (T : Tab) (C : Ctx) (fn : Func) : Prop :=
  ∀ x : dens s.ts, FitsD s.ts x → s.pre x = true → ∃ F d, evFn C T (callM M T F d) F fn (ofDens s.ts x) [] (fun v S => exportF C fn.resultTypes.toList v S) = some (s.res x)
def Sp.OkWM (s : Sp) (M : MTab) (T : Tab) (C : Ctx) (fn : Func) : Prop :=
  ∀ x : dens s.ts, FitsD s.ts x → s.pre x = true → ∃ F d, evFn C T (callM M T F d) F fn (ofDens s.ts x) [] (fun v S => exportFW C fn.resultTypes.toList v S) = some (s.res x)
theorem m0_ok {P : Program} : MTabOK P M0 := by intro g e h; simp [M0] at h
theorem callM_ok {R : Type} {M : MTab} {T : Tab} (hM : MTabOK Tryd.prog M) (hT : TabFar Tryd.prog T) (F d : Nat) : CallOK Tryd.prog (callM M T F d : CallH R) :=
  meth_ok hM (inl_ok (fun _ => rows_ok _) (tabFar_ok hT) mixed fnsOK d)
theorem ofDens_env : ∀ (ts : List Ty) (x : dens ts) (E E2 : Env) (us : List Value), E2.m = E.m → RepVs E (ofDens ts x) us → RepVs E2 (ofDens ts x) us
  | [], _, _, _, us, _, h => by cases us <;> simp_all [ofDens, RepVs]
  | t :: ts, x, E, E2, [], hm, h => by simp [ofDens, RepVs] at h
  | t :: ts, x, E, E2, u :: us, hm, h => by
    simp only [ofDens, RepVs] at h ⊢
    refine ⟨?_, ofDens_env ts x.2 E E2 us hm h.2⟩
    have := h.1
    simp only [RepV] at this ⊢
    rw [hm]; exact this
theorem madd_ok {M N : MTab} {T : Tab} {g : FuncId} {C : Ctx} {fn : Func} (s : MSp) (hM : MTabOK Tryd.prog M) (hT : TabFar Tryd.prog T) (hC : RowsOK Tryd.prog C) (hf : Tryd.prog.funcs[g]? = some fn) (hn : (fn.name == "runtime.NumGoroutine") = false) (hb : fn.body.isNone = false) (hg : s.T.agg = true)
    (h : s.Ok M T C fn) : MTabOK Tryd.prog (mAdd M g s) := by
  intro i e hi
  unfold mAdd at hi
  split at hi
  · rename_i he
    obtain rfl := Nat.eq_of_beq_eq_true he
    obtain rfl := Option.some.inj hi
    refine ⟨⟨fn, hf, hn, hb⟩, hg, ?_⟩
    intro x vs xs x' v h1 h2
    obtain ⟨ys, rfl, h3⟩ := toDens_some h2
    obtain ⟨h4, h6⟩ := Prod.mk.inj (Option.some.inj h3)
    obtain ⟨rfl, rfl⟩ := Prod.mk.inj h6
    intro m w b us0 us ty R hl hb' hx hn' hr hR
    obtain ⟨F, d, h5⟩ := h x ys (RepL.fits _ _ _ hx) (fitsD_rep hr) h4
    exact meth_fn hC (tabFar_ok hT) (callM_ok hM hT F d) mixed F hf (ofDens_env s.ts ys) h5 m w b us0 us ty R hl hb' hx hn' hr hR
  · exact hM i e hi
theorem add_okM {M : MTab} {T : Tab} {g : FuncId} {C : Ctx} {fn : Func} (s : Sp) (hM : MTabOK Tryd.prog M) (hT : TabFar Tryd.prog T) (hC : RowsOK Tryd.prog C) (hf : Tryd.prog.funcs[g]? = some fn) (hn : (fn.name == "runtime.NumGoroutine") = false) (hb : fn.body.isNone = false)
    (h : s.OkM M T C fn) : TabFar Tryd.prog (tabAdd T g s.ts s.F) := by
  intro i ts' F' hi
  unfold tabAdd at hi
  split at hi
  · rename_i he
    obtain rfl := Nat.eq_of_beq_eq_true he
    simp only [Option.some.injEq, Prod.mk.injEq] at hi
    obtain ⟨rfl, rfl⟩ := hi
    intro vs xs v h1 h2
    refine .inl ⟨⟨fn, hf, hn, hb⟩, ?_⟩
    intro m w us R hl hr hR
    obtain ⟨x, rfl, h3⟩ := toDens_some h2
    obtain ⟨h4, rfl⟩ := Prod.mk.inj (Option.some.inj h3)
    obtain ⟨F, d, h5⟩ := h x (fitsD_of (argsV_fits h1 hr)) h4
    exact far_fnF hC (tabFar_ok hT) (callM_ok hM hT F d) mixed F hf h5 m w us R hl hr hR
  · exact hT i ts' F' hi
theorem add_okWM {M : MTab} {T : Tab} {g : FuncId} {C : Ctx} {fn : Func} (s : Sp) (hM : MTabOK Tryd.prog M) (hT : TabFar Tryd.prog T) (hC : RowsOK Tryd.prog C) (hf : Tryd.prog.funcs[g]? = some fn) (hn : (fn.name == "runtime.NumGoroutine") = false) (hb : fn.body.isNone = false)
    (h : s.OkWM M T C fn) : TabFar Tryd.prog (tabAdd T g s.ts s.F) := by
  intro i ts' F' hi
  unfold tabAdd at hi
  split at hi
  · rename_i he
    obtain rfl := Nat.eq_of_beq_eq_true he
    simp only [Option.some.injEq, Prod.mk.injEq] at hi
    obtain ⟨rfl, rfl⟩ := hi
    intro vs xs v h1 h2
    refine .inl ⟨⟨fn, hf, hn, hb⟩, ?_⟩
    intro m w us R hl hr hR
    obtain ⟨x, rfl, h3⟩ := toDens_some h2
    obtain ⟨h4, rfl⟩ := Prod.mk.inj (Option.some.inj h3)
    obtain ⟨F, d, h5⟩ := h x (fitsD_of (argsV_fits h1 hr)) h4
    exact far_fnW hC (tabFar_ok hT) (callM_ok hM hT F d) mixed F hf h5 m w us R hl hr hR
  · exact hT i ts' F' hi
/-- a function that a table doesn't have -/
def tabNo (T : Tab) (g : FuncId) : Tab := fun i => match Nat.beq i g with | true => none | false => T i
theorem off_top {T : Tab} {g : FuncId} (h : T g = none) : T = tabNo T g := by
  funext i
  unfold tabNo
  split
  · rename_i he
    obtain rfl := Nat.eq_of_beq_eq_true he
    exact h
  · rfl
theorem m_on_top {M : MTab} {g : FuncId} {s : MSp} (h : M g = some s.ent) : M = mAdd M g s := by
  funext i
  unfold mAdd
  split
  · rename_i he
    obtain rfl := Nat.eq_of_beq_eq_true he
    exact h
  · rfl
end Go.Proofs.YtbcfagackcnpkaaDoor.Ev
