/- Parts of the proof, joined by a program of this session: EvRows, EvKit, EvCode, EvFns, EvAuto, EvMeth, EvCon, EvConM. -/
import Derived.Test.YtdhbelpejaobdaaM0
import Derived.Test.YtdhbelpejaobdaaProg
import Derived.Test.YtdhbelpejaobdaaM1
import Derived.Test.YtdhbelpejaobdaaChecked
set_option linter.unusedVariables false
set_option linter.unusedSimpArgs false
set_option linter.unusedSectionVars false
/- The table of types, read off the translation. Written by a program of this session. -/
namespace Go.Proofs.Ytdhbelpejaobdaa.Ev
open Go
set_option maxRecDepth 100000
def rows : List TRow := [
  ⟨.other, 0, 0, .ue, []⟩,
  ⟨.other, 0, 0, .ue, []⟩,
  ⟨.int .i64, 1, 8, (.it .i64), [(.it .i64)]⟩,
  ⟨.int .i64, 1, 8, (.it .i64), [(.it .i64)]⟩,
  ⟨.bool, 1, 1, .bo, [.bo]⟩,
  ⟨.int .u8, 1, 1, (.it .u8), [(.it .u8)]⟩,
  ⟨.int .u8, 1, 1, (.it .u8), [(.it .u8)]⟩,
  ⟨.struct [(0, 2), (1, 3), (2, 4), (3, 6)], 4, 24, (.co (.it .i64) (.co (.it .i64) (.co .bo (.co (.it .u8) .ue)))), [(.it .i64), (.it .i64), .bo, (.it .u8)]⟩,
  ⟨.struct [(0, 2), (1, 3), (2, 4), (3, 6)], 4, 24, (.co (.it .i64) (.co (.it .i64) (.co .bo (.co (.it .u8) .ue)))), [(.it .i64), (.it .i64), .bo, (.it .u8)]⟩,
  ⟨.str, 1, 16, .st, [.st]⟩,
  ⟨.str, 1, 16, .st, [.st]⟩,
  ⟨.str, 1, 16, .st, [.st]⟩,
  ⟨.int .u64, 1, 8, (.it .u64), [(.it .u64)]⟩,
  ⟨.struct [(0, 9), (1, 12)], 2, 24, (.co .st (.co (.it .u64) .ue)), [.st, (.it .u64)]⟩,
  ⟨.struct [(0, 9), (1, 12)], 2, 24, (.co .st (.co (.it .u64) .ue)), [.st, (.it .u64)]⟩,
  ⟨.ptr 106, 1, 8, .ni, [.ni]⟩,
  ⟨.ptr 109, 1, 8, .ni, [.ni]⟩,
  ⟨.ptr 117, 1, 8, .ni, [.ni]⟩,
  ⟨.struct [(0, 17)], 1, 8, (.co .ni .ue), [.ni]⟩,
  ⟨.struct [(0, 17)], 1, 8, (.co .ni .ue), [.ni]⟩,
  ⟨.other, 0, 0, .ue, []⟩,
  ⟨.int .i32, 1, 4, (.it .i32), [(.it .i32)]⟩,
  ⟨.slice 42, 1, 24, (.li (.co (.li (.it .u8)) (.co (.li (.it .u8)) .ue))), [(.li (.co (.li (.it .u8)) (.co (.li (.it .u8)) .ue)))]⟩,
  ⟨.other, 0, 0, .ue, []⟩,
  ⟨.other, 0, 0, .ue, []⟩,
  ⟨.other, 0, 0, .ue, []⟩,
  ⟨.slice 5, 1, 24, (.li (.it .u8)), [(.li (.it .u8))]⟩,
  ⟨.int .i64, 1, 8, (.it .i64), [(.it .i64)]⟩,
  ⟨.other, 0, 0, .ue, []⟩,
  ⟨.other, 0, 0, .ue, []⟩,
  ⟨.other, 0, 0, .ue, []⟩,
  ⟨.other, 0, 0, .ue, []⟩,
  ⟨.other, 0, 0, .ue, []⟩,
  ⟨.other, 0, 0, .ue, []⟩,
  ⟨.other, 0, 0, .ue, []⟩,
  ⟨.other, 0, 0, .ue, []⟩,
  ⟨.other, 0, 0, .ue, []⟩,
  ⟨.other, 0, 0, .ue, []⟩,
  ⟨.other, 0, 0, .ue, []⟩,
  ⟨.other, 0, 0, .ue, []⟩,
  ⟨.other, 0, 0, .ue, []⟩,
  ⟨.struct [(0, 26), (1, 26)], 2, 48, (.co (.li (.it .u8)) (.co (.li (.it .u8)) .ue)), [(.li (.it .u8)), (.li (.it .u8))]⟩,
  ⟨.struct [(0, 26), (1, 26)], 2, 48, (.co (.li (.it .u8)) (.co (.li (.it .u8)) .ue)), [(.li (.it .u8)), (.li (.it .u8))]⟩,
  ⟨.other, 0, 0, .ue, []⟩,
  ⟨.other, 0, 0, .ue, []⟩,
  ⟨.other, 0, 0, .ue, []⟩,
  ⟨.other, 0, 0, .ue, []⟩,
  ⟨.other, 0, 0, .ue, []⟩,
  ⟨.other, 0, 0, .ue, []⟩,
  ⟨.other, 0, 0, .ue, []⟩,
  ⟨.slice 26, 1, 24, (.li (.li (.it .u8))), [(.li (.li (.it .u8)))]⟩,
  ⟨.other, 0, 0, .ue, []⟩,
  ⟨.other, 0, 0, .ue, []⟩,
  ⟨.other, 0, 0, .ue, []⟩,
  ⟨.other, 0, 0, .ue, []⟩,
  ⟨.other, 0, 0, .ue, []⟩,
  ⟨.other, 0, 0, .ue, []⟩,
  ⟨.other, 0, 0, .ue, []⟩,
  ⟨.int .u64, 1, 8, (.it .u64), [(.it .u64)]⟩,
  ⟨.other, 0, 0, .ue, []⟩,
  ⟨.int .u32, 1, 4, (.it .u32), [(.it .u32)]⟩,
  ⟨.other, 0, 0, .ue, []⟩,
  ⟨.other, 0, 0, .ue, []⟩,
  ⟨.ptr 65, 1, 8, .ni, [.ni]⟩,
  ⟨.struct [(0, 26), (1, 3), (2, 4)], 3, 40, (.co (.li (.it .u8)) (.co (.it .i64) (.co .bo .ue))), [(.li (.it .u8)), (.it .i64), .bo]⟩,
  ⟨.struct [(0, 26), (1, 3), (2, 4)], 3, 40, (.co (.li (.it .u8)) (.co (.it .i64) (.co .bo .ue))), [(.li (.it .u8)), (.it .i64), .bo]⟩,
  ⟨.other, 0, 0, .ue, []⟩,
  ⟨.other, 0, 0, .ue, []⟩,
  ⟨.other, 0, 0, .ue, []⟩,
  ⟨.other, 0, 0, .ue, []⟩,
  ⟨.other, 0, 0, .ue, []⟩,
  ⟨.other, 0, 0, .ue, []⟩,
  ⟨.other, 0, 0, .ue, []⟩,
  ⟨.other, 0, 0, .ue, []⟩,
  ⟨.other, 0, 0, .ue, []⟩,
  ⟨.other, 0, 0, .ue, []⟩,
  ⟨.other, 0, 0, .ue, []⟩,
  ⟨.other, 0, 0, .ue, []⟩,
  ⟨.slice 58, 1, 24, (.li (.it .u64)), [(.li (.it .u64))]⟩,
  ⟨.other, 0, 0, .ue, []⟩,
  ⟨.other, 0, 0, .ue, []⟩,
  ⟨.other, 0, 0, .ue, []⟩,
  ⟨.other, 0, 0, .ue, []⟩,
  ⟨.other, 0, 0, .ue, []⟩,
  ⟨.arr 3 3, 3, 24, (.ar 3 (.it .i64)), [(.it .i64), (.it .i64), (.it .i64)]⟩,
  ⟨.slice 3, 1, 24, (.li (.it .i64)), [(.li (.it .i64))]⟩,
  ⟨.other, 0, 0, .ue, []⟩,
  ⟨.other, 0, 0, .ue, []⟩,
  ⟨.other, 0, 0, .ue, []⟩,
  ⟨.other, 0, 0, .ue, []⟩,
  ⟨.other, 0, 0, .ue, []⟩,
  ⟨.other, 0, 0, .ue, []⟩,
  ⟨.other, 0, 0, .ue, []⟩,
  ⟨.other, 0, 0, .ue, []⟩,
  ⟨.int .u64, 1, 8, (.it .u64), [(.it .u64)]⟩,
  ⟨.other, 0, 0, .ue, []⟩,
  ⟨.other, 0, 0, .ue, []⟩,
  ⟨.other, 0, 0, .ue, []⟩,
  ⟨.other, 0, 0, .ue, []⟩,
  ⟨.other, 0, 0, .ue, []⟩,
  ⟨.other, 0, 0, .ue, []⟩,
  ⟨.other, 0, 0, .ue, []⟩,
  ⟨.other, 0, 0, .ue, []⟩,
  ⟨.other, 0, 0, .ue, []⟩,
  ⟨.other, 0, 0, .ue, []⟩,
  ⟨.struct [(0, 17), (1, 17), (2, 17), (3, 9)], 4, 40, (.co .ni (.co .ni (.co .ni (.co .st .ue)))), [.ni, .ni, .ni, .st]⟩,
  ⟨.struct [(0, 17), (1, 17), (2, 17), (3, 9)], 4, 40, (.co .ni (.co .ni (.co .ni (.co .st .ue)))), [.ni, .ni, .ni, .st]⟩,
  ⟨.arr 0 16, 0, 0, (.ar 0 .ni), []⟩,
  ⟨.other, 0, 0, .ue, []⟩,
  ⟨.other, 0, 0, .ue, []⟩,
  ⟨.int .u8, 1, 1, (.it .u8), [(.it .u8)]⟩,
  ⟨.int .u8, 1, 1, (.it .u8), [(.it .u8)]⟩,
  ⟨.other, 0, 0, .ue, []⟩,
  ⟨.ptr 5, 1, 8, .ni, [.ni]⟩,
  ⟨.int .i32, 1, 4, (.it .i32), [(.it .i32)]⟩,
  ⟨.int .i32, 1, 4, (.it .i32), [(.it .i32)]⟩,
  ⟨.other, 0, 0, .ue, []⟩,
  ⟨.other, 0, 0, .ue, []⟩,
  ⟨.other, 0, 0, .ue, []⟩]
theorem row_3 (l : Nat → List Nat × List Nat) : Ctx.row ⟨rows, l⟩ 3 = ⟨.int .i64, 1, 8, (.it .i64), [(.it .i64)]⟩ := rfl
theorem row_5 (l : Nat → List Nat × List Nat) : Ctx.row ⟨rows, l⟩ 5 = ⟨.int .u8, 1, 1, (.it .u8), [(.it .u8)]⟩ := rfl
theorem row_16 (l : Nat → List Nat × List Nat) : Ctx.row ⟨rows, l⟩ 16 = ⟨.ptr 109, 1, 8, .ni, [.ni]⟩ := rfl
theorem row_26 (l : Nat → List Nat × List Nat) : Ctx.row ⟨rows, l⟩ 26 = ⟨.slice 5, 1, 24, (.li (.it .u8)), [(.li (.it .u8))]⟩ := rfl
theorem row_42 (l : Nat → List Nat × List Nat) : Ctx.row ⟨rows, l⟩ 42 = ⟨.struct [(0, 26), (1, 26)], 2, 48, (.co (.li (.it .u8)) (.co (.li (.it .u8)) .ue)), [(.li (.it .u8)), (.li (.it .u8))]⟩ := rfl
theorem row_58 (l : Nat → List Nat × List Nat) : Ctx.row ⟨rows, l⟩ 58 = ⟨.int .u64, 1, 8, (.it .u64), [(.it .u64)]⟩ := rfl
end Go.Proofs.Ytdhbelpejaobdaa.Ev
/- Tools for contracts: what data may be, tables of contracts, loops, the machine's facts of the seat. -/
namespace Go.Proofs.Ytdhbelpejaobdaa.Ev
open Go Go.RowKit
set_option linter.unusedVariables false
set_option linter.unusedSimpArgs false
set_option maxRecDepth 100000

/-- of a context only the table of types counts for its rows -/
theorem fieldsB_live (r : List TRow) (l l' : Nat → List Nat × List Nat) (y : Ty) : ∀ (fs : List (Nat × TypeId)) (gs : List Field) (n : Nat), fieldsB ⟨r, l⟩ y n fs gs = fieldsB ⟨r, l'⟩ y n fs gs
  | [], [], _ => rfl
  | [], _ :: _, _ => rfl
  | _ :: _, [], _ => rfl
  | (o, e) :: fs, g :: gs, n => by rw [fieldsB, fieldsB, fieldsB_live r l l' y fs gs (n + 1)]; rfl
theorem descB_live [tI : Tst] (r : List TRow) (l l' : Nat → List Nat × List Nat) (x : TRow) (d : TypeDesc) : descB ⟨r, l⟩ x d = descB ⟨r, l'⟩ x d := by
  unfold descB
  split <;> first | rfl | exact fieldsB_live r l l' _ _ _ _
theorem rowsOK_live [tI : Tst] {P : Program} {r : List TRow} {l : Nat → List Nat × List Nat} (h : RowsOK P ⟨r, l⟩) (l' : Nat → List Nat × List Nat) : RowsOK P ⟨r, l'⟩ := by
  intro t
  have := h t
  unfold rowB at this ⊢
  simp only [show ∀ t, (⟨r, l'⟩ : Ctx).row t = (⟨r, l⟩ : Ctx).row t from fun _ => rfl, descB_live r l' l]
  exact this
theorem rows_ok [tI : Tst] (l : Nat → List Nat × List Nat) : RowsOK Try.prog ⟨rows, l⟩ := rowsOK_live (l := fun _ => ([], [])) (rowsOK_of (by decide +kernel)) l
theorem mixed : Try.prog.follows .mixedOrders = true := by kernel_rfl
theorem own : ownKnob Try.prog.godebug = none := by kernel_rfl
theorem laidOut : laidOutB Try.prog = true := by kernel_rfl

def noCall {R : Type} : CallH R := fun _ _ _ _ _ => none
theorem noCall_ok {P : Program} {R : Type} : CallOK P (noCall : CallH R) := by intro g args id S k r h; simp [noCall] at h

/-- what any data of the machine's is -/
def Fits : (t : Ty) → t.den → Prop
  | .it k, n => k.min ≤ n ∧ n ≤ k.max
  | .st, l => List.length l ≤ maxL ∧ ∀ x ∈ (l : List Int), 0 ≤ x ∧ x < 256
  | .li t, xs => List.length xs ≤ maxL ∧ ∀ x ∈ (xs : List t.den), Fits t x
  | .co t r, x => Fits t x.1 ∧ Fits r x.2
  | .ar n t, xs => List.length xs = n ∧ ∀ x ∈ (xs : List t.den), Fits t x
  | _, _ => True
theorem RepL.fits {m : Mem} : ∀ (t : Ty) (x : t.den) (us : List Value), RepL m t x us → Fits t x
  | .bo, _, _, _ => trivial
  | .it _, _, _, h => h.2
  | .st, _, _, h => by
    obtain ⟨s, rfl, rfl, h3⟩ := h
    refine ⟨by simpa [strInts] using h3, fun x hx => ?_⟩
    simp only [strInts, List.mem_map] at hx
    obtain ⟨b, _, rfl⟩ := hx
    have := b.toNat_lt
    omega
  | .ni, _, _, _ => trivial
  | .li t, xs, us, h => by
    obtain ⟨a, c, rfl, h1, h2, h3, h4⟩ := h
    refine ⟨h2, fun x hx => ?_⟩
    obtain ⟨i, hi, rfl⟩ := List.getElem_of_mem hx
    cases a with
    | none => have : List.length xs = 0 := h4.1; omega
    | some ad =>
      obtain ⟨vs, _, hv⟩ := h4.2 i hi
      exact RepL.fits t _ _ hv
  | .ue, _, _, _ => trivial
  | .co t r, _, _, h => by
    obtain ⟨u1, u2, rfl, h1, h2⟩ := h
    exact ⟨RepL.fits t _ _ h1, RepL.fits r _ _ h2⟩
  | .ar n t, xs, us, h => by
    obtain ⟨h1, h2, h3⟩ := h
    refine ⟨h1, fun x hx => ?_⟩
    obtain ⟨i, hi, rfl⟩ := List.getElem_of_mem hx
    exact RepL.fits t _ _ (h3 i hi)
def FitsV : List V → Prop
  | [] => True
  | .d t x :: vs => Fits t x ∧ FitsV vs
  | _ :: _ => False
theorem argsV_fits [tI : Tst] {E : Env} : ∀ {ts : List Ty} {vs xs : List V} {us : List Value}, argsV ts vs = some xs → RepVs E xs us → FitsV xs
  | [], [], _, us, h, hr => by simp only [argsV, Option.some.injEq] at h; subst h; trivial
  | t :: ts, v :: vs, _, us, h, hr => by
    rw [argsV] at h
    cases hx : asT t v with
    | none => rw [hx] at h; simp at h
    | some x =>
      rw [hx] at h
      simp only [Option.bind_some] at h
      cases hy : argsV ts vs with
      | none => rw [hy] at h; simp at h
      | some ys =>
        rw [hy] at h
        simp only [Option.map_some, Option.some.injEq] at h; subst h
        cases us with
        | nil => simp [RepVs] at hr
        | cons u us =>
          simp only [RepVs] at hr
          refine ⟨?_, argsV_fits hy hr.2⟩
          have := hr.1
          simp only [RepV] at this
          obtain ⟨zs, h1, _⟩ := this
          exact RepL.fits _ _ _ h1
  | [], _ :: _, _, _, h, _ => by simp [argsV] at h
  | _ :: _, [], _, _, h, _ => by simp [argsV] at h

def tab0 : Tab := fun _ => none
def tabAdd (tab : Tab) (g : FuncId) (ts : List Ty) (F : List V → Option (Bool × V)) : Tab := fun i => match Nat.beq i g with | true => some (ts, F) | false => tab i
theorem tab0_far [tI : Tst] {P : Program} : TabFar P tab0 := by intro g ts F h; simp [tab0] at h
theorem tst_t [tI : Tst] {p : Prop} [Decidable p] (h : p) : tst p = true := tst_iff.2 h
theorem tst_f [tI : Tst] {p : Prop} [Decidable p] (h : ¬ p) : tst p = false := tst_not.2 h
theorem band {a b : Bool} (ha : a = true) (hb : b = true) : (a && b) = true := by rw [ha, hb]; rfl
theorem br_go [tI : Tst] {A : Type} {x : Bool} {a b r : A} (h : x = true) (k : a = r) : br x a b = r := by rw [br_t h]; exact k
theorem br_no [tI : Tst] {A : Type} {x : Bool} {a b r : A} (h : x = false) (k : b = r) : br x a b = r := by rw [br_f h]; exact k
theorem br_split [tI : Tst] {A : Type} {p : Prop} [Decidable p] {a b r : A} (h1 : p → a = r) (h2 : ¬ p → b = r) : br (tst p) a b = r := by
  by_cases h : p
  · rw [br_t (tst_t h)]; exact h1 h
  · rw [br_f (tst_f h)]; exact h2 h
theorem bo_eq {b c : Bool} (h : b = c) : some (V.d .bo b) = some (V.d .bo c) := by rw [h]
theorem bo_t [tI : Tst] {p : Prop} [Decidable p] (h : p) : some (V.d .bo true) = some (V.d .bo (tst p)) := by rw [tst_t h]
theorem bo_f [tI : Tst] {p : Prop} [Decidable p] (h : ¬ p) : some (V.d .bo false) = some (V.d .bo (tst p)) := by rw [tst_f h]
theorem bo_tst [tI : Tst] {p q : Prop} [Decidable p] [Decidable q] (h : p ↔ q) : some (V.d .bo (tst p)) = some (V.d .bo (tst q)) := by rw [tst_eq, tst_eq, decide_eq_decide.2 h]
theorem nt_t [tI : Tst] {p : Prop} [Decidable p] (h : ¬ p) : (!tst p) = true := by rw [tst_f h]; rfl
theorem nt_f [tI : Tst] {p : Prop} [Decidable p] (h : p) : (!tst p) = false := by rw [tst_t h]; rfl
theorem nI64 {n : Int} (h : -9223372036854775808 ≤ n) (h' : n < 9223372036854775808) : IntKind.i64.wrap n = n := by
  have e : IntKind.i64.wrap n = if n % 18446744073709551616 ≥ 9223372036854775808 then n % 18446744073709551616 - 18446744073709551616 else n % 18446744073709551616 := by
    simp [IntKind.wrap, IntKind.bits, IntKind.signed]
  rw [e]; split <;> omega
theorem nU64 {n : Int} (h : 0 ≤ n) (h' : n < 18446744073709551616) : IntKind.u64.wrap n = n := by
  have e : IntKind.u64.wrap n = n % 18446744073709551616 := by simp [IntKind.wrap, IntKind.bits, IntKind.signed]
  rw [e]; omega
theorem nU32 {n : Int} (h : 0 ≤ n) (h' : n < 4294967296) : IntKind.u32.wrap n = n := by
  have e : IntKind.u32.wrap n = n % 4294967296 := by simp [IntKind.wrap, IntKind.bits, IntKind.signed]
  rw [e]; omega
theorem nU8 {n : Int} (h : 0 ≤ n) (h' : n < 256) : IntKind.u8.wrap n = n := by
  have e : IntKind.u8.wrap n = n % 256 := by simp [IntKind.wrap, IntKind.bits, IntKind.signed]
  rw [e]; omega
theorem nSubL (m k : Nat) : ((m : Int) - (no_index (OfNat.ofNat k))).toNat = m - no_index (OfNat.ofNat k) := by
  show ((m : Int) - ((k : Nat) : Int)).toNat = m - k
  omega
theorem nAddL (m k : Nat) : ((m : Int) + (no_index (OfNat.ofNat k))).toNat = m + no_index (OfNat.ofNat k) := by
  show ((m : Int) + ((k : Nat) : Int)).toNat = m + k
  omega
theorem nAdd (m k : Nat) : ((m : Int) + (k : Int)).toNat = m + k := by omega
theorem nSub (m k : Nat) : ((m : Int) - (k : Int)).toNat = m - k := by omega
theorem nDiv {a b : Int} (h : 0 ≤ a) : Int.tdiv a b = a / b := Int.tdiv_eq_ediv_of_nonneg h
theorem nMod {a b : Int} (h : 0 ≤ a) : Int.tmod a b = a % b := Int.tmod_eq_emod_of_nonneg h
theorem dflt_it (k : IntKind) : (Ty.it k).dflt = (0 : Int) := rfl
theorem dflt_li (t : Ty) : (Ty.li t).dflt = ([] : List t.den) := rfl
theorem nZ : Int.toNat 0 = 0 := rfl
theorem nLit (k : Nat) : Int.toNat (no_index (OfNat.ofNat k)) = no_index (OfNat.ofNat k) := rfl
theorem tup_eq {xs ys : List V} (h : xs = ys) : some (V.tup xs) = some (V.tup ys) := by rw [h]
theorem cons_eq {v w : V} {vs ws : List V} (h : v = w) (hs : vs = ws) : v :: vs = w :: ws := by rw [h, hs]
theorem vd_eq {t : Ty} {x y : t.den} (h : x = y) : V.d t x = V.d t y := by rw [h]
theorem vo_eq {o : Nat} {t : Ty} {x y : List t.den} (h : x = y) : V.own o t x = V.own o t y := by rw [h]
theorem own_eq {t : Ty} {xs ys : List t.den} (h : xs = ys) (o : Nat) : some (V.own o t xs) = some (V.own o t ys) := by rw [h]
theorem d_eq {t : Ty} {x y : t.den} (h : x = y) : some (V.d t x) = some (V.d t y) := by rw [h]

/-- rounds of a loop, by what stands at their head -/
theorem loop_rule {α R : Type} {n : Nat} {live : List Nat} {body : List V → List Ent → (Ex → List V → List Ent → Option R) → Option R} {k : Ex → List V → List Ent → Option R}
    (inv : α → Prop) (μ : α → Nat) (sl : α → List V) (S : α → List Ent) (G : α → Option R)
    (hb : ∀ a (K : List V → List Ent → Option R), inv a → (∀ b, inv b → μ b < μ a → K (sl b) (S b) = G b) → body (sl a) (S a) (fun e sl S => match e with | .normal => pickK n live 0 sl fun sl => truncK n S fun S => K sl S | e => k e sl S) = G a) :
    ∀ (f : Nat) (a : α), inv a → μ a < f → loopN n live body f (sl a) (S a) k = G a
  | 0, a, _, h => by omega
  | f + 1, a, ha, h => by
    rw [loopN]
    refine hb a (fun sl S => loopN n live body f sl S k) ha ?_
    intro b hb' hlt
    exact loop_rule inv μ sl S G hb f b hb' (by omega)
/-- one round -/
theorem loop_more {R : Type} {n : Nat} {live : List Nat} {body : List V → List Ent → (Ex → List V → List Ent → Option R) → Option R} {f : Nat} {sl : List V} {S : List Ent} {k : Ex → List V → List Ent → Option R} {r : Option R} (hf : 0 < f)
    (h : body sl S (fun e sl S => match e with | .normal => pickK n live 0 sl fun sl => truncK n S fun S => loopN n live body (f - 1) sl S k | e => k e sl S) = r) : loopN n live body f sl S k = r := by
  cases f with
  | zero => omega
  | succ f => rw [loopN]; exact h
end Go.Proofs.Ytdhbelpejaobdaa.Ev
/- Each function's code, cut into words. Written by a program of this session out of the translation. -/
namespace Go.Proofs.Ytdhbelpejaobdaa.Ev
open Go Go.RowKit
set_option maxRecDepth 100000

def subC : Code → Nat → Code
  | .seq a _, 0 => a | .seq _ b, _ => b | .cond _ t _, 0 => t | .cond _ _ e, _ => e | .block _ b, _ => b | .loop b, _ => b | .scope b, _ => b
  | .rangeFunc _ _ a _, 0 => a | .rangeFunc _ _ _ b, _ => b | _, _ => .skip
def atC : Code → List Nat → Code
  | c, [] => c | c, i :: p => atC (subC c i) p
def opsC : Code → Array Oper | .region _ ops _ => ops | _ => #[]
def drawC : Code → Bool | .region _ _ d => d | _ => false
def opdC : Code → Operand | .cond c _ _ => c | .rangeFunc f _ _ _ => f | _ => .const (.bool false)
def parsC : Code → Array Tmp | .rangeFunc _ p _ _ => p | _ => #[]
def bodyC (f : Func) : Code := match f.body with | some c => c | none => .skip
noncomputable def o2_0 : Array Oper := opsC (atC (bodyC Try.f2) [])
noncomputable def c2_0 : Code := .region 0 o2_0 false
noncomputable def F2 : Func := { Try.f2 with body := some c2_0 }
theorem F2_eq : Try.f2 = F2 := rfl
theorem at2 : Try.prog.funcs[2]? = some F2 := by rw [← F2_eq]; exact Try.func2
noncomputable def o3_1 : Array Oper := opsC (atC (bodyC Try.f3) [0])
noncomputable def c3_1 : Code := .region 0 o3_1 false
noncomputable def o3_4 : Array Oper := opsC (atC (bodyC Try.f3) [1, 0, 0])
noncomputable def c3_4 : Code := .region 1 o3_4 false
noncomputable def o3_7 : Array Oper := opsC (atC (bodyC Try.f3) [1, 0, 1, 0, 0])
noncomputable def c3_7 : Code := .region 2 o3_7 false
noncomputable def c3_8 : Code := .ret
noncomputable def c3_6 : Code := .seq c3_7 c3_8
noncomputable def c3_9 : Code := .skip
noncomputable def c3_5 : Code := .cond (opdC (atC (bodyC Try.f3) [1, 0, 1])) c3_6 c3_9
noncomputable def c3_3 : Code := .seq c3_4 c3_5
noncomputable def o3_12 : Array Oper := opsC (atC (bodyC Try.f3) [1, 1, 0, 0])
noncomputable def c3_12 : Code := .region 3 o3_12 false
noncomputable def o3_15 : Array Oper := opsC (atC (bodyC Try.f3) [1, 1, 0, 1, 0, 0])
noncomputable def c3_15 : Code := .region 4 o3_15 false
noncomputable def c3_16 : Code := .ret
noncomputable def c3_14 : Code := .seq c3_15 c3_16
noncomputable def c3_17 : Code := .skip
noncomputable def c3_13 : Code := .cond (opdC (atC (bodyC Try.f3) [1, 1, 0, 1])) c3_14 c3_17
noncomputable def c3_11 : Code := .seq c3_12 c3_13
noncomputable def o3_19 : Array Oper := opsC (atC (bodyC Try.f3) [1, 1, 1, 0])
noncomputable def c3_19 : Code := .region 5 o3_19 false
noncomputable def o3_21 : Array Oper := opsC (atC (bodyC Try.f3) [1, 1, 1, 1, 0])
noncomputable def c3_21 : Code := .region 6 o3_21 false
noncomputable def o3_23 : Array Oper := opsC (atC (bodyC Try.f3) [1, 1, 1, 1, 1, 0])
noncomputable def c3_23 : Code := .region 7 o3_23 false
noncomputable def o3_25 : Array Oper := opsC (atC (bodyC Try.f3) [1, 1, 1, 1, 1, 1, 0])
noncomputable def c3_25 : Code := .region 8 o3_25 false
noncomputable def c3_26 : Code := .ret
noncomputable def c3_24 : Code := .seq c3_25 c3_26
noncomputable def c3_22 : Code := .seq c3_23 c3_24
noncomputable def c3_20 : Code := .seq c3_21 c3_22
noncomputable def c3_18 : Code := .seq c3_19 c3_20
noncomputable def c3_10 : Code := .seq c3_11 c3_18
noncomputable def c3_2 : Code := .seq c3_3 c3_10
noncomputable def c3_0 : Code := .seq c3_1 c3_2
noncomputable def F3 : Func := { Try.f3 with body := some c3_0 }
theorem F3_eq : Try.f3 = F3 := rfl
theorem at3 : Try.prog.funcs[3]? = some F3 := by rw [← F3_eq]; exact Try.func3
noncomputable def o4_1 : Array Oper := opsC (atC (bodyC Try.f4) [0])
noncomputable def c4_1 : Code := .region 0 o4_1 false
noncomputable def o4_4 : Array Oper := opsC (atC (bodyC Try.f4) [1, 0, 0])
noncomputable def c4_4 : Code := .region 1 o4_4 false
noncomputable def o4_7 : Array Oper := opsC (atC (bodyC Try.f4) [1, 0, 1, 0, 0])
noncomputable def c4_7 : Code := .region 2 o4_7 false
noncomputable def c4_8 : Code := .ret
noncomputable def c4_6 : Code := .seq c4_7 c4_8
noncomputable def c4_9 : Code := .skip
noncomputable def c4_5 : Code := .cond (opdC (atC (bodyC Try.f4) [1, 0, 1])) c4_6 c4_9
noncomputable def c4_3 : Code := .seq c4_4 c4_5
noncomputable def o4_12 : Array Oper := opsC (atC (bodyC Try.f4) [1, 1, 0, 0])
noncomputable def c4_12 : Code := .region 3 o4_12 false
noncomputable def o4_15 : Array Oper := opsC (atC (bodyC Try.f4) [1, 1, 0, 1, 0, 0])
noncomputable def c4_15 : Code := .region 4 o4_15 false
noncomputable def c4_16 : Code := .ret
noncomputable def c4_14 : Code := .seq c4_15 c4_16
noncomputable def c4_17 : Code := .skip
noncomputable def c4_13 : Code := .cond (opdC (atC (bodyC Try.f4) [1, 1, 0, 1])) c4_14 c4_17
noncomputable def c4_11 : Code := .seq c4_12 c4_13
noncomputable def o4_19 : Array Oper := opsC (atC (bodyC Try.f4) [1, 1, 1, 0])
noncomputable def c4_19 : Code := .region 5 o4_19 false
noncomputable def o4_22 : Array Oper := opsC (atC (bodyC Try.f4) [1, 1, 1, 1, 0, 0])
noncomputable def c4_22 : Code := .region 6 o4_22 false
noncomputable def o4_25 : Array Oper := opsC (atC (bodyC Try.f4) [1, 1, 1, 1, 0, 1, 0, 0])
noncomputable def c4_25 : Code := .region 7 o4_25 false
noncomputable def c4_26 : Code := .ret
noncomputable def c4_24 : Code := .seq c4_25 c4_26
noncomputable def c4_27 : Code := .skip
noncomputable def c4_23 : Code := .cond (opdC (atC (bodyC Try.f4) [1, 1, 1, 1, 0, 1])) c4_24 c4_27
noncomputable def c4_21 : Code := .seq c4_22 c4_23
noncomputable def o4_30 : Array Oper := opsC (atC (bodyC Try.f4) [1, 1, 1, 1, 1, 0, 0])
noncomputable def c4_30 : Code := .region 8 o4_30 false
noncomputable def o4_35 : Array Oper := opsC (atC (bodyC Try.f4) [1, 1, 1, 1, 1, 0, 1, 0, 0, 0, 0])
noncomputable def c4_35 : Code := .region 9 o4_35 false
noncomputable def c4_37 : Code := .skip
noncomputable def c4_38 : Code := .exit 0
noncomputable def c4_36 : Code := .cond (opdC (atC (bodyC Try.f4) [1, 1, 1, 1, 1, 0, 1, 0, 0, 0, 1])) c4_37 c4_38
noncomputable def c4_34 : Code := .seq c4_35 c4_36
noncomputable def o4_42 : Array Oper := opsC (atC (bodyC Try.f4) [1, 1, 1, 1, 1, 0, 1, 0, 0, 1, 0, 0, 0])
noncomputable def c4_42 : Code := .region 11 o4_42 false
noncomputable def o4_45 : Array Oper := opsC (atC (bodyC Try.f4) [1, 1, 1, 1, 1, 0, 1, 0, 0, 1, 0, 0, 1, 0, 0])
noncomputable def c4_45 : Code := .region 12 o4_45 false
noncomputable def o4_48 : Array Oper := opsC (atC (bodyC Try.f4) [1, 1, 1, 1, 1, 0, 1, 0, 0, 1, 0, 0, 1, 0, 1, 0, 0])
noncomputable def c4_48 : Code := .region 13 o4_48 false
noncomputable def c4_49 : Code := .ret
noncomputable def c4_47 : Code := .seq c4_48 c4_49
noncomputable def c4_50 : Code := .skip
noncomputable def c4_46 : Code := .cond (opdC (atC (bodyC Try.f4) [1, 1, 1, 1, 1, 0, 1, 0, 0, 1, 0, 0, 1, 0, 1])) c4_47 c4_50
noncomputable def c4_44 : Code := .seq c4_45 c4_46
noncomputable def o4_52 : Array Oper := opsC (atC (bodyC Try.f4) [1, 1, 1, 1, 1, 0, 1, 0, 0, 1, 0, 0, 1, 1, 0])
noncomputable def c4_52 : Code := .region 14 o4_52 false
noncomputable def o4_55 : Array Oper := opsC (atC (bodyC Try.f4) [1, 1, 1, 1, 1, 0, 1, 0, 0, 1, 0, 0, 1, 1, 1, 0, 0])
noncomputable def c4_55 : Code := .region 15 o4_55 false
noncomputable def c4_56 : Code := .ret
noncomputable def c4_54 : Code := .seq c4_55 c4_56
noncomputable def c4_57 : Code := .skip
noncomputable def c4_53 : Code := .cond (opdC (atC (bodyC Try.f4) [1, 1, 1, 1, 1, 0, 1, 0, 0, 1, 0, 0, 1, 1, 1])) c4_54 c4_57
noncomputable def c4_51 : Code := .seq c4_52 c4_53
noncomputable def c4_43 : Code := .seq c4_44 c4_51
noncomputable def c4_41 : Code := .seq c4_42 c4_43
noncomputable def c4_40 : Code := .block 1 c4_41
noncomputable def o4_58 : Array Oper := opsC (atC (bodyC Try.f4) [1, 1, 1, 1, 1, 0, 1, 0, 0, 1, 1])
noncomputable def c4_58 : Code := .region 10 o4_58 false
noncomputable def c4_39 : Code := .seq c4_40 c4_58
noncomputable def c4_33 : Code := .seq c4_34 c4_39
noncomputable def c4_32 : Code := .loop c4_33
noncomputable def c4_31 : Code := .block 0 c4_32
noncomputable def c4_29 : Code := .seq c4_30 c4_31
noncomputable def o4_60 : Array Oper := opsC (atC (bodyC Try.f4) [1, 1, 1, 1, 1, 1, 0])
noncomputable def c4_60 : Code := .region 16 o4_60 false
noncomputable def c4_61 : Code := .ret
noncomputable def c4_59 : Code := .seq c4_60 c4_61
noncomputable def c4_28 : Code := .seq c4_29 c4_59
noncomputable def c4_20 : Code := .seq c4_21 c4_28
noncomputable def c4_18 : Code := .seq c4_19 c4_20
noncomputable def c4_10 : Code := .seq c4_11 c4_18
noncomputable def c4_2 : Code := .seq c4_3 c4_10
noncomputable def c4_0 : Code := .seq c4_1 c4_2
noncomputable def F4 : Func := { Try.f4 with body := some c4_0 }
theorem F4_eq : Try.f4 = F4 := rfl
theorem at4 : Try.prog.funcs[4]? = some F4 := by rw [← F4_eq]; exact Try.func4
noncomputable def o5_1 : Array Oper := opsC (atC (bodyC Try.f5) [0])
noncomputable def c5_1 : Code := .region 0 o5_1 false
noncomputable def o5_4 : Array Oper := opsC (atC (bodyC Try.f5) [1, 0, 0])
noncomputable def c5_4 : Code := .region 1 o5_4 false
noncomputable def o5_7 : Array Oper := opsC (atC (bodyC Try.f5) [1, 0, 1, 0, 0])
noncomputable def c5_7 : Code := .region 2 o5_7 false
noncomputable def c5_8 : Code := .ret
noncomputable def c5_6 : Code := .seq c5_7 c5_8
noncomputable def c5_9 : Code := .skip
noncomputable def c5_5 : Code := .cond (opdC (atC (bodyC Try.f5) [1, 0, 1])) c5_6 c5_9
noncomputable def c5_3 : Code := .seq c5_4 c5_5
noncomputable def o5_12 : Array Oper := opsC (atC (bodyC Try.f5) [1, 1, 0, 0])
noncomputable def c5_12 : Code := .region 3 o5_12 false
noncomputable def o5_15 : Array Oper := opsC (atC (bodyC Try.f5) [1, 1, 0, 1, 0, 0])
noncomputable def c5_15 : Code := .region 4 o5_15 false
noncomputable def c5_16 : Code := .ret
noncomputable def c5_14 : Code := .seq c5_15 c5_16
noncomputable def c5_17 : Code := .skip
noncomputable def c5_13 : Code := .cond (opdC (atC (bodyC Try.f5) [1, 1, 0, 1])) c5_14 c5_17
noncomputable def c5_11 : Code := .seq c5_12 c5_13
noncomputable def o5_19 : Array Oper := opsC (atC (bodyC Try.f5) [1, 1, 1, 0])
noncomputable def c5_19 : Code := .region 5 o5_19 false
noncomputable def o5_21 : Array Oper := opsC (atC (bodyC Try.f5) [1, 1, 1, 1, 0])
noncomputable def c5_21 : Code := .region 6 o5_21 false
noncomputable def o5_23 : Array Oper := opsC (atC (bodyC Try.f5) [1, 1, 1, 1, 1, 0])
noncomputable def c5_23 : Code := .region 7 o5_23 false
noncomputable def c5_24 : Code := .ret
noncomputable def c5_22 : Code := .seq c5_23 c5_24
noncomputable def c5_20 : Code := .seq c5_21 c5_22
noncomputable def c5_18 : Code := .seq c5_19 c5_20
noncomputable def c5_10 : Code := .seq c5_11 c5_18
noncomputable def c5_2 : Code := .seq c5_3 c5_10
noncomputable def c5_0 : Code := .seq c5_1 c5_2
noncomputable def F5 : Func := { Try.f5 with body := some c5_0 }
theorem F5_eq : Try.f5 = F5 := rfl
theorem at5 : Try.prog.funcs[5]? = some F5 := by rw [← F5_eq]; exact Try.func5
noncomputable def o6_1 : Array Oper := opsC (atC (bodyC Try.f6) [0])
noncomputable def c6_1 : Code := .region 0 o6_1 false
noncomputable def o6_4 : Array Oper := opsC (atC (bodyC Try.f6) [1, 0, 0])
noncomputable def c6_4 : Code := .region 1 o6_4 false
noncomputable def o6_7 : Array Oper := opsC (atC (bodyC Try.f6) [1, 0, 1, 0, 0])
noncomputable def c6_7 : Code := .region 2 o6_7 false
noncomputable def c6_8 : Code := .ret
noncomputable def c6_6 : Code := .seq c6_7 c6_8
noncomputable def c6_9 : Code := .skip
noncomputable def c6_5 : Code := .cond (opdC (atC (bodyC Try.f6) [1, 0, 1])) c6_6 c6_9
noncomputable def c6_3 : Code := .seq c6_4 c6_5
noncomputable def o6_12 : Array Oper := opsC (atC (bodyC Try.f6) [1, 1, 0, 0])
noncomputable def c6_12 : Code := .region 3 o6_12 false
noncomputable def o6_15 : Array Oper := opsC (atC (bodyC Try.f6) [1, 1, 0, 1, 0, 0])
noncomputable def c6_15 : Code := .region 4 o6_15 false
noncomputable def c6_16 : Code := .ret
noncomputable def c6_14 : Code := .seq c6_15 c6_16
noncomputable def c6_17 : Code := .skip
noncomputable def c6_13 : Code := .cond (opdC (atC (bodyC Try.f6) [1, 1, 0, 1])) c6_14 c6_17
noncomputable def c6_11 : Code := .seq c6_12 c6_13
noncomputable def o6_19 : Array Oper := opsC (atC (bodyC Try.f6) [1, 1, 1, 0])
noncomputable def c6_19 : Code := .region 5 o6_19 false
noncomputable def o6_21 : Array Oper := opsC (atC (bodyC Try.f6) [1, 1, 1, 1, 0])
noncomputable def c6_21 : Code := .region 6 o6_21 false
noncomputable def o6_23 : Array Oper := opsC (atC (bodyC Try.f6) [1, 1, 1, 1, 1, 0])
noncomputable def c6_23 : Code := .region 7 o6_23 false
noncomputable def o6_26 : Array Oper := opsC (atC (bodyC Try.f6) [1, 1, 1, 1, 1, 1, 0, 0])
noncomputable def c6_26 : Code := .region 8 o6_26 false
noncomputable def o6_29 : Array Oper := opsC (atC (bodyC Try.f6) [1, 1, 1, 1, 1, 1, 0, 1, 0, 0])
noncomputable def c6_29 : Code := .region 9 o6_29 false
noncomputable def c6_30 : Code := .ret
noncomputable def c6_28 : Code := .seq c6_29 c6_30
noncomputable def c6_31 : Code := .skip
noncomputable def c6_27 : Code := .cond (opdC (atC (bodyC Try.f6) [1, 1, 1, 1, 1, 1, 0, 1])) c6_28 c6_31
noncomputable def c6_25 : Code := .seq c6_26 c6_27
noncomputable def o6_33 : Array Oper := opsC (atC (bodyC Try.f6) [1, 1, 1, 1, 1, 1, 1, 0])
noncomputable def c6_33 : Code := .region 10 o6_33 false
noncomputable def o6_35 : Array Oper := opsC (atC (bodyC Try.f6) [1, 1, 1, 1, 1, 1, 1, 1, 0])
noncomputable def c6_35 : Code := .region 11 o6_35 false
noncomputable def o6_38 : Array Oper := opsC (atC (bodyC Try.f6) [1, 1, 1, 1, 1, 1, 1, 1, 1, 0, 0])
noncomputable def c6_38 : Code := .region 12 o6_38 false
noncomputable def o6_41 : Array Oper := opsC (atC (bodyC Try.f6) [1, 1, 1, 1, 1, 1, 1, 1, 1, 0, 1, 0, 0])
noncomputable def c6_41 : Code := .region 13 o6_41 false
noncomputable def c6_42 : Code := .ret
noncomputable def c6_40 : Code := .seq c6_41 c6_42
noncomputable def c6_43 : Code := .skip
noncomputable def c6_39 : Code := .cond (opdC (atC (bodyC Try.f6) [1, 1, 1, 1, 1, 1, 1, 1, 1, 0, 1])) c6_40 c6_43
noncomputable def c6_37 : Code := .seq c6_38 c6_39
noncomputable def o6_45 : Array Oper := opsC (atC (bodyC Try.f6) [1, 1, 1, 1, 1, 1, 1, 1, 1, 1, 0])
noncomputable def c6_45 : Code := .region 14 o6_45 false
noncomputable def o6_47 : Array Oper := opsC (atC (bodyC Try.f6) [1, 1, 1, 1, 1, 1, 1, 1, 1, 1, 1, 0])
noncomputable def c6_47 : Code := .region 15 o6_47 false
noncomputable def c6_48 : Code := .ret
noncomputable def c6_46 : Code := .seq c6_47 c6_48
noncomputable def c6_44 : Code := .seq c6_45 c6_46
noncomputable def c6_36 : Code := .seq c6_37 c6_44
noncomputable def c6_34 : Code := .seq c6_35 c6_36
noncomputable def c6_32 : Code := .seq c6_33 c6_34
noncomputable def c6_24 : Code := .seq c6_25 c6_32
noncomputable def c6_22 : Code := .seq c6_23 c6_24
noncomputable def c6_20 : Code := .seq c6_21 c6_22
noncomputable def c6_18 : Code := .seq c6_19 c6_20
noncomputable def c6_10 : Code := .seq c6_11 c6_18
noncomputable def c6_2 : Code := .seq c6_3 c6_10
noncomputable def c6_0 : Code := .seq c6_1 c6_2
noncomputable def F6 : Func := { Try.f6 with body := some c6_0 }
theorem F6_eq : Try.f6 = F6 := rfl
theorem at6 : Try.prog.funcs[6]? = some F6 := by rw [← F6_eq]; exact Try.func6
noncomputable def o7_1 : Array Oper := opsC (atC (bodyC Try.f7) [0])
noncomputable def c7_1 : Code := .region 0 o7_1 false
noncomputable def o7_4 : Array Oper := opsC (atC (bodyC Try.f7) [1, 0, 0])
noncomputable def c7_4 : Code := .region 1 o7_4 false
noncomputable def o7_7 : Array Oper := opsC (atC (bodyC Try.f7) [1, 0, 1, 0, 0])
noncomputable def c7_7 : Code := .region 2 o7_7 false
noncomputable def c7_8 : Code := .ret
noncomputable def c7_6 : Code := .seq c7_7 c7_8
noncomputable def c7_9 : Code := .skip
noncomputable def c7_5 : Code := .cond (opdC (atC (bodyC Try.f7) [1, 0, 1])) c7_6 c7_9
noncomputable def c7_3 : Code := .seq c7_4 c7_5
noncomputable def o7_12 : Array Oper := opsC (atC (bodyC Try.f7) [1, 1, 0, 0])
noncomputable def c7_12 : Code := .region 3 o7_12 false
noncomputable def o7_15 : Array Oper := opsC (atC (bodyC Try.f7) [1, 1, 0, 1, 0, 0])
noncomputable def c7_15 : Code := .region 4 o7_15 false
noncomputable def c7_16 : Code := .ret
noncomputable def c7_14 : Code := .seq c7_15 c7_16
noncomputable def c7_17 : Code := .skip
noncomputable def c7_13 : Code := .cond (opdC (atC (bodyC Try.f7) [1, 1, 0, 1])) c7_14 c7_17
noncomputable def c7_11 : Code := .seq c7_12 c7_13
noncomputable def o7_19 : Array Oper := opsC (atC (bodyC Try.f7) [1, 1, 1, 0])
noncomputable def c7_19 : Code := .region 5 o7_19 false
noncomputable def o7_22 : Array Oper := opsC (atC (bodyC Try.f7) [1, 1, 1, 1, 0, 0])
noncomputable def c7_22 : Code := .region 6 o7_22 false
noncomputable def o7_25 : Array Oper := opsC (atC (bodyC Try.f7) [1, 1, 1, 1, 0, 1, 0, 0])
noncomputable def c7_25 : Code := .region 7 o7_25 false
noncomputable def c7_26 : Code := .ret
noncomputable def c7_24 : Code := .seq c7_25 c7_26
noncomputable def c7_27 : Code := .skip
noncomputable def c7_23 : Code := .cond (opdC (atC (bodyC Try.f7) [1, 1, 1, 1, 0, 1])) c7_24 c7_27
noncomputable def c7_21 : Code := .seq c7_22 c7_23
noncomputable def o7_29 : Array Oper := opsC (atC (bodyC Try.f7) [1, 1, 1, 1, 1, 0])
noncomputable def c7_29 : Code := .region 8 o7_29 false
noncomputable def o7_32 : Array Oper := opsC (atC (bodyC Try.f7) [1, 1, 1, 1, 1, 1, 0, 0])
noncomputable def c7_32 : Code := .region 9 o7_32 false
noncomputable def o7_35 : Array Oper := opsC (atC (bodyC Try.f7) [1, 1, 1, 1, 1, 1, 0, 1, 0, 0])
noncomputable def c7_35 : Code := .region 10 o7_35 false
noncomputable def c7_36 : Code := .ret
noncomputable def c7_34 : Code := .seq c7_35 c7_36
noncomputable def c7_37 : Code := .skip
noncomputable def c7_33 : Code := .cond (opdC (atC (bodyC Try.f7) [1, 1, 1, 1, 1, 1, 0, 1])) c7_34 c7_37
noncomputable def c7_31 : Code := .seq c7_32 c7_33
noncomputable def o7_40 : Array Oper := opsC (atC (bodyC Try.f7) [1, 1, 1, 1, 1, 1, 1, 0, 0])
noncomputable def c7_40 : Code := .region 11 o7_40 false
noncomputable def o7_45 : Array Oper := opsC (atC (bodyC Try.f7) [1, 1, 1, 1, 1, 1, 1, 0, 1, 0, 0, 0, 0])
noncomputable def c7_45 : Code := .region 12 o7_45 false
noncomputable def c7_47 : Code := .skip
noncomputable def c7_48 : Code := .exit 0
noncomputable def c7_46 : Code := .cond (opdC (atC (bodyC Try.f7) [1, 1, 1, 1, 1, 1, 1, 0, 1, 0, 0, 0, 1])) c7_47 c7_48
noncomputable def c7_44 : Code := .seq c7_45 c7_46
noncomputable def o7_52 : Array Oper := opsC (atC (bodyC Try.f7) [1, 1, 1, 1, 1, 1, 1, 0, 1, 0, 0, 1, 0, 0, 0])
noncomputable def c7_52 : Code := .region 14 o7_52 false
noncomputable def o7_54 : Array Oper := opsC (atC (bodyC Try.f7) [1, 1, 1, 1, 1, 1, 1, 0, 1, 0, 0, 1, 0, 0, 1, 0])
noncomputable def c7_54 : Code := .region 15 o7_54 true
noncomputable def o7_57 : Array Oper := opsC (atC (bodyC Try.f7) [1, 1, 1, 1, 1, 1, 1, 0, 1, 0, 0, 1, 0, 0, 1, 1, 0, 0])
noncomputable def c7_57 : Code := .region 16 o7_57 false
noncomputable def c7_58 : Code := .ret
noncomputable def c7_56 : Code := .seq c7_57 c7_58
noncomputable def c7_59 : Code := .skip
noncomputable def c7_55 : Code := .cond (opdC (atC (bodyC Try.f7) [1, 1, 1, 1, 1, 1, 1, 0, 1, 0, 0, 1, 0, 0, 1, 1])) c7_56 c7_59
noncomputable def c7_53 : Code := .seq c7_54 c7_55
noncomputable def c7_51 : Code := .seq c7_52 c7_53
noncomputable def c7_50 : Code := .block 1 c7_51
noncomputable def o7_60 : Array Oper := opsC (atC (bodyC Try.f7) [1, 1, 1, 1, 1, 1, 1, 0, 1, 0, 0, 1, 1])
noncomputable def c7_60 : Code := .region 13 o7_60 false
noncomputable def c7_49 : Code := .seq c7_50 c7_60
noncomputable def c7_43 : Code := .seq c7_44 c7_49
noncomputable def c7_42 : Code := .loop c7_43
noncomputable def c7_41 : Code := .block 0 c7_42
noncomputable def c7_39 : Code := .seq c7_40 c7_41
noncomputable def o7_62 : Array Oper := opsC (atC (bodyC Try.f7) [1, 1, 1, 1, 1, 1, 1, 1, 0])
noncomputable def c7_62 : Code := .region 17 o7_62 false
noncomputable def o7_65 : Array Oper := opsC (atC (bodyC Try.f7) [1, 1, 1, 1, 1, 1, 1, 1, 1, 0, 0])
noncomputable def c7_65 : Code := .region 18 o7_65 false
noncomputable def o7_68 : Array Oper := opsC (atC (bodyC Try.f7) [1, 1, 1, 1, 1, 1, 1, 1, 1, 0, 1, 0, 0])
noncomputable def c7_68 : Code := .region 19 o7_68 false
noncomputable def c7_69 : Code := .ret
noncomputable def c7_67 : Code := .seq c7_68 c7_69
noncomputable def c7_70 : Code := .skip
noncomputable def c7_66 : Code := .cond (opdC (atC (bodyC Try.f7) [1, 1, 1, 1, 1, 1, 1, 1, 1, 0, 1])) c7_67 c7_70
noncomputable def c7_64 : Code := .seq c7_65 c7_66
noncomputable def o7_73 : Array Oper := opsC (atC (bodyC Try.f7) [1, 1, 1, 1, 1, 1, 1, 1, 1, 1, 0, 0])
noncomputable def c7_73 : Code := .region 20 o7_73 false
noncomputable def o7_78 : Array Oper := opsC (atC (bodyC Try.f7) [1, 1, 1, 1, 1, 1, 1, 1, 1, 1, 0, 1, 0, 0, 0, 0])
noncomputable def c7_78 : Code := .region 21 o7_78 false
noncomputable def c7_80 : Code := .skip
noncomputable def c7_81 : Code := .exit 2
noncomputable def c7_79 : Code := .cond (opdC (atC (bodyC Try.f7) [1, 1, 1, 1, 1, 1, 1, 1, 1, 1, 0, 1, 0, 0, 0, 1])) c7_80 c7_81
noncomputable def c7_77 : Code := .seq c7_78 c7_79
noncomputable def o7_85 : Array Oper := opsC (atC (bodyC Try.f7) [1, 1, 1, 1, 1, 1, 1, 1, 1, 1, 0, 1, 0, 0, 1, 0, 0, 0])
noncomputable def c7_85 : Code := .region 23 o7_85 false
noncomputable def o7_88 : Array Oper := opsC (atC (bodyC Try.f7) [1, 1, 1, 1, 1, 1, 1, 1, 1, 1, 0, 1, 0, 0, 1, 0, 0, 1, 0, 0])
noncomputable def c7_88 : Code := .region 24 o7_88 true
noncomputable def c7_89 : Code := .ret
noncomputable def c7_87 : Code := .seq c7_88 c7_89
noncomputable def c7_90 : Code := .skip
noncomputable def c7_86 : Code := .cond (opdC (atC (bodyC Try.f7) [1, 1, 1, 1, 1, 1, 1, 1, 1, 1, 0, 1, 0, 0, 1, 0, 0, 1])) c7_87 c7_90
noncomputable def c7_84 : Code := .seq c7_85 c7_86
noncomputable def c7_83 : Code := .block 3 c7_84
noncomputable def o7_91 : Array Oper := opsC (atC (bodyC Try.f7) [1, 1, 1, 1, 1, 1, 1, 1, 1, 1, 0, 1, 0, 0, 1, 1])
noncomputable def c7_91 : Code := .region 22 o7_91 false
noncomputable def c7_82 : Code := .seq c7_83 c7_91
noncomputable def c7_76 : Code := .seq c7_77 c7_82
noncomputable def c7_75 : Code := .loop c7_76
noncomputable def c7_74 : Code := .block 2 c7_75
noncomputable def c7_72 : Code := .seq c7_73 c7_74
noncomputable def o7_93 : Array Oper := opsC (atC (bodyC Try.f7) [1, 1, 1, 1, 1, 1, 1, 1, 1, 1, 1, 0])
noncomputable def c7_93 : Code := .region 25 o7_93 false
noncomputable def c7_94 : Code := .ret
noncomputable def c7_92 : Code := .seq c7_93 c7_94
noncomputable def c7_71 : Code := .seq c7_72 c7_92
noncomputable def c7_63 : Code := .seq c7_64 c7_71
noncomputable def c7_61 : Code := .seq c7_62 c7_63
noncomputable def c7_38 : Code := .seq c7_39 c7_61
noncomputable def c7_30 : Code := .seq c7_31 c7_38
noncomputable def c7_28 : Code := .seq c7_29 c7_30
noncomputable def c7_20 : Code := .seq c7_21 c7_28
noncomputable def c7_18 : Code := .seq c7_19 c7_20
noncomputable def c7_10 : Code := .seq c7_11 c7_18
noncomputable def c7_2 : Code := .seq c7_3 c7_10
noncomputable def c7_0 : Code := .seq c7_1 c7_2
noncomputable def F7 : Func := { Try.f7 with body := some c7_0 }
theorem F7_eq : Try.f7 = F7 := rfl
theorem at7 : Try.prog.funcs[7]? = some F7 := by rw [← F7_eq]; exact Try.func7
noncomputable def o8_1 : Array Oper := opsC (atC (bodyC Try.f8) [0])
noncomputable def c8_1 : Code := .region 0 o8_1 false
noncomputable def o8_4 : Array Oper := opsC (atC (bodyC Try.f8) [1, 0, 0])
noncomputable def c8_4 : Code := .region 1 o8_4 false
noncomputable def o8_7 : Array Oper := opsC (atC (bodyC Try.f8) [1, 0, 1, 0, 0])
noncomputable def c8_7 : Code := .region 2 o8_7 false
noncomputable def c8_8 : Code := .ret
noncomputable def c8_6 : Code := .seq c8_7 c8_8
noncomputable def c8_9 : Code := .skip
noncomputable def c8_5 : Code := .cond (opdC (atC (bodyC Try.f8) [1, 0, 1])) c8_6 c8_9
noncomputable def c8_3 : Code := .seq c8_4 c8_5
noncomputable def o8_12 : Array Oper := opsC (atC (bodyC Try.f8) [1, 1, 0, 0])
noncomputable def c8_12 : Code := .region 3 o8_12 false
noncomputable def o8_15 : Array Oper := opsC (atC (bodyC Try.f8) [1, 1, 0, 1, 0, 0])
noncomputable def c8_15 : Code := .region 4 o8_15 false
noncomputable def c8_16 : Code := .ret
noncomputable def c8_14 : Code := .seq c8_15 c8_16
noncomputable def c8_17 : Code := .skip
noncomputable def c8_13 : Code := .cond (opdC (atC (bodyC Try.f8) [1, 1, 0, 1])) c8_14 c8_17
noncomputable def c8_11 : Code := .seq c8_12 c8_13
noncomputable def o8_19 : Array Oper := opsC (atC (bodyC Try.f8) [1, 1, 1, 0])
noncomputable def c8_19 : Code := .region 5 o8_19 false
noncomputable def o8_22 : Array Oper := opsC (atC (bodyC Try.f8) [1, 1, 1, 1, 0, 0])
noncomputable def c8_22 : Code := .region 6 o8_22 false
noncomputable def o8_27 : Array Oper := opsC (atC (bodyC Try.f8) [1, 1, 1, 1, 0, 1, 0, 0, 0, 0])
noncomputable def c8_27 : Code := .region 7 o8_27 false
noncomputable def c8_29 : Code := .skip
noncomputable def c8_30 : Code := .exit 0
noncomputable def c8_28 : Code := .cond (opdC (atC (bodyC Try.f8) [1, 1, 1, 1, 0, 1, 0, 0, 0, 1])) c8_29 c8_30
noncomputable def c8_26 : Code := .seq c8_27 c8_28
noncomputable def o8_33 : Array Oper := opsC (atC (bodyC Try.f8) [1, 1, 1, 1, 0, 1, 0, 0, 1, 0, 0])
noncomputable def c8_33 : Code := .region 9 o8_33 false
noncomputable def c8_32 : Code := .block 1 c8_33
noncomputable def o8_34 : Array Oper := opsC (atC (bodyC Try.f8) [1, 1, 1, 1, 0, 1, 0, 0, 1, 1])
noncomputable def c8_34 : Code := .region 8 o8_34 false
noncomputable def c8_31 : Code := .seq c8_32 c8_34
noncomputable def c8_25 : Code := .seq c8_26 c8_31
noncomputable def c8_24 : Code := .loop c8_25
noncomputable def c8_23 : Code := .block 0 c8_24
noncomputable def c8_21 : Code := .seq c8_22 c8_23
noncomputable def o8_36 : Array Oper := opsC (atC (bodyC Try.f8) [1, 1, 1, 1, 1, 0])
noncomputable def c8_36 : Code := .region 10 o8_36 false
noncomputable def o8_38 : Array Oper := opsC (atC (bodyC Try.f8) [1, 1, 1, 1, 1, 1, 0])
noncomputable def c8_38 : Code := .region 11 o8_38 false
noncomputable def c8_39 : Code := .ret
noncomputable def c8_37 : Code := .seq c8_38 c8_39
noncomputable def c8_35 : Code := .seq c8_36 c8_37
noncomputable def c8_20 : Code := .seq c8_21 c8_35
noncomputable def c8_18 : Code := .seq c8_19 c8_20
noncomputable def c8_10 : Code := .seq c8_11 c8_18
noncomputable def c8_2 : Code := .seq c8_3 c8_10
noncomputable def c8_0 : Code := .seq c8_1 c8_2
noncomputable def F8 : Func := { Try.f8 with body := some c8_0 }
theorem F8_eq : Try.f8 = F8 := rfl
theorem at8 : Try.prog.funcs[8]? = some F8 := by rw [← F8_eq]; exact Try.func8
noncomputable def o9_1 : Array Oper := opsC (atC (bodyC Try.f9) [0])
noncomputable def c9_1 : Code := .region 0 o9_1 false
noncomputable def o9_4 : Array Oper := opsC (atC (bodyC Try.f9) [1, 0, 0])
noncomputable def c9_4 : Code := .region 1 o9_4 false
noncomputable def o9_7 : Array Oper := opsC (atC (bodyC Try.f9) [1, 0, 1, 0, 0])
noncomputable def c9_7 : Code := .region 2 o9_7 false
noncomputable def c9_8 : Code := .ret
noncomputable def c9_6 : Code := .seq c9_7 c9_8
noncomputable def c9_9 : Code := .skip
noncomputable def c9_5 : Code := .cond (opdC (atC (bodyC Try.f9) [1, 0, 1])) c9_6 c9_9
noncomputable def c9_3 : Code := .seq c9_4 c9_5
noncomputable def o9_12 : Array Oper := opsC (atC (bodyC Try.f9) [1, 1, 0, 0])
noncomputable def c9_12 : Code := .region 3 o9_12 false
noncomputable def o9_15 : Array Oper := opsC (atC (bodyC Try.f9) [1, 1, 0, 1, 0, 0])
noncomputable def c9_15 : Code := .region 4 o9_15 false
noncomputable def c9_16 : Code := .ret
noncomputable def c9_14 : Code := .seq c9_15 c9_16
noncomputable def c9_17 : Code := .skip
noncomputable def c9_13 : Code := .cond (opdC (atC (bodyC Try.f9) [1, 1, 0, 1])) c9_14 c9_17
noncomputable def c9_11 : Code := .seq c9_12 c9_13
noncomputable def o9_19 : Array Oper := opsC (atC (bodyC Try.f9) [1, 1, 1, 0])
noncomputable def c9_19 : Code := .region 5 o9_19 false
noncomputable def o9_21 : Array Oper := opsC (atC (bodyC Try.f9) [1, 1, 1, 1, 0])
noncomputable def c9_21 : Code := .region 6 o9_21 false
noncomputable def o9_23 : Array Oper := opsC (atC (bodyC Try.f9) [1, 1, 1, 1, 1, 0])
noncomputable def c9_23 : Code := .region 7 o9_23 false
noncomputable def c9_24 : Code := .ret
noncomputable def c9_22 : Code := .seq c9_23 c9_24
noncomputable def c9_20 : Code := .seq c9_21 c9_22
noncomputable def c9_18 : Code := .seq c9_19 c9_20
noncomputable def c9_10 : Code := .seq c9_11 c9_18
noncomputable def c9_2 : Code := .seq c9_3 c9_10
noncomputable def c9_0 : Code := .seq c9_1 c9_2
noncomputable def F9 : Func := { Try.f9 with body := some c9_0 }
theorem F9_eq : Try.f9 = F9 := rfl
theorem at9 : Try.prog.funcs[9]? = some F9 := by rw [← F9_eq]; exact Try.func9
noncomputable def o10_1 : Array Oper := opsC (atC (bodyC Try.f10) [0])
noncomputable def c10_1 : Code := .region 0 o10_1 false
noncomputable def o10_4 : Array Oper := opsC (atC (bodyC Try.f10) [1, 0, 0])
noncomputable def c10_4 : Code := .region 1 o10_4 false
noncomputable def o10_7 : Array Oper := opsC (atC (bodyC Try.f10) [1, 0, 1, 0, 0])
noncomputable def c10_7 : Code := .region 2 o10_7 false
noncomputable def c10_8 : Code := .ret
noncomputable def c10_6 : Code := .seq c10_7 c10_8
noncomputable def c10_9 : Code := .skip
noncomputable def c10_5 : Code := .cond (opdC (atC (bodyC Try.f10) [1, 0, 1])) c10_6 c10_9
noncomputable def c10_3 : Code := .seq c10_4 c10_5
noncomputable def o10_12 : Array Oper := opsC (atC (bodyC Try.f10) [1, 1, 0, 0])
noncomputable def c10_12 : Code := .region 3 o10_12 false
noncomputable def o10_15 : Array Oper := opsC (atC (bodyC Try.f10) [1, 1, 0, 1, 0, 0])
noncomputable def c10_15 : Code := .region 4 o10_15 false
noncomputable def c10_16 : Code := .ret
noncomputable def c10_14 : Code := .seq c10_15 c10_16
noncomputable def c10_17 : Code := .skip
noncomputable def c10_13 : Code := .cond (opdC (atC (bodyC Try.f10) [1, 1, 0, 1])) c10_14 c10_17
noncomputable def c10_11 : Code := .seq c10_12 c10_13
noncomputable def o10_19 : Array Oper := opsC (atC (bodyC Try.f10) [1, 1, 1, 0])
noncomputable def c10_19 : Code := .region 5 o10_19 false
noncomputable def o10_22 : Array Oper := opsC (atC (bodyC Try.f10) [1, 1, 1, 1, 0, 0])
noncomputable def c10_22 : Code := .region 6 o10_22 false
noncomputable def o10_25 : Array Oper := opsC (atC (bodyC Try.f10) [1, 1, 1, 1, 0, 1, 0, 0])
noncomputable def c10_25 : Code := .region 7 o10_25 false
noncomputable def c10_26 : Code := .ret
noncomputable def c10_24 : Code := .seq c10_25 c10_26
noncomputable def c10_27 : Code := .skip
noncomputable def c10_23 : Code := .cond (opdC (atC (bodyC Try.f10) [1, 1, 1, 1, 0, 1])) c10_24 c10_27
noncomputable def c10_21 : Code := .seq c10_22 c10_23
noncomputable def o10_30 : Array Oper := opsC (atC (bodyC Try.f10) [1, 1, 1, 1, 1, 0, 0])
noncomputable def c10_30 : Code := .region 8 o10_30 false
noncomputable def o10_35 : Array Oper := opsC (atC (bodyC Try.f10) [1, 1, 1, 1, 1, 0, 1, 0, 0, 0, 0])
noncomputable def c10_35 : Code := .region 9 o10_35 false
noncomputable def c10_37 : Code := .skip
noncomputable def c10_38 : Code := .exit 0
noncomputable def c10_36 : Code := .cond (opdC (atC (bodyC Try.f10) [1, 1, 1, 1, 1, 0, 1, 0, 0, 0, 1])) c10_37 c10_38
noncomputable def c10_34 : Code := .seq c10_35 c10_36
noncomputable def o10_42 : Array Oper := opsC (atC (bodyC Try.f10) [1, 1, 1, 1, 1, 0, 1, 0, 0, 1, 0, 0, 0])
noncomputable def c10_42 : Code := .region 11 o10_42 false
noncomputable def o10_45 : Array Oper := opsC (atC (bodyC Try.f10) [1, 1, 1, 1, 1, 0, 1, 0, 0, 1, 0, 0, 1, 0, 0])
noncomputable def c10_45 : Code := .region 12 o10_45 false
noncomputable def c10_46 : Code := .ret
noncomputable def c10_44 : Code := .seq c10_45 c10_46
noncomputable def c10_47 : Code := .skip
noncomputable def c10_43 : Code := .cond (opdC (atC (bodyC Try.f10) [1, 1, 1, 1, 1, 0, 1, 0, 0, 1, 0, 0, 1])) c10_44 c10_47
noncomputable def c10_41 : Code := .seq c10_42 c10_43
noncomputable def c10_40 : Code := .block 1 c10_41
noncomputable def o10_48 : Array Oper := opsC (atC (bodyC Try.f10) [1, 1, 1, 1, 1, 0, 1, 0, 0, 1, 1])
noncomputable def c10_48 : Code := .region 10 o10_48 false
noncomputable def c10_39 : Code := .seq c10_40 c10_48
noncomputable def c10_33 : Code := .seq c10_34 c10_39
noncomputable def c10_32 : Code := .loop c10_33
noncomputable def c10_31 : Code := .block 0 c10_32
noncomputable def c10_29 : Code := .seq c10_30 c10_31
noncomputable def o10_51 : Array Oper := opsC (atC (bodyC Try.f10) [1, 1, 1, 1, 1, 1, 0, 0])
noncomputable def c10_51 : Code := .region 13 o10_51 false
noncomputable def o10_54 : Array Oper := opsC (atC (bodyC Try.f10) [1, 1, 1, 1, 1, 1, 0, 1, 0, 0])
noncomputable def c10_54 : Code := .region 14 o10_54 false
noncomputable def c10_55 : Code := .ret
noncomputable def c10_53 : Code := .seq c10_54 c10_55
noncomputable def c10_56 : Code := .skip
noncomputable def c10_52 : Code := .cond (opdC (atC (bodyC Try.f10) [1, 1, 1, 1, 1, 1, 0, 1])) c10_53 c10_56
noncomputable def c10_50 : Code := .seq c10_51 c10_52
noncomputable def o10_58 : Array Oper := opsC (atC (bodyC Try.f10) [1, 1, 1, 1, 1, 1, 1, 0])
noncomputable def c10_58 : Code := .region 15 o10_58 false
noncomputable def o10_60 : Array Oper := opsC (atC (bodyC Try.f10) [1, 1, 1, 1, 1, 1, 1, 1, 0])
noncomputable def c10_60 : Code := .region 16 o10_60 true
noncomputable def o10_62 : Array Oper := opsC (atC (bodyC Try.f10) [1, 1, 1, 1, 1, 1, 1, 1, 1, 0])
noncomputable def c10_62 : Code := .region 17 o10_62 false
noncomputable def c10_63 : Code := .ret
noncomputable def c10_61 : Code := .seq c10_62 c10_63
noncomputable def c10_59 : Code := .seq c10_60 c10_61
noncomputable def c10_57 : Code := .seq c10_58 c10_59
noncomputable def c10_49 : Code := .seq c10_50 c10_57
noncomputable def c10_28 : Code := .seq c10_29 c10_49
noncomputable def c10_20 : Code := .seq c10_21 c10_28
noncomputable def c10_18 : Code := .seq c10_19 c10_20
noncomputable def c10_10 : Code := .seq c10_11 c10_18
noncomputable def c10_2 : Code := .seq c10_3 c10_10
noncomputable def c10_0 : Code := .seq c10_1 c10_2
noncomputable def F10 : Func := { Try.f10 with body := some c10_0 }
theorem F10_eq : Try.f10 = F10 := rfl
theorem at10 : Try.prog.funcs[10]? = some F10 := by rw [← F10_eq]; exact Try.func10
noncomputable def o11_1 : Array Oper := opsC (atC (bodyC Try.f11) [0])
noncomputable def c11_1 : Code := .region 0 o11_1 false
noncomputable def o11_3 : Array Oper := opsC (atC (bodyC Try.f11) [1, 0])
noncomputable def c11_3 : Code := .region 1 o11_3 false
noncomputable def o11_5 : Array Oper := opsC (atC (bodyC Try.f11) [1, 1, 0])
noncomputable def c11_5 : Code := .region 2 o11_5 false
noncomputable def o11_7 : Array Oper := opsC (atC (bodyC Try.f11) [1, 1, 1, 0])
noncomputable def c11_7 : Code := .region 3 o11_7 false
noncomputable def o11_9 : Array Oper := opsC (atC (bodyC Try.f11) [1, 1, 1, 1, 0])
noncomputable def c11_9 : Code := .region 4 o11_9 false
noncomputable def c11_10 : Code := .ret
noncomputable def c11_8 : Code := .seq c11_9 c11_10
noncomputable def c11_6 : Code := .seq c11_7 c11_8
noncomputable def c11_4 : Code := .seq c11_5 c11_6
noncomputable def c11_2 : Code := .seq c11_3 c11_4
noncomputable def c11_0 : Code := .seq c11_1 c11_2
noncomputable def F11 : Func := { Try.f11 with body := some c11_0 }
theorem F11_eq : Try.f11 = F11 := rfl
theorem at11 : Try.prog.funcs[11]? = some F11 := by rw [← F11_eq]; exact Try.func11
noncomputable def o12_1 : Array Oper := opsC (atC (bodyC Try.f12) [0])
noncomputable def c12_1 : Code := .region 0 o12_1 false
noncomputable def o12_3 : Array Oper := opsC (atC (bodyC Try.f12) [1, 0])
noncomputable def c12_3 : Code := .region 1 o12_3 false
noncomputable def o12_6 : Array Oper := opsC (atC (bodyC Try.f12) [1, 1, 0, 0])
noncomputable def c12_6 : Code := .region 2 o12_6 false
noncomputable def o12_11 : Array Oper := opsC (atC (bodyC Try.f12) [1, 1, 0, 1, 0, 0, 0, 0])
noncomputable def c12_11 : Code := .region 3 o12_11 false
noncomputable def c12_13 : Code := .skip
noncomputable def c12_14 : Code := .exit 0
noncomputable def c12_12 : Code := .cond (opdC (atC (bodyC Try.f12) [1, 1, 0, 1, 0, 0, 0, 1])) c12_13 c12_14
noncomputable def c12_10 : Code := .seq c12_11 c12_12
noncomputable def o12_17 : Array Oper := opsC (atC (bodyC Try.f12) [1, 1, 0, 1, 0, 0, 1, 0, 0])
noncomputable def c12_17 : Code := .region 5 o12_17 true
noncomputable def c12_16 : Code := .block 1 c12_17
noncomputable def o12_18 : Array Oper := opsC (atC (bodyC Try.f12) [1, 1, 0, 1, 0, 0, 1, 1])
noncomputable def c12_18 : Code := .region 4 o12_18 false
noncomputable def c12_15 : Code := .seq c12_16 c12_18
noncomputable def c12_9 : Code := .seq c12_10 c12_15
noncomputable def c12_8 : Code := .loop c12_9
noncomputable def c12_7 : Code := .block 0 c12_8
noncomputable def c12_5 : Code := .seq c12_6 c12_7
noncomputable def o12_20 : Array Oper := opsC (atC (bodyC Try.f12) [1, 1, 1, 0])
noncomputable def c12_20 : Code := .region 6 o12_20 false
noncomputable def c12_21 : Code := .ret
noncomputable def c12_19 : Code := .seq c12_20 c12_21
noncomputable def c12_4 : Code := .seq c12_5 c12_19
noncomputable def c12_2 : Code := .seq c12_3 c12_4
noncomputable def c12_0 : Code := .seq c12_1 c12_2
noncomputable def F12 : Func := { Try.f12 with body := some c12_0 }
theorem F12_eq : Try.f12 = F12 := rfl
theorem at12 : Try.prog.funcs[12]? = some F12 := by rw [← F12_eq]; exact Try.func12
noncomputable def o13_1 : Array Oper := opsC (atC (bodyC Try.f13) [0])
noncomputable def c13_1 : Code := .region 0 o13_1 false
noncomputable def o13_3 : Array Oper := opsC (atC (bodyC Try.f13) [1, 0])
noncomputable def c13_3 : Code := .region 1 o13_3 false
noncomputable def o13_6 : Array Oper := opsC (atC (bodyC Try.f13) [1, 1, 0, 0])
noncomputable def c13_6 : Code := .region 2 o13_6 false
noncomputable def o13_11 : Array Oper := opsC (atC (bodyC Try.f13) [1, 1, 0, 1, 0, 0, 0, 0])
noncomputable def c13_11 : Code := .region 3 o13_11 false
noncomputable def c13_13 : Code := .skip
noncomputable def c13_14 : Code := .exit 0
noncomputable def c13_12 : Code := .cond (opdC (atC (bodyC Try.f13) [1, 1, 0, 1, 0, 0, 0, 1])) c13_13 c13_14
noncomputable def c13_10 : Code := .seq c13_11 c13_12
noncomputable def o13_17 : Array Oper := opsC (atC (bodyC Try.f13) [1, 1, 0, 1, 0, 0, 1, 0, 0])
noncomputable def c13_17 : Code := .region 5 o13_17 true
noncomputable def c13_16 : Code := .block 1 c13_17
noncomputable def o13_18 : Array Oper := opsC (atC (bodyC Try.f13) [1, 1, 0, 1, 0, 0, 1, 1])
noncomputable def c13_18 : Code := .region 4 o13_18 false
noncomputable def c13_15 : Code := .seq c13_16 c13_18
noncomputable def c13_9 : Code := .seq c13_10 c13_15
noncomputable def c13_8 : Code := .loop c13_9
noncomputable def c13_7 : Code := .block 0 c13_8
noncomputable def c13_5 : Code := .seq c13_6 c13_7
noncomputable def o13_20 : Array Oper := opsC (atC (bodyC Try.f13) [1, 1, 1, 0])
noncomputable def c13_20 : Code := .region 6 o13_20 false
noncomputable def c13_21 : Code := .ret
noncomputable def c13_19 : Code := .seq c13_20 c13_21
noncomputable def c13_4 : Code := .seq c13_5 c13_19
noncomputable def c13_2 : Code := .seq c13_3 c13_4
noncomputable def c13_0 : Code := .seq c13_1 c13_2
noncomputable def F13 : Func := { Try.f13 with body := some c13_0 }
theorem F13_eq : Try.f13 = F13 := rfl
theorem at13 : Try.prog.funcs[13]? = some F13 := by rw [← F13_eq]; exact Try.func13
noncomputable def o14_1 : Array Oper := opsC (atC (bodyC Try.f14) [0])
noncomputable def c14_1 : Code := .region 0 o14_1 false
noncomputable def o14_5 : Array Oper := opsC (atC (bodyC Try.f14) [1, 0, 0, 0])
noncomputable def c14_5 : Code := .region 1 o14_5 false
noncomputable def o14_8 : Array Oper := opsC (atC (bodyC Try.f14) [1, 0, 0, 1, 0, 0])
noncomputable def c14_8 : Code := .region 2 o14_8 false
noncomputable def c14_9 : Code := .ret
noncomputable def c14_7 : Code := .seq c14_8 c14_9
noncomputable def o14_11 : Array Oper := opsC (atC (bodyC Try.f14) [1, 0, 0, 1, 1, 0])
noncomputable def c14_11 : Code := .region 3 o14_11 false
noncomputable def o14_14 : Array Oper := opsC (atC (bodyC Try.f14) [1, 0, 0, 1, 1, 1, 0, 0])
noncomputable def c14_14 : Code := .region 4 o14_14 false
noncomputable def c14_15 : Code := .ret
noncomputable def c14_13 : Code := .seq c14_14 c14_15
noncomputable def c14_16 : Code := .skip
noncomputable def c14_12 : Code := .cond (opdC (atC (bodyC Try.f14) [1, 0, 0, 1, 1, 1])) c14_13 c14_16
noncomputable def c14_10 : Code := .seq c14_11 c14_12
noncomputable def c14_6 : Code := .cond (opdC (atC (bodyC Try.f14) [1, 0, 0, 1])) c14_7 c14_10
noncomputable def c14_4 : Code := .seq c14_5 c14_6
noncomputable def c14_3 : Code := .block 0 c14_4
noncomputable def o14_18 : Array Oper := opsC (atC (bodyC Try.f14) [1, 1, 0])
noncomputable def c14_18 : Code := .region 5 o14_18 false
noncomputable def c14_19 : Code := .ret
noncomputable def c14_17 : Code := .seq c14_18 c14_19
noncomputable def c14_2 : Code := .seq c14_3 c14_17
noncomputable def c14_0 : Code := .seq c14_1 c14_2
noncomputable def F14 : Func := { Try.f14 with body := some c14_0 }
theorem F14_eq : Try.f14 = F14 := rfl
theorem at14 : Try.prog.funcs[14]? = some F14 := by rw [← F14_eq]; exact Try.func14
noncomputable def o15_1 : Array Oper := opsC (atC (bodyC Try.f15) [0])
noncomputable def c15_1 : Code := .region 0 o15_1 false
noncomputable def o15_4 : Array Oper := opsC (atC (bodyC Try.f15) [1, 0, 0])
noncomputable def c15_4 : Code := .region 1 o15_4 false
noncomputable def o15_7 : Array Oper := opsC (atC (bodyC Try.f15) [1, 0, 1, 0, 0])
noncomputable def c15_7 : Code := .region 2 o15_7 false
noncomputable def c15_8 : Code := .ret
noncomputable def c15_6 : Code := .seq c15_7 c15_8
noncomputable def c15_9 : Code := .skip
noncomputable def c15_5 : Code := .cond (opdC (atC (bodyC Try.f15) [1, 0, 1])) c15_6 c15_9
noncomputable def c15_3 : Code := .seq c15_4 c15_5
noncomputable def o15_12 : Array Oper := opsC (atC (bodyC Try.f15) [1, 1, 0, 0])
noncomputable def c15_12 : Code := .region 3 o15_12 false
noncomputable def o15_15 : Array Oper := opsC (atC (bodyC Try.f15) [1, 1, 0, 1, 0, 0])
noncomputable def c15_15 : Code := .region 4 o15_15 false
noncomputable def c15_16 : Code := .ret
noncomputable def c15_14 : Code := .seq c15_15 c15_16
noncomputable def c15_17 : Code := .skip
noncomputable def c15_13 : Code := .cond (opdC (atC (bodyC Try.f15) [1, 1, 0, 1])) c15_14 c15_17
noncomputable def c15_11 : Code := .seq c15_12 c15_13
noncomputable def o15_19 : Array Oper := opsC (atC (bodyC Try.f15) [1, 1, 1, 0])
noncomputable def c15_19 : Code := .region 5 o15_19 false
noncomputable def c15_20 : Code := .ret
noncomputable def c15_18 : Code := .seq c15_19 c15_20
noncomputable def c15_10 : Code := .seq c15_11 c15_18
noncomputable def c15_2 : Code := .seq c15_3 c15_10
noncomputable def c15_0 : Code := .seq c15_1 c15_2
noncomputable def F15 : Func := { Try.f15 with body := some c15_0 }
theorem F15_eq : Try.f15 = F15 := rfl
theorem at15 : Try.prog.funcs[15]? = some F15 := by rw [← F15_eq]; exact Try.func15
noncomputable def o16_1 : Array Oper := opsC (atC (bodyC Try.f16) [0])
noncomputable def c16_1 : Code := .region 0 o16_1 false
noncomputable def o16_3 : Array Oper := opsC (atC (bodyC Try.f16) [1, 0])
noncomputable def c16_3 : Code := .region 1 o16_3 false
noncomputable def c16_4 : Code := .ret
noncomputable def c16_2 : Code := .seq c16_3 c16_4
noncomputable def c16_0 : Code := .seq c16_1 c16_2
noncomputable def F16 : Func := { Try.f16 with body := some c16_0 }
theorem F16_eq : Try.f16 = F16 := rfl
theorem at16 : Try.prog.funcs[16]? = some F16 := by rw [← F16_eq]; exact Try.func16
noncomputable def o17_1 : Array Oper := opsC (atC (bodyC Try.f17) [0])
noncomputable def c17_1 : Code := .region 0 o17_1 false
noncomputable def o17_4 : Array Oper := opsC (atC (bodyC Try.f17) [1, 0, 0])
noncomputable def c17_4 : Code := .region 1 o17_4 false
noncomputable def o17_7 : Array Oper := opsC (atC (bodyC Try.f17) [1, 0, 1, 0, 0])
noncomputable def c17_7 : Code := .region 2 o17_7 false
noncomputable def c17_8 : Code := .ret
noncomputable def c17_6 : Code := .seq c17_7 c17_8
noncomputable def c17_9 : Code := .skip
noncomputable def c17_5 : Code := .cond (opdC (atC (bodyC Try.f17) [1, 0, 1])) c17_6 c17_9
noncomputable def c17_3 : Code := .seq c17_4 c17_5
noncomputable def o17_12 : Array Oper := opsC (atC (bodyC Try.f17) [1, 1, 0, 0])
noncomputable def c17_12 : Code := .region 3 o17_12 false
noncomputable def o17_17 : Array Oper := opsC (atC (bodyC Try.f17) [1, 1, 0, 1, 0, 0, 0, 0])
noncomputable def c17_17 : Code := .region 4 o17_17 false
noncomputable def c17_19 : Code := .skip
noncomputable def c17_20 : Code := .exit 0
noncomputable def c17_18 : Code := .cond (opdC (atC (bodyC Try.f17) [1, 1, 0, 1, 0, 0, 0, 1])) c17_19 c17_20
noncomputable def c17_16 : Code := .seq c17_17 c17_18
noncomputable def o17_24 : Array Oper := opsC (atC (bodyC Try.f17) [1, 1, 0, 1, 0, 0, 1, 0, 0, 0])
noncomputable def c17_24 : Code := .region 6 o17_24 true
noncomputable def o17_27 : Array Oper := opsC (atC (bodyC Try.f17) [1, 1, 0, 1, 0, 0, 1, 0, 0, 1, 0, 0])
noncomputable def c17_27 : Code := .region 7 o17_27 false
noncomputable def c17_28 : Code := .ret
noncomputable def c17_26 : Code := .seq c17_27 c17_28
noncomputable def c17_29 : Code := .skip
noncomputable def c17_25 : Code := .cond (opdC (atC (bodyC Try.f17) [1, 1, 0, 1, 0, 0, 1, 0, 0, 1])) c17_26 c17_29
noncomputable def c17_23 : Code := .seq c17_24 c17_25
noncomputable def c17_22 : Code := .block 1 c17_23
noncomputable def o17_30 : Array Oper := opsC (atC (bodyC Try.f17) [1, 1, 0, 1, 0, 0, 1, 1])
noncomputable def c17_30 : Code := .region 5 o17_30 false
noncomputable def c17_21 : Code := .seq c17_22 c17_30
noncomputable def c17_15 : Code := .seq c17_16 c17_21
noncomputable def c17_14 : Code := .loop c17_15
noncomputable def c17_13 : Code := .block 0 c17_14
noncomputable def c17_11 : Code := .seq c17_12 c17_13
noncomputable def o17_32 : Array Oper := opsC (atC (bodyC Try.f17) [1, 1, 1, 0])
noncomputable def c17_32 : Code := .region 8 o17_32 false
noncomputable def c17_33 : Code := .ret
noncomputable def c17_31 : Code := .seq c17_32 c17_33
noncomputable def c17_10 : Code := .seq c17_11 c17_31
noncomputable def c17_2 : Code := .seq c17_3 c17_10
noncomputable def c17_0 : Code := .seq c17_1 c17_2
noncomputable def F17 : Func := { Try.f17 with body := some c17_0 }
theorem F17_eq : Try.f17 = F17 := rfl
theorem at17 : Try.prog.funcs[17]? = some F17 := by rw [← F17_eq]; exact Try.func17
noncomputable def o18_1 : Array Oper := opsC (atC (bodyC Try.f18) [0])
noncomputable def c18_1 : Code := .region 0 o18_1 false
noncomputable def o18_3 : Array Oper := opsC (atC (bodyC Try.f18) [1, 0])
noncomputable def c18_3 : Code := .region 1 o18_3 false
noncomputable def o18_6 : Array Oper := opsC (atC (bodyC Try.f18) [1, 1, 0, 0])
noncomputable def c18_6 : Code := .region 2 o18_6 false
noncomputable def o18_9 : Array Oper := opsC (atC (bodyC Try.f18) [1, 1, 0, 1, 0, 0])
noncomputable def c18_9 : Code := .region 3 o18_9 false
noncomputable def c18_10 : Code := .ret
noncomputable def c18_8 : Code := .seq c18_9 c18_10
noncomputable def c18_11 : Code := .skip
noncomputable def c18_7 : Code := .cond (opdC (atC (bodyC Try.f18) [1, 1, 0, 1])) c18_8 c18_11
noncomputable def c18_5 : Code := .seq c18_6 c18_7
noncomputable def o18_13 : Array Oper := opsC (atC (bodyC Try.f18) [1, 1, 1, 0])
noncomputable def c18_13 : Code := .region 4 o18_13 false
noncomputable def o18_16 : Array Oper := opsC (atC (bodyC Try.f18) [1, 1, 1, 1, 0, 0])
noncomputable def c18_16 : Code := .region 5 o18_16 false
noncomputable def o18_19 : Array Oper := opsC (atC (bodyC Try.f18) [1, 1, 1, 1, 0, 1, 0, 0])
noncomputable def c18_19 : Code := .region 6 o18_19 false
noncomputable def c18_20 : Code := .ret
noncomputable def c18_18 : Code := .seq c18_19 c18_20
noncomputable def c18_21 : Code := .skip
noncomputable def c18_17 : Code := .cond (opdC (atC (bodyC Try.f18) [1, 1, 1, 1, 0, 1])) c18_18 c18_21
noncomputable def c18_15 : Code := .seq c18_16 c18_17
noncomputable def o18_23 : Array Oper := opsC (atC (bodyC Try.f18) [1, 1, 1, 1, 1, 0])
noncomputable def c18_23 : Code := .region 7 o18_23 false
noncomputable def o18_25 : Array Oper := opsC (atC (bodyC Try.f18) [1, 1, 1, 1, 1, 1, 0])
noncomputable def c18_25 : Code := .region 8 o18_25 false
noncomputable def o18_28 : Array Oper := opsC (atC (bodyC Try.f18) [1, 1, 1, 1, 1, 1, 1, 0, 0])
noncomputable def c18_28 : Code := .region 9 o18_28 false
noncomputable def o18_30 : Array Oper := opsC (atC (bodyC Try.f18) [1, 1, 1, 1, 1, 1, 1, 0, 1, 0])
noncomputable def c18_30 : Code := .region 10 o18_30 false
noncomputable def c18_31 : Code := .skip
noncomputable def c18_29 : Code := .cond (opdC (atC (bodyC Try.f18) [1, 1, 1, 1, 1, 1, 1, 0, 1])) c18_30 c18_31
noncomputable def c18_27 : Code := .seq c18_28 c18_29
noncomputable def o18_33 : Array Oper := opsC (atC (bodyC Try.f18) [1, 1, 1, 1, 1, 1, 1, 1, 0])
noncomputable def c18_33 : Code := .region 11 o18_33 false
noncomputable def o18_35 : Array Oper := opsC (atC (bodyC Try.f18) [1, 1, 1, 1, 1, 1, 1, 1, 1, 0])
noncomputable def c18_35 : Code := .region 12 o18_35 false
noncomputable def o18_41 : Array Oper := opsC (atC (bodyC Try.f18) [1, 1, 1, 1, 1, 1, 1, 1, 1, 1, 0, 0, 0, 0, 0])
noncomputable def c18_41 : Code := .region 13 o18_41 true
noncomputable def c18_43 : Code := .skip
noncomputable def c18_44 : Code := .exit 0
noncomputable def c18_42 : Code := .cond (opdC (atC (bodyC Try.f18) [1, 1, 1, 1, 1, 1, 1, 1, 1, 1, 0, 0, 0, 0, 1])) c18_43 c18_44
noncomputable def c18_40 : Code := .seq c18_41 c18_42
noncomputable def o18_48 : Array Oper := opsC (atC (bodyC Try.f18) [1, 1, 1, 1, 1, 1, 1, 1, 1, 1, 0, 0, 0, 1, 0, 0, 0])
noncomputable def c18_48 : Code := .region 14 o18_48 false
noncomputable def o18_50 : Array Oper := opsC (atC (bodyC Try.f18) [1, 1, 1, 1, 1, 1, 1, 1, 1, 1, 0, 0, 0, 1, 0, 0, 1, 0])
noncomputable def c18_50 : Code := .region 15 o18_50 false
noncomputable def c18_51 : Code := .skip
noncomputable def c18_49 : Code := .cond (opdC (atC (bodyC Try.f18) [1, 1, 1, 1, 1, 1, 1, 1, 1, 1, 0, 0, 0, 1, 0, 0, 1])) c18_50 c18_51
noncomputable def c18_47 : Code := .seq c18_48 c18_49
noncomputable def o18_53 : Array Oper := opsC (atC (bodyC Try.f18) [1, 1, 1, 1, 1, 1, 1, 1, 1, 1, 0, 0, 0, 1, 0, 1, 0])
noncomputable def c18_53 : Code := .region 16 o18_53 false
noncomputable def o18_56 : Array Oper := opsC (atC (bodyC Try.f18) [1, 1, 1, 1, 1, 1, 1, 1, 1, 1, 0, 0, 0, 1, 0, 1, 1, 0, 0])
noncomputable def c18_56 : Code := .region 17 o18_56 false
noncomputable def o18_59 : Array Oper := opsC (atC (bodyC Try.f18) [1, 1, 1, 1, 1, 1, 1, 1, 1, 1, 0, 0, 0, 1, 0, 1, 1, 0, 1, 0, 0])
noncomputable def c18_59 : Code := .region 18 o18_59 false
noncomputable def c18_60 : Code := .ret
noncomputable def c18_58 : Code := .seq c18_59 c18_60
noncomputable def c18_61 : Code := .skip
noncomputable def c18_57 : Code := .cond (opdC (atC (bodyC Try.f18) [1, 1, 1, 1, 1, 1, 1, 1, 1, 1, 0, 0, 0, 1, 0, 1, 1, 0, 1])) c18_58 c18_61
noncomputable def c18_55 : Code := .seq c18_56 c18_57
noncomputable def o18_62 : Array Oper := opsC (atC (bodyC Try.f18) [1, 1, 1, 1, 1, 1, 1, 1, 1, 1, 0, 0, 0, 1, 0, 1, 1, 1])
noncomputable def c18_62 : Code := .region 19 o18_62 true
noncomputable def c18_54 : Code := .seq c18_55 c18_62
noncomputable def c18_52 : Code := .seq c18_53 c18_54
noncomputable def c18_46 : Code := .seq c18_47 c18_52
noncomputable def c18_45 : Code := .block 1 c18_46
noncomputable def c18_39 : Code := .seq c18_40 c18_45
noncomputable def c18_38 : Code := .loop c18_39
noncomputable def c18_37 : Code := .block 0 c18_38
noncomputable def o18_65 : Array Oper := opsC (atC (bodyC Try.f18) [1, 1, 1, 1, 1, 1, 1, 1, 1, 1, 1, 0, 0])
noncomputable def c18_65 : Code := .region 20 o18_65 false
noncomputable def o18_67 : Array Oper := opsC (atC (bodyC Try.f18) [1, 1, 1, 1, 1, 1, 1, 1, 1, 1, 1, 0, 1, 0])
noncomputable def c18_67 : Code := .region 21 o18_67 false
noncomputable def c18_68 : Code := .skip
noncomputable def c18_66 : Code := .cond (opdC (atC (bodyC Try.f18) [1, 1, 1, 1, 1, 1, 1, 1, 1, 1, 1, 0, 1])) c18_67 c18_68
noncomputable def c18_64 : Code := .seq c18_65 c18_66
noncomputable def o18_71 : Array Oper := opsC (atC (bodyC Try.f18) [1, 1, 1, 1, 1, 1, 1, 1, 1, 1, 1, 1, 0, 0])
noncomputable def c18_71 : Code := .region 22 o18_71 false
noncomputable def o18_73 : Array Oper := opsC (atC (bodyC Try.f18) [1, 1, 1, 1, 1, 1, 1, 1, 1, 1, 1, 1, 0, 1, 0])
noncomputable def c18_73 : Code := .region 23 o18_73 false
noncomputable def o18_76 : Array Oper := opsC (atC (bodyC Try.f18) [1, 1, 1, 1, 1, 1, 1, 1, 1, 1, 1, 1, 0, 1, 1, 0, 0])
noncomputable def c18_76 : Code := .region 24 o18_76 false
noncomputable def c18_77 : Code := .ret
noncomputable def c18_75 : Code := .seq c18_76 c18_77
noncomputable def c18_78 : Code := .skip
noncomputable def c18_74 : Code := .cond (opdC (atC (bodyC Try.f18) [1, 1, 1, 1, 1, 1, 1, 1, 1, 1, 1, 1, 0, 1, 1])) c18_75 c18_78
noncomputable def c18_72 : Code := .seq c18_73 c18_74
noncomputable def c18_70 : Code := .seq c18_71 c18_72
noncomputable def o18_80 : Array Oper := opsC (atC (bodyC Try.f18) [1, 1, 1, 1, 1, 1, 1, 1, 1, 1, 1, 1, 1, 0])
noncomputable def c18_80 : Code := .region 25 o18_80 false
noncomputable def c18_81 : Code := .ret
noncomputable def c18_79 : Code := .seq c18_80 c18_81
noncomputable def c18_69 : Code := .seq c18_70 c18_79
noncomputable def c18_63 : Code := .seq c18_64 c18_69
noncomputable def c18_36 : Code := .seq c18_37 c18_63
noncomputable def c18_34 : Code := .seq c18_35 c18_36
noncomputable def c18_32 : Code := .seq c18_33 c18_34
noncomputable def c18_26 : Code := .seq c18_27 c18_32
noncomputable def c18_24 : Code := .seq c18_25 c18_26
noncomputable def c18_22 : Code := .seq c18_23 c18_24
noncomputable def c18_14 : Code := .seq c18_15 c18_22
noncomputable def c18_12 : Code := .seq c18_13 c18_14
noncomputable def c18_4 : Code := .seq c18_5 c18_12
noncomputable def c18_2 : Code := .seq c18_3 c18_4
noncomputable def c18_0 : Code := .seq c18_1 c18_2
noncomputable def F18 : Func := { Try.f18 with body := some c18_0 }
theorem F18_eq : Try.f18 = F18 := rfl
theorem at18 : Try.prog.funcs[18]? = some F18 := by rw [← F18_eq]; exact Try.func18
noncomputable def o19_1 : Array Oper := opsC (atC (bodyC Try.f19) [0])
noncomputable def c19_1 : Code := .region 0 o19_1 false
noncomputable def o19_4 : Array Oper := opsC (atC (bodyC Try.f19) [1, 0, 0])
noncomputable def c19_4 : Code := .region 1 o19_4 false
noncomputable def o19_7 : Array Oper := opsC (atC (bodyC Try.f19) [1, 0, 1, 0, 0])
noncomputable def c19_7 : Code := .region 2 o19_7 false
noncomputable def c19_8 : Code := .ret
noncomputable def c19_6 : Code := .seq c19_7 c19_8
noncomputable def c19_9 : Code := .skip
noncomputable def c19_5 : Code := .cond (opdC (atC (bodyC Try.f19) [1, 0, 1])) c19_6 c19_9
noncomputable def c19_3 : Code := .seq c19_4 c19_5
noncomputable def o19_11 : Array Oper := opsC (atC (bodyC Try.f19) [1, 1, 0])
noncomputable def c19_11 : Code := .region 3 o19_11 false
noncomputable def o19_14 : Array Oper := opsC (atC (bodyC Try.f19) [1, 1, 1, 0, 0])
noncomputable def c19_14 : Code := .region 4 o19_14 false
noncomputable def o19_17 : Array Oper := opsC (atC (bodyC Try.f19) [1, 1, 1, 0, 1, 0, 0])
noncomputable def c19_17 : Code := .region 5 o19_17 false
noncomputable def c19_18 : Code := .ret
noncomputable def c19_16 : Code := .seq c19_17 c19_18
noncomputable def c19_19 : Code := .skip
noncomputable def c19_15 : Code := .cond (opdC (atC (bodyC Try.f19) [1, 1, 1, 0, 1])) c19_16 c19_19
noncomputable def c19_13 : Code := .seq c19_14 c19_15
noncomputable def o19_21 : Array Oper := opsC (atC (bodyC Try.f19) [1, 1, 1, 1, 0])
noncomputable def c19_21 : Code := .region 6 o19_21 false
noncomputable def o19_24 : Array Oper := opsC (atC (bodyC Try.f19) [1, 1, 1, 1, 1, 0, 0])
noncomputable def c19_24 : Code := .region 7 o19_24 false
noncomputable def o19_27 : Array Oper := opsC (atC (bodyC Try.f19) [1, 1, 1, 1, 1, 0, 1, 0, 0])
noncomputable def c19_27 : Code := .region 8 o19_27 false
noncomputable def c19_28 : Code := .ret
noncomputable def c19_26 : Code := .seq c19_27 c19_28
noncomputable def c19_29 : Code := .skip
noncomputable def c19_25 : Code := .cond (opdC (atC (bodyC Try.f19) [1, 1, 1, 1, 1, 0, 1])) c19_26 c19_29
noncomputable def c19_23 : Code := .seq c19_24 c19_25
noncomputable def o19_32 : Array Oper := opsC (atC (bodyC Try.f19) [1, 1, 1, 1, 1, 1, 0, 0])
noncomputable def c19_32 : Code := .region 9 o19_32 false
noncomputable def o19_37 : Array Oper := opsC (atC (bodyC Try.f19) [1, 1, 1, 1, 1, 1, 0, 1, 0, 0, 0, 0])
noncomputable def c19_37 : Code := .region 10 o19_37 false
noncomputable def c19_39 : Code := .skip
noncomputable def c19_40 : Code := .exit 0
noncomputable def c19_38 : Code := .cond (opdC (atC (bodyC Try.f19) [1, 1, 1, 1, 1, 1, 0, 1, 0, 0, 0, 1])) c19_39 c19_40
noncomputable def c19_36 : Code := .seq c19_37 c19_38
noncomputable def o19_44 : Array Oper := opsC (atC (bodyC Try.f19) [1, 1, 1, 1, 1, 1, 0, 1, 0, 0, 1, 0, 0, 0])
noncomputable def c19_44 : Code := .region 12 o19_44 true
noncomputable def o19_47 : Array Oper := opsC (atC (bodyC Try.f19) [1, 1, 1, 1, 1, 1, 0, 1, 0, 0, 1, 0, 0, 1, 0, 0])
noncomputable def c19_47 : Code := .region 13 o19_47 false
noncomputable def c19_48 : Code := .ret
noncomputable def c19_46 : Code := .seq c19_47 c19_48
noncomputable def c19_49 : Code := .skip
noncomputable def c19_45 : Code := .cond (opdC (atC (bodyC Try.f19) [1, 1, 1, 1, 1, 1, 0, 1, 0, 0, 1, 0, 0, 1])) c19_46 c19_49
noncomputable def c19_43 : Code := .seq c19_44 c19_45
noncomputable def c19_42 : Code := .block 1 c19_43
noncomputable def o19_50 : Array Oper := opsC (atC (bodyC Try.f19) [1, 1, 1, 1, 1, 1, 0, 1, 0, 0, 1, 1])
noncomputable def c19_50 : Code := .region 11 o19_50 false
noncomputable def c19_41 : Code := .seq c19_42 c19_50
noncomputable def c19_35 : Code := .seq c19_36 c19_41
noncomputable def c19_34 : Code := .loop c19_35
noncomputable def c19_33 : Code := .block 0 c19_34
noncomputable def c19_31 : Code := .seq c19_32 c19_33
noncomputable def o19_52 : Array Oper := opsC (atC (bodyC Try.f19) [1, 1, 1, 1, 1, 1, 1, 0])
noncomputable def c19_52 : Code := .region 14 o19_52 false
noncomputable def c19_53 : Code := .ret
noncomputable def c19_51 : Code := .seq c19_52 c19_53
noncomputable def c19_30 : Code := .seq c19_31 c19_51
noncomputable def c19_22 : Code := .seq c19_23 c19_30
noncomputable def c19_20 : Code := .seq c19_21 c19_22
noncomputable def c19_12 : Code := .seq c19_13 c19_20
noncomputable def c19_10 : Code := .seq c19_11 c19_12
noncomputable def c19_2 : Code := .seq c19_3 c19_10
noncomputable def c19_0 : Code := .seq c19_1 c19_2
noncomputable def F19 : Func := { Try.f19 with body := some c19_0 }
theorem F19_eq : Try.f19 = F19 := rfl
theorem at19 : Try.prog.funcs[19]? = some F19 := by rw [← F19_eq]; exact Try.func19
noncomputable def o20_1 : Array Oper := opsC (atC (bodyC Try.f20) [0])
noncomputable def c20_1 : Code := .region 0 o20_1 false
noncomputable def o20_3 : Array Oper := opsC (atC (bodyC Try.f20) [1, 0])
noncomputable def c20_3 : Code := .region 1 o20_3 false
noncomputable def o20_6 : Array Oper := opsC (atC (bodyC Try.f20) [1, 1, 0, 0])
noncomputable def c20_6 : Code := .region 2 o20_6 false
noncomputable def o20_9 : Array Oper := opsC (atC (bodyC Try.f20) [1, 1, 0, 1, 0, 0])
noncomputable def c20_9 : Code := .region 3 o20_9 false
noncomputable def c20_10 : Code := .ret
noncomputable def c20_8 : Code := .seq c20_9 c20_10
noncomputable def c20_11 : Code := .skip
noncomputable def c20_7 : Code := .cond (opdC (atC (bodyC Try.f20) [1, 1, 0, 1])) c20_8 c20_11
noncomputable def c20_5 : Code := .seq c20_6 c20_7
noncomputable def o20_14 : Array Oper := opsC (atC (bodyC Try.f20) [1, 1, 1, 0, 0])
noncomputable def c20_14 : Code := .region 4 o20_14 false
noncomputable def o20_16 : Array Oper := opsC (atC (bodyC Try.f20) [1, 1, 1, 0, 1, 0])
noncomputable def c20_16 : Code := .region 5 o20_16 false
noncomputable def o20_19 : Array Oper := opsC (atC (bodyC Try.f20) [1, 1, 1, 0, 1, 1, 0, 0])
noncomputable def c20_19 : Code := .region 6 o20_19 false
noncomputable def c20_20 : Code := .ret
noncomputable def c20_18 : Code := .seq c20_19 c20_20
noncomputable def c20_21 : Code := .skip
noncomputable def c20_17 : Code := .cond (opdC (atC (bodyC Try.f20) [1, 1, 1, 0, 1, 1])) c20_18 c20_21
noncomputable def c20_15 : Code := .seq c20_16 c20_17
noncomputable def c20_13 : Code := .seq c20_14 c20_15
noncomputable def o20_23 : Array Oper := opsC (atC (bodyC Try.f20) [1, 1, 1, 1, 0])
noncomputable def c20_23 : Code := .region 7 o20_23 false
noncomputable def o20_26 : Array Oper := opsC (atC (bodyC Try.f20) [1, 1, 1, 1, 1, 0, 0])
noncomputable def c20_26 : Code := .region 8 o20_26 false
noncomputable def o20_29 : Array Oper := opsC (atC (bodyC Try.f20) [1, 1, 1, 1, 1, 0, 1, 0, 0])
noncomputable def c20_29 : Code := .region 9 o20_29 false
noncomputable def c20_30 : Code := .ret
noncomputable def c20_28 : Code := .seq c20_29 c20_30
noncomputable def c20_31 : Code := .skip
noncomputable def c20_27 : Code := .cond (opdC (atC (bodyC Try.f20) [1, 1, 1, 1, 1, 0, 1])) c20_28 c20_31
noncomputable def c20_25 : Code := .seq c20_26 c20_27
noncomputable def o20_33 : Array Oper := opsC (atC (bodyC Try.f20) [1, 1, 1, 1, 1, 1, 0])
noncomputable def c20_33 : Code := .region 10 o20_33 false
noncomputable def c20_34 : Code := .ret
noncomputable def c20_32 : Code := .seq c20_33 c20_34
noncomputable def c20_24 : Code := .seq c20_25 c20_32
noncomputable def c20_22 : Code := .seq c20_23 c20_24
noncomputable def c20_12 : Code := .seq c20_13 c20_22
noncomputable def c20_4 : Code := .seq c20_5 c20_12
noncomputable def c20_2 : Code := .seq c20_3 c20_4
noncomputable def c20_0 : Code := .seq c20_1 c20_2
noncomputable def F20 : Func := { Try.f20 with body := some c20_0 }
theorem F20_eq : Try.f20 = F20 := rfl
theorem at20 : Try.prog.funcs[20]? = some F20 := by rw [← F20_eq]; exact Try.func20
noncomputable def o21_1 : Array Oper := opsC (atC (bodyC Try.f21) [0])
noncomputable def c21_1 : Code := .region 0 o21_1 false
noncomputable def o21_3 : Array Oper := opsC (atC (bodyC Try.f21) [1, 0])
noncomputable def c21_3 : Code := .region 1 o21_3 false
noncomputable def o21_6 : Array Oper := opsC (atC (bodyC Try.f21) [1, 1, 0, 0])
noncomputable def c21_6 : Code := .region 2 o21_6 false
noncomputable def o21_9 : Array Oper := opsC (atC (bodyC Try.f21) [1, 1, 0, 1, 0, 0])
noncomputable def c21_9 : Code := .region 3 o21_9 false
noncomputable def c21_10 : Code := .ret
noncomputable def c21_8 : Code := .seq c21_9 c21_10
noncomputable def c21_11 : Code := .skip
noncomputable def c21_7 : Code := .cond (opdC (atC (bodyC Try.f21) [1, 1, 0, 1])) c21_8 c21_11
noncomputable def c21_5 : Code := .seq c21_6 c21_7
noncomputable def o21_14 : Array Oper := opsC (atC (bodyC Try.f21) [1, 1, 1, 0, 0])
noncomputable def c21_14 : Code := .region 4 o21_14 false
noncomputable def o21_17 : Array Oper := opsC (atC (bodyC Try.f21) [1, 1, 1, 0, 1, 0, 0])
noncomputable def c21_17 : Code := .region 5 o21_17 false
noncomputable def c21_18 : Code := .ret
noncomputable def c21_16 : Code := .seq c21_17 c21_18
noncomputable def c21_19 : Code := .skip
noncomputable def c21_15 : Code := .cond (opdC (atC (bodyC Try.f21) [1, 1, 1, 0, 1])) c21_16 c21_19
noncomputable def c21_13 : Code := .seq c21_14 c21_15
noncomputable def o21_22 : Array Oper := opsC (atC (bodyC Try.f21) [1, 1, 1, 1, 0, 0])
noncomputable def c21_22 : Code := .region 6 o21_22 false
noncomputable def o21_27 : Array Oper := opsC (atC (bodyC Try.f21) [1, 1, 1, 1, 0, 1, 0, 0, 0, 0])
noncomputable def c21_27 : Code := .region 7 o21_27 false
noncomputable def c21_29 : Code := .skip
noncomputable def c21_30 : Code := .exit 0
noncomputable def c21_28 : Code := .cond (opdC (atC (bodyC Try.f21) [1, 1, 1, 1, 0, 1, 0, 0, 0, 1])) c21_29 c21_30
noncomputable def c21_26 : Code := .seq c21_27 c21_28
noncomputable def o21_34 : Array Oper := opsC (atC (bodyC Try.f21) [1, 1, 1, 1, 0, 1, 0, 0, 1, 0, 0, 0])
noncomputable def c21_34 : Code := .region 9 o21_34 false
noncomputable def o21_37 : Array Oper := opsC (atC (bodyC Try.f21) [1, 1, 1, 1, 0, 1, 0, 0, 1, 0, 0, 1, 0, 0])
noncomputable def c21_37 : Code := .region 10 o21_37 false
noncomputable def c21_38 : Code := .ret
noncomputable def c21_36 : Code := .seq c21_37 c21_38
noncomputable def c21_39 : Code := .skip
noncomputable def c21_35 : Code := .cond (opdC (atC (bodyC Try.f21) [1, 1, 1, 1, 0, 1, 0, 0, 1, 0, 0, 1])) c21_36 c21_39
noncomputable def c21_33 : Code := .seq c21_34 c21_35
noncomputable def c21_32 : Code := .block 1 c21_33
noncomputable def o21_40 : Array Oper := opsC (atC (bodyC Try.f21) [1, 1, 1, 1, 0, 1, 0, 0, 1, 1])
noncomputable def c21_40 : Code := .region 8 o21_40 false
noncomputable def c21_31 : Code := .seq c21_32 c21_40
noncomputable def c21_25 : Code := .seq c21_26 c21_31
noncomputable def c21_24 : Code := .loop c21_25
noncomputable def c21_23 : Code := .block 0 c21_24
noncomputable def c21_21 : Code := .seq c21_22 c21_23
noncomputable def o21_42 : Array Oper := opsC (atC (bodyC Try.f21) [1, 1, 1, 1, 1, 0])
noncomputable def c21_42 : Code := .region 11 o21_42 false
noncomputable def c21_43 : Code := .ret
noncomputable def c21_41 : Code := .seq c21_42 c21_43
noncomputable def c21_20 : Code := .seq c21_21 c21_41
noncomputable def c21_12 : Code := .seq c21_13 c21_20
noncomputable def c21_4 : Code := .seq c21_5 c21_12
noncomputable def c21_2 : Code := .seq c21_3 c21_4
noncomputable def c21_0 : Code := .seq c21_1 c21_2
noncomputable def F21 : Func := { Try.f21 with body := some c21_0 }
theorem F21_eq : Try.f21 = F21 := rfl
theorem at21 : Try.prog.funcs[21]? = some F21 := by rw [← F21_eq]; exact Try.func21
noncomputable def o22_1 : Array Oper := opsC (atC (bodyC Try.f22) [0])
noncomputable def c22_1 : Code := .region 0 o22_1 false
noncomputable def o22_6 : Array Oper := opsC (atC (bodyC Try.f22) [1, 0, 0, 0, 0])
noncomputable def c22_6 : Code := .region 1 o22_6 false
noncomputable def c22_8 : Code := .skip
noncomputable def c22_9 : Code := .exit 0
noncomputable def c22_7 : Code := .cond (opdC (atC (bodyC Try.f22) [1, 0, 0, 0, 1])) c22_8 c22_9
noncomputable def c22_5 : Code := .seq c22_6 c22_7
noncomputable def o22_12 : Array Oper := opsC (atC (bodyC Try.f22) [1, 0, 0, 1, 0, 0])
noncomputable def c22_12 : Code := .region 3 o22_12 false
noncomputable def c22_11 : Code := .block 1 c22_12
noncomputable def o22_13 : Array Oper := opsC (atC (bodyC Try.f22) [1, 0, 0, 1, 1])
noncomputable def c22_13 : Code := .region 2 o22_13 false
noncomputable def c22_10 : Code := .seq c22_11 c22_13
noncomputable def c22_4 : Code := .seq c22_5 c22_10
noncomputable def c22_3 : Code := .loop c22_4
noncomputable def c22_2 : Code := .block 0 c22_3
noncomputable def c22_0 : Code := .seq c22_1 c22_2
noncomputable def F22 : Func := { Try.f22 with body := some c22_0 }
theorem F22_eq : Try.f22 = F22 := rfl
theorem at22 : Try.prog.funcs[22]? = some F22 := by rw [← F22_eq]; exact Try.func22
noncomputable def o23_1 : Array Oper := opsC (atC (bodyC Try.f23) [0])
noncomputable def c23_1 : Code := .region 0 o23_1 false
noncomputable def o23_3 : Array Oper := opsC (atC (bodyC Try.f23) [1, 0])
noncomputable def c23_3 : Code := .region 1 o23_3 false
noncomputable def o23_5 : Array Oper := opsC (atC (bodyC Try.f23) [1, 1, 0])
noncomputable def c23_5 : Code := .region 2 o23_5 false
noncomputable def c23_6 : Code := .ret
noncomputable def c23_4 : Code := .seq c23_5 c23_6
noncomputable def c23_2 : Code := .seq c23_3 c23_4
noncomputable def c23_0 : Code := .seq c23_1 c23_2
noncomputable def F23 : Func := { Try.f23 with body := some c23_0 }
theorem F23_eq : Try.f23 = F23 := rfl
theorem at23 : Try.prog.funcs[23]? = some F23 := by rw [← F23_eq]; exact Try.func23
noncomputable def o24_1 : Array Oper := opsC (atC (bodyC Try.f24) [0])
noncomputable def c24_1 : Code := .region 0 o24_1 false
noncomputable def o24_3 : Array Oper := opsC (atC (bodyC Try.f24) [1, 0])
noncomputable def c24_3 : Code := .region 1 o24_3 false
noncomputable def o24_5 : Array Oper := opsC (atC (bodyC Try.f24) [1, 1, 0])
noncomputable def c24_5 : Code := .region 2 o24_5 false
noncomputable def o24_7 : Array Oper := opsC (atC (bodyC Try.f24) [1, 1, 1, 0])
noncomputable def c24_7 : Code := .region 3 o24_7 false
noncomputable def o24_11 : Array Oper := opsC (atC (bodyC Try.f24) [1, 1, 1, 1, 0, 0, 0])
noncomputable def c24_11 : Code := .region 4 o24_11 false
noncomputable def o24_14 : Array Oper := opsC (atC (bodyC Try.f24) [1, 1, 1, 1, 0, 0, 1, 0, 0])
noncomputable def c24_14 : Code := .region 5 o24_14 false
noncomputable def c24_15 : Code := .ret
noncomputable def c24_13 : Code := .seq c24_14 c24_15
noncomputable def o24_17 : Array Oper := opsC (atC (bodyC Try.f24) [1, 1, 1, 1, 0, 0, 1, 1, 0])
noncomputable def c24_17 : Code := .region 6 o24_17 false
noncomputable def o24_20 : Array Oper := opsC (atC (bodyC Try.f24) [1, 1, 1, 1, 0, 0, 1, 1, 1, 0, 0])
noncomputable def c24_20 : Code := .region 7 o24_20 false
noncomputable def c24_21 : Code := .ret
noncomputable def c24_19 : Code := .seq c24_20 c24_21
noncomputable def o24_23 : Array Oper := opsC (atC (bodyC Try.f24) [1, 1, 1, 1, 0, 0, 1, 1, 1, 1, 0])
noncomputable def c24_23 : Code := .region 8 o24_23 false
noncomputable def o24_26 : Array Oper := opsC (atC (bodyC Try.f24) [1, 1, 1, 1, 0, 0, 1, 1, 1, 1, 1, 0, 0])
noncomputable def c24_26 : Code := .region 9 o24_26 false
noncomputable def c24_27 : Code := .ret
noncomputable def c24_25 : Code := .seq c24_26 c24_27
noncomputable def c24_28 : Code := .skip
noncomputable def c24_24 : Code := .cond (opdC (atC (bodyC Try.f24) [1, 1, 1, 1, 0, 0, 1, 1, 1, 1, 1])) c24_25 c24_28
noncomputable def c24_22 : Code := .seq c24_23 c24_24
noncomputable def c24_18 : Code := .cond (opdC (atC (bodyC Try.f24) [1, 1, 1, 1, 0, 0, 1, 1, 1])) c24_19 c24_22
noncomputable def c24_16 : Code := .seq c24_17 c24_18
noncomputable def c24_12 : Code := .cond (opdC (atC (bodyC Try.f24) [1, 1, 1, 1, 0, 0, 1])) c24_13 c24_16
noncomputable def c24_10 : Code := .seq c24_11 c24_12
noncomputable def c24_9 : Code := .block 0 c24_10
noncomputable def o24_30 : Array Oper := opsC (atC (bodyC Try.f24) [1, 1, 1, 1, 1, 0])
noncomputable def c24_30 : Code := .region 10 o24_30 false
noncomputable def c24_31 : Code := .ret
noncomputable def c24_29 : Code := .seq c24_30 c24_31
noncomputable def c24_8 : Code := .seq c24_9 c24_29
noncomputable def c24_6 : Code := .seq c24_7 c24_8
noncomputable def c24_4 : Code := .seq c24_5 c24_6
noncomputable def c24_2 : Code := .seq c24_3 c24_4
noncomputable def c24_0 : Code := .seq c24_1 c24_2
noncomputable def F24 : Func := { Try.f24 with body := some c24_0 }
theorem F24_eq : Try.f24 = F24 := rfl
theorem at24 : Try.prog.funcs[24]? = some F24 := by rw [← F24_eq]; exact Try.func24
noncomputable def o25_1 : Array Oper := opsC (atC (bodyC Try.f25) [0])
noncomputable def c25_1 : Code := .region 0 o25_1 false
noncomputable def o25_4 : Array Oper := opsC (atC (bodyC Try.f25) [1, 0, 0])
noncomputable def c25_4 : Code := .region 1 o25_4 false
noncomputable def o25_7 : Array Oper := opsC (atC (bodyC Try.f25) [1, 0, 1, 0, 0])
noncomputable def c25_7 : Code := .region 2 o25_7 false
noncomputable def c25_8 : Code := .ret
noncomputable def c25_6 : Code := .seq c25_7 c25_8
noncomputable def c25_9 : Code := .skip
noncomputable def c25_5 : Code := .cond (opdC (atC (bodyC Try.f25) [1, 0, 1])) c25_6 c25_9
noncomputable def c25_3 : Code := .seq c25_4 c25_5
noncomputable def o25_11 : Array Oper := opsC (atC (bodyC Try.f25) [1, 1, 0])
noncomputable def c25_11 : Code := .region 3 o25_11 false
noncomputable def o25_13 : Array Oper := opsC (atC (bodyC Try.f25) [1, 1, 1, 0])
noncomputable def c25_13 : Code := .region 4 o25_13 false
noncomputable def o25_15 : Array Oper := opsC (atC (bodyC Try.f25) [1, 1, 1, 1, 0])
noncomputable def c25_15 : Code := .region 5 o25_15 false
noncomputable def o25_18 : Array Oper := opsC (atC (bodyC Try.f25) [1, 1, 1, 1, 1, 0, 0])
noncomputable def c25_18 : Code := .region 6 o25_18 false
noncomputable def o25_22 : Array Oper := opsC (atC (bodyC Try.f25) [1, 1, 1, 1, 1, 0, 1, 0, 0, 0])
noncomputable def c25_22 : Code := .region 7 o25_22 false
noncomputable def c25_25 : Code := .skip
noncomputable def c25_26 : Code := .exit 0
noncomputable def c25_24 : Code := .cond (opdC (atC (bodyC Try.f25) [1, 1, 1, 1, 1, 0, 1, 0, 0, 1, 0])) c25_25 c25_26
noncomputable def o25_30 : Array Oper := opsC (atC (bodyC Try.f25) [1, 1, 1, 1, 1, 0, 1, 0, 0, 1, 1, 0, 0, 0])
noncomputable def c25_30 : Code := .region 8 o25_30 false
noncomputable def o25_31 : Array Oper := opsC (atC (bodyC Try.f25) [1, 1, 1, 1, 1, 0, 1, 0, 0, 1, 1, 0, 0, 1])
noncomputable def c25_31 : Code := .region 9 o25_31 false
noncomputable def c25_29 : Code := .seq c25_30 c25_31
noncomputable def c25_28 : Code := .block 1 c25_29
noncomputable def o25_32 : Array Oper := opsC (atC (bodyC Try.f25) [1, 1, 1, 1, 1, 0, 1, 0, 0, 1, 1, 1])
noncomputable def c25_32 : Code := .region 10 o25_32 false
noncomputable def c25_27 : Code := .seq c25_28 c25_32
noncomputable def c25_23 : Code := .seq c25_24 c25_27
noncomputable def c25_21 : Code := .seq c25_22 c25_23
noncomputable def c25_20 : Code := .loop c25_21
noncomputable def c25_19 : Code := .block 0 c25_20
noncomputable def c25_17 : Code := .seq c25_18 c25_19
noncomputable def o25_34 : Array Oper := opsC (atC (bodyC Try.f25) [1, 1, 1, 1, 1, 1, 0])
noncomputable def c25_34 : Code := .region 11 o25_34 false
noncomputable def c25_35 : Code := .ret
noncomputable def c25_33 : Code := .seq c25_34 c25_35
noncomputable def c25_16 : Code := .seq c25_17 c25_33
noncomputable def c25_14 : Code := .seq c25_15 c25_16
noncomputable def c25_12 : Code := .seq c25_13 c25_14
noncomputable def c25_10 : Code := .seq c25_11 c25_12
noncomputable def c25_2 : Code := .seq c25_3 c25_10
noncomputable def c25_0 : Code := .seq c25_1 c25_2
noncomputable def F25 : Func := { Try.f25 with body := some c25_0 }
theorem F25_eq : Try.f25 = F25 := rfl
theorem at25 : Try.prog.funcs[25]? = some F25 := by rw [← F25_eq]; exact Try.func25
noncomputable def o26_1 : Array Oper := opsC (atC (bodyC Try.f26) [0])
noncomputable def c26_1 : Code := .region 0 o26_1 false
noncomputable def o26_3 : Array Oper := opsC (atC (bodyC Try.f26) [1, 0])
noncomputable def c26_3 : Code := .region 1 o26_3 false
noncomputable def o26_6 : Array Oper := opsC (atC (bodyC Try.f26) [1, 1, 0, 0])
noncomputable def c26_6 : Code := .region 2 o26_6 false
noncomputable def o26_11 : Array Oper := opsC (atC (bodyC Try.f26) [1, 1, 0, 1, 0, 0, 0, 0])
noncomputable def c26_11 : Code := .region 3 o26_11 false
noncomputable def c26_13 : Code := .skip
noncomputable def c26_14 : Code := .exit 0
noncomputable def c26_12 : Code := .cond (opdC (atC (bodyC Try.f26) [1, 1, 0, 1, 0, 0, 0, 1])) c26_13 c26_14
noncomputable def c26_10 : Code := .seq c26_11 c26_12
noncomputable def o26_17 : Array Oper := opsC (atC (bodyC Try.f26) [1, 1, 0, 1, 0, 0, 1, 0, 0])
noncomputable def c26_17 : Code := .region 5 o26_17 false
noncomputable def c26_16 : Code := .block 1 c26_17
noncomputable def o26_18 : Array Oper := opsC (atC (bodyC Try.f26) [1, 1, 0, 1, 0, 0, 1, 1])
noncomputable def c26_18 : Code := .region 4 o26_18 false
noncomputable def c26_15 : Code := .seq c26_16 c26_18
noncomputable def c26_9 : Code := .seq c26_10 c26_15
noncomputable def c26_8 : Code := .loop c26_9
noncomputable def c26_7 : Code := .block 0 c26_8
noncomputable def c26_5 : Code := .seq c26_6 c26_7
noncomputable def o26_20 : Array Oper := opsC (atC (bodyC Try.f26) [1, 1, 1, 0])
noncomputable def c26_20 : Code := .region 6 o26_20 false
noncomputable def c26_21 : Code := .ret
noncomputable def c26_19 : Code := .seq c26_20 c26_21
noncomputable def c26_4 : Code := .seq c26_5 c26_19
noncomputable def c26_2 : Code := .seq c26_3 c26_4
noncomputable def c26_0 : Code := .seq c26_1 c26_2
noncomputable def F26 : Func := { Try.f26 with body := some c26_0 }
theorem F26_eq : Try.f26 = F26 := rfl
theorem at26 : Try.prog.funcs[26]? = some F26 := by rw [← F26_eq]; exact Try.func26
noncomputable def o27_1 : Array Oper := opsC (atC (bodyC Try.f27) [0])
noncomputable def c27_1 : Code := .region 0 o27_1 false
noncomputable def o27_4 : Array Oper := opsC (atC (bodyC Try.f27) [1, 0, 0])
noncomputable def c27_4 : Code := .region 1 o27_4 false
noncomputable def o27_7 : Array Oper := opsC (atC (bodyC Try.f27) [1, 0, 1, 0, 0])
noncomputable def c27_7 : Code := .region 2 o27_7 false
noncomputable def c27_8 : Code := .ret
noncomputable def c27_6 : Code := .seq c27_7 c27_8
noncomputable def c27_9 : Code := .skip
noncomputable def c27_5 : Code := .cond (opdC (atC (bodyC Try.f27) [1, 0, 1])) c27_6 c27_9
noncomputable def c27_3 : Code := .seq c27_4 c27_5
noncomputable def o27_11 : Array Oper := opsC (atC (bodyC Try.f27) [1, 1, 0])
noncomputable def c27_11 : Code := .region 3 o27_11 false
noncomputable def o27_13 : Array Oper := opsC (atC (bodyC Try.f27) [1, 1, 1, 0])
noncomputable def c27_13 : Code := .region 4 o27_13 false
noncomputable def o27_15 : Array Oper := opsC (atC (bodyC Try.f27) [1, 1, 1, 1, 0])
noncomputable def c27_15 : Code := .region 5 o27_15 false
noncomputable def o27_18 : Array Oper := opsC (atC (bodyC Try.f27) [1, 1, 1, 1, 1, 0, 0])
noncomputable def c27_18 : Code := .region 6 o27_18 false
noncomputable def o27_23 : Array Oper := opsC (atC (bodyC Try.f27) [1, 1, 1, 1, 1, 0, 1, 0, 0, 0, 0])
noncomputable def c27_23 : Code := .region 7 o27_23 false
noncomputable def c27_25 : Code := .skip
noncomputable def c27_26 : Code := .exit 0
noncomputable def c27_24 : Code := .cond (opdC (atC (bodyC Try.f27) [1, 1, 1, 1, 1, 0, 1, 0, 0, 0, 1])) c27_25 c27_26
noncomputable def c27_22 : Code := .seq c27_23 c27_24
noncomputable def o27_30 : Array Oper := opsC (atC (bodyC Try.f27) [1, 1, 1, 1, 1, 0, 1, 0, 0, 1, 0, 0, 0])
noncomputable def c27_30 : Code := .region 9 o27_30 false
noncomputable def o27_32 : Array Oper := opsC (atC (bodyC Try.f27) [1, 1, 1, 1, 1, 0, 1, 0, 0, 1, 0, 0, 1, 0])
noncomputable def c27_32 : Code := .region 10 o27_32 false
noncomputable def o27_37 : Array Oper := opsC (atC (bodyC Try.f27) [1, 1, 1, 1, 1, 0, 1, 0, 0, 1, 0, 0, 1, 1, 0, 0, 0, 0])
noncomputable def c27_37 : Code := .region 11 o27_37 false
noncomputable def c27_39 : Code := .skip
noncomputable def c27_40 : Code := .exit 2
noncomputable def c27_38 : Code := .cond (opdC (atC (bodyC Try.f27) [1, 1, 1, 1, 1, 0, 1, 0, 0, 1, 0, 0, 1, 1, 0, 0, 0, 1])) c27_39 c27_40
noncomputable def c27_36 : Code := .seq c27_37 c27_38
noncomputable def o27_43 : Array Oper := opsC (atC (bodyC Try.f27) [1, 1, 1, 1, 1, 0, 1, 0, 0, 1, 0, 0, 1, 1, 0, 0, 1, 0, 0])
noncomputable def c27_43 : Code := .region 13 o27_43 true
noncomputable def c27_42 : Code := .block 3 c27_43
noncomputable def o27_44 : Array Oper := opsC (atC (bodyC Try.f27) [1, 1, 1, 1, 1, 0, 1, 0, 0, 1, 0, 0, 1, 1, 0, 0, 1, 1])
noncomputable def c27_44 : Code := .region 12 o27_44 false
noncomputable def c27_41 : Code := .seq c27_42 c27_44
noncomputable def c27_35 : Code := .seq c27_36 c27_41
noncomputable def c27_34 : Code := .loop c27_35
noncomputable def c27_33 : Code := .block 2 c27_34
noncomputable def c27_31 : Code := .seq c27_32 c27_33
noncomputable def c27_29 : Code := .seq c27_30 c27_31
noncomputable def c27_28 : Code := .block 1 c27_29
noncomputable def o27_45 : Array Oper := opsC (atC (bodyC Try.f27) [1, 1, 1, 1, 1, 0, 1, 0, 0, 1, 1])
noncomputable def c27_45 : Code := .region 8 o27_45 false
noncomputable def c27_27 : Code := .seq c27_28 c27_45
noncomputable def c27_21 : Code := .seq c27_22 c27_27
noncomputable def c27_20 : Code := .loop c27_21
noncomputable def c27_19 : Code := .block 0 c27_20
noncomputable def c27_17 : Code := .seq c27_18 c27_19
noncomputable def o27_47 : Array Oper := opsC (atC (bodyC Try.f27) [1, 1, 1, 1, 1, 1, 0])
noncomputable def c27_47 : Code := .region 14 o27_47 false
noncomputable def c27_48 : Code := .ret
noncomputable def c27_46 : Code := .seq c27_47 c27_48
noncomputable def c27_16 : Code := .seq c27_17 c27_46
noncomputable def c27_14 : Code := .seq c27_15 c27_16
noncomputable def c27_12 : Code := .seq c27_13 c27_14
noncomputable def c27_10 : Code := .seq c27_11 c27_12
noncomputable def c27_2 : Code := .seq c27_3 c27_10
noncomputable def c27_0 : Code := .seq c27_1 c27_2
noncomputable def F27 : Func := { Try.f27 with body := some c27_0 }
theorem F27_eq : Try.f27 = F27 := rfl
theorem at27 : Try.prog.funcs[27]? = some F27 := by rw [← F27_eq]; exact Try.func27
noncomputable def o28_1 : Array Oper := opsC (atC (bodyC Try.f28) [0])
noncomputable def c28_1 : Code := .region 0 o28_1 false
noncomputable def o28_3 : Array Oper := opsC (atC (bodyC Try.f28) [1, 0])
noncomputable def c28_3 : Code := .region 1 o28_3 false
noncomputable def o28_6 : Array Oper := opsC (atC (bodyC Try.f28) [1, 1, 0, 0])
noncomputable def c28_6 : Code := .region 2 o28_6 false
noncomputable def o28_9 : Array Oper := opsC (atC (bodyC Try.f28) [1, 1, 0, 1, 0, 0])
noncomputable def c28_9 : Code := .region 3 o28_9 false
noncomputable def c28_10 : Code := .ret
noncomputable def c28_8 : Code := .seq c28_9 c28_10
noncomputable def c28_11 : Code := .skip
noncomputable def c28_7 : Code := .cond (opdC (atC (bodyC Try.f28) [1, 1, 0, 1])) c28_8 c28_11
noncomputable def c28_5 : Code := .seq c28_6 c28_7
noncomputable def o28_13 : Array Oper := opsC (atC (bodyC Try.f28) [1, 1, 1, 0])
noncomputable def c28_13 : Code := .region 4 o28_13 false
noncomputable def o28_15 : Array Oper := opsC (atC (bodyC Try.f28) [1, 1, 1, 1, 0])
noncomputable def c28_15 : Code := .region 5 o28_15 false
noncomputable def o28_17 : Array Oper := opsC (atC (bodyC Try.f28) [1, 1, 1, 1, 1, 0])
noncomputable def c28_17 : Code := .region 6 o28_17 false
noncomputable def c28_18 : Code := .ret
noncomputable def c28_16 : Code := .seq c28_17 c28_18
noncomputable def c28_14 : Code := .seq c28_15 c28_16
noncomputable def c28_12 : Code := .seq c28_13 c28_14
noncomputable def c28_4 : Code := .seq c28_5 c28_12
noncomputable def c28_2 : Code := .seq c28_3 c28_4
noncomputable def c28_0 : Code := .seq c28_1 c28_2
noncomputable def F28 : Func := { Try.f28 with body := some c28_0 }
theorem F28_eq : Try.f28 = F28 := rfl
theorem at28 : Try.prog.funcs[28]? = some F28 := by rw [← F28_eq]; exact Try.func28
noncomputable def o29_1 : Array Oper := opsC (atC (bodyC Try.f29) [0])
noncomputable def c29_1 : Code := .region 0 o29_1 false
noncomputable def o29_3 : Array Oper := opsC (atC (bodyC Try.f29) [1, 0])
noncomputable def c29_3 : Code := .region 1 o29_3 false
noncomputable def o29_6 : Array Oper := opsC (atC (bodyC Try.f29) [1, 1, 0, 0])
noncomputable def c29_6 : Code := .region 2 o29_6 false
noncomputable def o29_9 : Array Oper := opsC (atC (bodyC Try.f29) [1, 1, 0, 1, 0, 0])
noncomputable def c29_9 : Code := .region 3 o29_9 false
noncomputable def c29_10 : Code := .ret
noncomputable def c29_8 : Code := .seq c29_9 c29_10
noncomputable def c29_11 : Code := .skip
noncomputable def c29_7 : Code := .cond (opdC (atC (bodyC Try.f29) [1, 1, 0, 1])) c29_8 c29_11
noncomputable def c29_5 : Code := .seq c29_6 c29_7
noncomputable def o29_13 : Array Oper := opsC (atC (bodyC Try.f29) [1, 1, 1, 0])
noncomputable def c29_13 : Code := .region 4 o29_13 false
noncomputable def o29_16 : Array Oper := opsC (atC (bodyC Try.f29) [1, 1, 1, 1, 0, 0])
noncomputable def c29_16 : Code := .region 5 o29_16 false
noncomputable def o29_21 : Array Oper := opsC (atC (bodyC Try.f29) [1, 1, 1, 1, 0, 1, 0, 0, 0, 0])
noncomputable def c29_21 : Code := .region 6 o29_21 false
noncomputable def c29_23 : Code := .skip
noncomputable def c29_24 : Code := .exit 0
noncomputable def c29_22 : Code := .cond (opdC (atC (bodyC Try.f29) [1, 1, 1, 1, 0, 1, 0, 0, 0, 1])) c29_23 c29_24
noncomputable def c29_20 : Code := .seq c29_21 c29_22
noncomputable def o29_28 : Array Oper := opsC (atC (bodyC Try.f29) [1, 1, 1, 1, 0, 1, 0, 0, 1, 0, 0, 0])
noncomputable def c29_28 : Code := .region 8 o29_28 true
noncomputable def o29_31 : Array Oper := opsC (atC (bodyC Try.f29) [1, 1, 1, 1, 0, 1, 0, 0, 1, 0, 0, 1, 0, 0])
noncomputable def c29_31 : Code := .region 9 o29_31 false
noncomputable def c29_32 : Code := .ret
noncomputable def c29_30 : Code := .seq c29_31 c29_32
noncomputable def c29_33 : Code := .skip
noncomputable def c29_29 : Code := .cond (opdC (atC (bodyC Try.f29) [1, 1, 1, 1, 0, 1, 0, 0, 1, 0, 0, 1])) c29_30 c29_33
noncomputable def c29_27 : Code := .seq c29_28 c29_29
noncomputable def c29_26 : Code := .block 1 c29_27
noncomputable def o29_34 : Array Oper := opsC (atC (bodyC Try.f29) [1, 1, 1, 1, 0, 1, 0, 0, 1, 1])
noncomputable def c29_34 : Code := .region 7 o29_34 false
noncomputable def c29_25 : Code := .seq c29_26 c29_34
noncomputable def c29_19 : Code := .seq c29_20 c29_25
noncomputable def c29_18 : Code := .loop c29_19
noncomputable def c29_17 : Code := .block 0 c29_18
noncomputable def c29_15 : Code := .seq c29_16 c29_17
noncomputable def o29_36 : Array Oper := opsC (atC (bodyC Try.f29) [1, 1, 1, 1, 1, 0])
noncomputable def c29_36 : Code := .region 10 o29_36 false
noncomputable def c29_37 : Code := .ret
noncomputable def c29_35 : Code := .seq c29_36 c29_37
noncomputable def c29_14 : Code := .seq c29_15 c29_35
noncomputable def c29_12 : Code := .seq c29_13 c29_14
noncomputable def c29_4 : Code := .seq c29_5 c29_12
noncomputable def c29_2 : Code := .seq c29_3 c29_4
noncomputable def c29_0 : Code := .seq c29_1 c29_2
noncomputable def F29 : Func := { Try.f29 with body := some c29_0 }
theorem F29_eq : Try.f29 = F29 := rfl
theorem at29 : Try.prog.funcs[29]? = some F29 := by rw [← F29_eq]; exact Try.func29
noncomputable def o30_1 : Array Oper := opsC (atC (bodyC Try.f30) [0])
noncomputable def c30_1 : Code := .region 0 o30_1 false
noncomputable def o30_4 : Array Oper := opsC (atC (bodyC Try.f30) [1, 0, 0])
noncomputable def c30_4 : Code := .region 1 o30_4 false
noncomputable def o30_7 : Array Oper := opsC (atC (bodyC Try.f30) [1, 0, 1, 0, 0])
noncomputable def c30_7 : Code := .region 2 o30_7 false
noncomputable def c30_8 : Code := .ret
noncomputable def c30_6 : Code := .seq c30_7 c30_8
noncomputable def c30_9 : Code := .skip
noncomputable def c30_5 : Code := .cond (opdC (atC (bodyC Try.f30) [1, 0, 1])) c30_6 c30_9
noncomputable def c30_3 : Code := .seq c30_4 c30_5
noncomputable def o30_11 : Array Oper := opsC (atC (bodyC Try.f30) [1, 1, 0])
noncomputable def c30_11 : Code := .region 3 o30_11 false
noncomputable def c30_12 : Code := .ret
noncomputable def c30_10 : Code := .seq c30_11 c30_12
noncomputable def c30_2 : Code := .seq c30_3 c30_10
noncomputable def c30_0 : Code := .seq c30_1 c30_2
noncomputable def F30 : Func := { Try.f30 with body := some c30_0 }
theorem F30_eq : Try.f30 = F30 := rfl
theorem at30 : Try.prog.funcs[30]? = some F30 := by rw [← F30_eq]; exact Try.func30
noncomputable def o31_1 : Array Oper := opsC (atC (bodyC Try.f31) [0])
noncomputable def c31_1 : Code := .region 0 o31_1 false
noncomputable def o31_4 : Array Oper := opsC (atC (bodyC Try.f31) [1, 0, 0])
noncomputable def c31_4 : Code := .region 1 o31_4 false
noncomputable def o31_8 : Array Oper := opsC (atC (bodyC Try.f31) [1, 0, 1, 0, 0, 0])
noncomputable def c31_8 : Code := .region 2 o31_8 false
noncomputable def c31_11 : Code := .skip
noncomputable def c31_12 : Code := .exit 0
noncomputable def c31_10 : Code := .cond (opdC (atC (bodyC Try.f31) [1, 0, 1, 0, 0, 1, 0])) c31_11 c31_12
noncomputable def o31_16 : Array Oper := opsC (atC (bodyC Try.f31) [1, 0, 1, 0, 0, 1, 1, 0, 0, 0])
noncomputable def c31_16 : Code := .region 3 o31_16 false
noncomputable def o31_18 : Array Oper := opsC (atC (bodyC Try.f31) [1, 0, 1, 0, 0, 1, 1, 0, 0, 1, 0])
noncomputable def c31_18 : Code := .region 4 o31_18 false
noncomputable def o31_20 : Array Oper := opsC (atC (bodyC Try.f31) [1, 0, 1, 0, 0, 1, 1, 0, 0, 1, 1, 0])
noncomputable def c31_20 : Code := .region 5 o31_20 true
noncomputable def o31_23 : Array Oper := opsC (atC (bodyC Try.f31) [1, 0, 1, 0, 0, 1, 1, 0, 0, 1, 1, 1, 0, 0])
noncomputable def c31_23 : Code := .region 6 o31_23 false
noncomputable def c31_24 : Code := .ret
noncomputable def c31_22 : Code := .seq c31_23 c31_24
noncomputable def c31_25 : Code := .skip
noncomputable def c31_21 : Code := .cond (opdC (atC (bodyC Try.f31) [1, 0, 1, 0, 0, 1, 1, 0, 0, 1, 1, 1])) c31_22 c31_25
noncomputable def c31_19 : Code := .seq c31_20 c31_21
noncomputable def c31_17 : Code := .seq c31_18 c31_19
noncomputable def c31_15 : Code := .seq c31_16 c31_17
noncomputable def c31_14 : Code := .block 1 c31_15
noncomputable def o31_26 : Array Oper := opsC (atC (bodyC Try.f31) [1, 0, 1, 0, 0, 1, 1, 1])
noncomputable def c31_26 : Code := .region 7 o31_26 false
noncomputable def c31_13 : Code := .seq c31_14 c31_26
noncomputable def c31_9 : Code := .seq c31_10 c31_13
noncomputable def c31_7 : Code := .seq c31_8 c31_9
noncomputable def c31_6 : Code := .loop c31_7
noncomputable def c31_5 : Code := .block 0 c31_6
noncomputable def c31_3 : Code := .seq c31_4 c31_5
noncomputable def o31_28 : Array Oper := opsC (atC (bodyC Try.f31) [1, 1, 0])
noncomputable def c31_28 : Code := .region 8 o31_28 false
noncomputable def c31_29 : Code := .ret
noncomputable def c31_27 : Code := .seq c31_28 c31_29
noncomputable def c31_2 : Code := .seq c31_3 c31_27
noncomputable def c31_0 : Code := .seq c31_1 c31_2
noncomputable def F31 : Func := { Try.f31 with body := some c31_0 }
theorem F31_eq : Try.f31 = F31 := rfl
theorem at31 : Try.prog.funcs[31]? = some F31 := by rw [← F31_eq]; exact Try.func31
noncomputable def o32_1 : Array Oper := opsC (atC (bodyC Try.f32) [0])
noncomputable def c32_1 : Code := .region 0 o32_1 false
noncomputable def o32_3 : Array Oper := opsC (atC (bodyC Try.f32) [1, 0])
noncomputable def c32_3 : Code := .region 1 o32_3 false
noncomputable def o32_5 : Array Oper := opsC (atC (bodyC Try.f32) [1, 1, 0])
noncomputable def c32_5 : Code := .region 2 o32_5 false
noncomputable def o32_8 : Array Oper := opsC (atC (bodyC Try.f32) [1, 1, 1, 0, 0])
noncomputable def c32_8 : Code := .region 3 o32_8 false
noncomputable def o32_12 : Array Oper := opsC (atC (bodyC Try.f32) [1, 1, 1, 0, 1, 0, 0, 0])
noncomputable def c32_12 : Code := .region 4 o32_12 false
noncomputable def c32_15 : Code := .skip
noncomputable def c32_16 : Code := .exit 0
noncomputable def c32_14 : Code := .cond (opdC (atC (bodyC Try.f32) [1, 1, 1, 0, 1, 0, 0, 1, 0])) c32_15 c32_16
noncomputable def o32_20 : Array Oper := opsC (atC (bodyC Try.f32) [1, 1, 1, 0, 1, 0, 0, 1, 1, 0, 0, 0])
noncomputable def c32_20 : Code := .region 5 o32_20 false
noncomputable def o32_22 : Array Oper := opsC (atC (bodyC Try.f32) [1, 1, 1, 0, 1, 0, 0, 1, 1, 0, 0, 1, 0])
noncomputable def c32_22 : Code := .region 6 o32_22 false
noncomputable def o32_25 : Array Oper := opsC (atC (bodyC Try.f32) [1, 1, 1, 0, 1, 0, 0, 1, 1, 0, 0, 1, 1, 0, 0])
noncomputable def c32_25 : Code := .region 7 o32_25 false
noncomputable def o32_28 : Array Oper := opsC (atC (bodyC Try.f32) [1, 1, 1, 0, 1, 0, 0, 1, 1, 0, 0, 1, 1, 0, 1, 0, 0])
noncomputable def c32_28 : Code := .region 8 o32_28 false
noncomputable def o32_29 : Array Oper := opsC (atC (bodyC Try.f32) [1, 1, 1, 0, 1, 0, 0, 1, 1, 0, 0, 1, 1, 0, 1, 0, 1])
noncomputable def c32_29 : Code := .region 9 o32_29 false
noncomputable def c32_27 : Code := .seq c32_28 c32_29
noncomputable def o32_30 : Array Oper := opsC (atC (bodyC Try.f32) [1, 1, 1, 0, 1, 0, 0, 1, 1, 0, 0, 1, 1, 0, 1, 1])
noncomputable def c32_30 : Code := .region 10 o32_30 true
noncomputable def c32_26 : Code := .cond (opdC (atC (bodyC Try.f32) [1, 1, 1, 0, 1, 0, 0, 1, 1, 0, 0, 1, 1, 0, 1])) c32_27 c32_30
noncomputable def c32_24 : Code := .seq c32_25 c32_26
noncomputable def o32_33 : Array Oper := opsC (atC (bodyC Try.f32) [1, 1, 1, 0, 1, 0, 0, 1, 1, 0, 0, 1, 1, 1, 0, 0])
noncomputable def c32_33 : Code := .region 11 o32_33 false
noncomputable def o32_37 : Array Oper := opsC (atC (bodyC Try.f32) [1, 1, 1, 0, 1, 0, 0, 1, 1, 0, 0, 1, 1, 1, 0, 1, 0, 0, 0])
noncomputable def c32_37 : Code := .region 12 o32_37 false
noncomputable def c32_40 : Code := .skip
noncomputable def c32_41 : Code := .exit 2
noncomputable def c32_39 : Code := .cond (opdC (atC (bodyC Try.f32) [1, 1, 1, 0, 1, 0, 0, 1, 1, 0, 0, 1, 1, 1, 0, 1, 0, 0, 1, 0])) c32_40 c32_41
noncomputable def o32_45 : Array Oper := opsC (atC (bodyC Try.f32) [1, 1, 1, 0, 1, 0, 0, 1, 1, 0, 0, 1, 1, 1, 0, 1, 0, 0, 1, 1, 0, 0, 0])
noncomputable def c32_45 : Code := .region 13 o32_45 false
noncomputable def o32_46 : Array Oper := opsC (atC (bodyC Try.f32) [1, 1, 1, 0, 1, 0, 0, 1, 1, 0, 0, 1, 1, 1, 0, 1, 0, 0, 1, 1, 0, 0, 1])
noncomputable def c32_46 : Code := .region 14 o32_46 false
noncomputable def c32_44 : Code := .seq c32_45 c32_46
noncomputable def c32_43 : Code := .block 3 c32_44
noncomputable def o32_47 : Array Oper := opsC (atC (bodyC Try.f32) [1, 1, 1, 0, 1, 0, 0, 1, 1, 0, 0, 1, 1, 1, 0, 1, 0, 0, 1, 1, 1])
noncomputable def c32_47 : Code := .region 15 o32_47 false
noncomputable def c32_42 : Code := .seq c32_43 c32_47
noncomputable def c32_38 : Code := .seq c32_39 c32_42
noncomputable def c32_36 : Code := .seq c32_37 c32_38
noncomputable def c32_35 : Code := .loop c32_36
noncomputable def c32_34 : Code := .block 2 c32_35
noncomputable def c32_32 : Code := .seq c32_33 c32_34
noncomputable def o32_48 : Array Oper := opsC (atC (bodyC Try.f32) [1, 1, 1, 0, 1, 0, 0, 1, 1, 0, 0, 1, 1, 1, 1])
noncomputable def c32_48 : Code := .region 16 o32_48 true
noncomputable def c32_31 : Code := .seq c32_32 c32_48
noncomputable def c32_23 : Code := .seq c32_24 c32_31
noncomputable def c32_21 : Code := .seq c32_22 c32_23
noncomputable def c32_19 : Code := .seq c32_20 c32_21
noncomputable def c32_18 : Code := .block 1 c32_19
noncomputable def o32_49 : Array Oper := opsC (atC (bodyC Try.f32) [1, 1, 1, 0, 1, 0, 0, 1, 1, 1])
noncomputable def c32_49 : Code := .region 17 o32_49 false
noncomputable def c32_17 : Code := .seq c32_18 c32_49
noncomputable def c32_13 : Code := .seq c32_14 c32_17
noncomputable def c32_11 : Code := .seq c32_12 c32_13
noncomputable def c32_10 : Code := .loop c32_11
noncomputable def c32_9 : Code := .block 0 c32_10
noncomputable def c32_7 : Code := .seq c32_8 c32_9
noncomputable def o32_51 : Array Oper := opsC (atC (bodyC Try.f32) [1, 1, 1, 1, 0])
noncomputable def c32_51 : Code := .region 18 o32_51 false
noncomputable def c32_52 : Code := .ret
noncomputable def c32_50 : Code := .seq c32_51 c32_52
noncomputable def c32_6 : Code := .seq c32_7 c32_50
noncomputable def c32_4 : Code := .seq c32_5 c32_6
noncomputable def c32_2 : Code := .seq c32_3 c32_4
noncomputable def c32_0 : Code := .seq c32_1 c32_2
noncomputable def F32 : Func := { Try.f32 with body := some c32_0 }
theorem F32_eq : Try.f32 = F32 := rfl
theorem at32 : Try.prog.funcs[32]? = some F32 := by rw [← F32_eq]; exact Try.func32
noncomputable def o33_1 : Array Oper := opsC (atC (bodyC Try.f33) [0])
noncomputable def c33_1 : Code := .region 0 o33_1 false
noncomputable def o33_4 : Array Oper := opsC (atC (bodyC Try.f33) [1, 0, 0])
noncomputable def c33_4 : Code := .region 1 o33_4 false
noncomputable def o33_9 : Array Oper := opsC (atC (bodyC Try.f33) [1, 0, 1, 0, 0, 0, 0])
noncomputable def c33_9 : Code := .region 2 o33_9 false
noncomputable def c33_11 : Code := .skip
noncomputable def c33_12 : Code := .exit 0
noncomputable def c33_10 : Code := .cond (opdC (atC (bodyC Try.f33) [1, 0, 1, 0, 0, 0, 1])) c33_11 c33_12
noncomputable def c33_8 : Code := .seq c33_9 c33_10
noncomputable def o33_16 : Array Oper := opsC (atC (bodyC Try.f33) [1, 0, 1, 0, 0, 1, 0, 0, 0])
noncomputable def c33_16 : Code := .region 4 o33_16 true
noncomputable def o33_19 : Array Oper := opsC (atC (bodyC Try.f33) [1, 0, 1, 0, 0, 1, 0, 0, 1, 0, 0])
noncomputable def c33_19 : Code := .region 5 o33_19 false
noncomputable def c33_20 : Code := .ret
noncomputable def c33_18 : Code := .seq c33_19 c33_20
noncomputable def c33_21 : Code := .skip
noncomputable def c33_17 : Code := .cond (opdC (atC (bodyC Try.f33) [1, 0, 1, 0, 0, 1, 0, 0, 1])) c33_18 c33_21
noncomputable def c33_15 : Code := .seq c33_16 c33_17
noncomputable def c33_14 : Code := .block 1 c33_15
noncomputable def o33_22 : Array Oper := opsC (atC (bodyC Try.f33) [1, 0, 1, 0, 0, 1, 1])
noncomputable def c33_22 : Code := .region 3 o33_22 false
noncomputable def c33_13 : Code := .seq c33_14 c33_22
noncomputable def c33_7 : Code := .seq c33_8 c33_13
noncomputable def c33_6 : Code := .loop c33_7
noncomputable def c33_5 : Code := .block 0 c33_6
noncomputable def c33_3 : Code := .seq c33_4 c33_5
noncomputable def o33_24 : Array Oper := opsC (atC (bodyC Try.f33) [1, 1, 0])
noncomputable def c33_24 : Code := .region 6 o33_24 false
noncomputable def c33_25 : Code := .ret
noncomputable def c33_23 : Code := .seq c33_24 c33_25
noncomputable def c33_2 : Code := .seq c33_3 c33_23
noncomputable def c33_0 : Code := .seq c33_1 c33_2
noncomputable def F33 : Func := { Try.f33 with body := some c33_0 }
theorem F33_eq : Try.f33 = F33 := rfl
theorem at33 : Try.prog.funcs[33]? = some F33 := by rw [← F33_eq]; exact Try.func33
noncomputable def o34_1 : Array Oper := opsC (atC (bodyC Try.f34) [0])
noncomputable def c34_1 : Code := .region 0 o34_1 false
noncomputable def o34_3 : Array Oper := opsC (atC (bodyC Try.f34) [1, 0])
noncomputable def c34_3 : Code := .region 1 o34_3 false
noncomputable def o34_5 : Array Oper := opsC (atC (bodyC Try.f34) [1, 1, 0])
noncomputable def c34_5 : Code := .region 2 o34_5 false
noncomputable def o34_8 : Array Oper := opsC (atC (bodyC Try.f34) [1, 1, 1, 0, 0])
noncomputable def c34_8 : Code := .region 3 o34_8 false
noncomputable def o34_13 : Array Oper := opsC (atC (bodyC Try.f34) [1, 1, 1, 0, 1, 0, 0, 0, 0])
noncomputable def c34_13 : Code := .region 4 o34_13 false
noncomputable def c34_15 : Code := .skip
noncomputable def c34_16 : Code := .exit 0
noncomputable def c34_14 : Code := .cond (opdC (atC (bodyC Try.f34) [1, 1, 1, 0, 1, 0, 0, 0, 1])) c34_15 c34_16
noncomputable def c34_12 : Code := .seq c34_13 c34_14
noncomputable def o34_20 : Array Oper := opsC (atC (bodyC Try.f34) [1, 1, 1, 0, 1, 0, 0, 1, 0, 0, 0])
noncomputable def c34_20 : Code := .region 6 o34_20 false
noncomputable def o34_23 : Array Oper := opsC (atC (bodyC Try.f34) [1, 1, 1, 0, 1, 0, 0, 1, 0, 0, 1, 0, 0])
noncomputable def c34_23 : Code := .region 7 o34_23 false
noncomputable def o34_25 : Array Oper := opsC (atC (bodyC Try.f34) [1, 1, 1, 0, 1, 0, 0, 1, 0, 0, 1, 0, 1, 0])
noncomputable def c34_25 : Code := .region 8 o34_25 false
noncomputable def o34_26 : Array Oper := opsC (atC (bodyC Try.f34) [1, 1, 1, 0, 1, 0, 0, 1, 0, 0, 1, 0, 1, 1])
noncomputable def c34_26 : Code := .region 9 o34_26 true
noncomputable def c34_24 : Code := .cond (opdC (atC (bodyC Try.f34) [1, 1, 1, 0, 1, 0, 0, 1, 0, 0, 1, 0, 1])) c34_25 c34_26
noncomputable def c34_22 : Code := .seq c34_23 c34_24
noncomputable def o34_28 : Array Oper := opsC (atC (bodyC Try.f34) [1, 1, 1, 0, 1, 0, 0, 1, 0, 0, 1, 1, 0])
noncomputable def c34_28 : Code := .region 10 o34_28 false
noncomputable def o34_30 : Array Oper := opsC (atC (bodyC Try.f34) [1, 1, 1, 0, 1, 0, 0, 1, 0, 0, 1, 1, 1, 0])
noncomputable def c34_30 : Code := .region 11 o34_30 false
noncomputable def o34_32 : Array Oper := opsC (atC (bodyC Try.f34) [1, 1, 1, 0, 1, 0, 0, 1, 0, 0, 1, 1, 1, 1, 0])
noncomputable def c34_32 : Code := .region 12 o34_32 false
noncomputable def o34_34 : Array Oper := opsC (atC (bodyC Try.f34) [1, 1, 1, 0, 1, 0, 0, 1, 0, 0, 1, 1, 1, 1, 1, 0])
noncomputable def c34_34 : Code := .region 13 o34_34 false
noncomputable def o34_35 : Array Oper := opsC (atC (bodyC Try.f34) [1, 1, 1, 0, 1, 0, 0, 1, 0, 0, 1, 1, 1, 1, 1, 1])
noncomputable def c34_35 : Code := .region 14 o34_35 false
noncomputable def c34_33 : Code := .seq c34_34 c34_35
noncomputable def c34_31 : Code := .seq c34_32 c34_33
noncomputable def c34_29 : Code := .seq c34_30 c34_31
noncomputable def c34_27 : Code := .seq c34_28 c34_29
noncomputable def c34_21 : Code := .seq c34_22 c34_27
noncomputable def c34_19 : Code := .seq c34_20 c34_21
noncomputable def c34_18 : Code := .block 1 c34_19
noncomputable def o34_36 : Array Oper := opsC (atC (bodyC Try.f34) [1, 1, 1, 0, 1, 0, 0, 1, 1])
noncomputable def c34_36 : Code := .region 5 o34_36 false
noncomputable def c34_17 : Code := .seq c34_18 c34_36
noncomputable def c34_11 : Code := .seq c34_12 c34_17
noncomputable def c34_10 : Code := .loop c34_11
noncomputable def c34_9 : Code := .block 0 c34_10
noncomputable def c34_7 : Code := .seq c34_8 c34_9
noncomputable def o34_39 : Array Oper := opsC (atC (bodyC Try.f34) [1, 1, 1, 1, 0, 0])
noncomputable def c34_39 : Code := .region 15 o34_39 false
noncomputable def o34_44 : Array Oper := opsC (atC (bodyC Try.f34) [1, 1, 1, 1, 0, 1, 0, 0, 0, 0])
noncomputable def c34_44 : Code := .region 16 o34_44 false
noncomputable def c34_46 : Code := .skip
noncomputable def c34_47 : Code := .exit 2
noncomputable def c34_45 : Code := .cond (opdC (atC (bodyC Try.f34) [1, 1, 1, 1, 0, 1, 0, 0, 0, 1])) c34_46 c34_47
noncomputable def c34_43 : Code := .seq c34_44 c34_45
noncomputable def o34_50 : Array Oper := opsC (atC (bodyC Try.f34) [1, 1, 1, 1, 0, 1, 0, 0, 1, 0, 0])
noncomputable def c34_50 : Code := .region 18 o34_50 false
noncomputable def c34_49 : Code := .block 3 c34_50
noncomputable def o34_51 : Array Oper := opsC (atC (bodyC Try.f34) [1, 1, 1, 1, 0, 1, 0, 0, 1, 1])
noncomputable def c34_51 : Code := .region 17 o34_51 false
noncomputable def c34_48 : Code := .seq c34_49 c34_51
noncomputable def c34_42 : Code := .seq c34_43 c34_48
noncomputable def c34_41 : Code := .loop c34_42
noncomputable def c34_40 : Code := .block 2 c34_41
noncomputable def c34_38 : Code := .seq c34_39 c34_40
noncomputable def o34_53 : Array Oper := opsC (atC (bodyC Try.f34) [1, 1, 1, 1, 1, 0])
noncomputable def c34_53 : Code := .region 19 o34_53 false
noncomputable def c34_54 : Code := .ret
noncomputable def c34_52 : Code := .seq c34_53 c34_54
noncomputable def c34_37 : Code := .seq c34_38 c34_52
noncomputable def c34_6 : Code := .seq c34_7 c34_37
noncomputable def c34_4 : Code := .seq c34_5 c34_6
noncomputable def c34_2 : Code := .seq c34_3 c34_4
noncomputable def c34_0 : Code := .seq c34_1 c34_2
noncomputable def F34 : Func := { Try.f34 with body := some c34_0 }
theorem F34_eq : Try.f34 = F34 := rfl
theorem at34 : Try.prog.funcs[34]? = some F34 := by rw [← F34_eq]; exact Try.func34
noncomputable def o35_1 : Array Oper := opsC (atC (bodyC Try.f35) [0])
noncomputable def c35_1 : Code := .region 0 o35_1 false
noncomputable def o35_3 : Array Oper := opsC (atC (bodyC Try.f35) [1, 0])
noncomputable def c35_3 : Code := .region 1 o35_3 false
noncomputable def o35_5 : Array Oper := opsC (atC (bodyC Try.f35) [1, 1, 0])
noncomputable def c35_5 : Code := .region 2 o35_5 false
noncomputable def c35_6 : Code := .ret
noncomputable def c35_4 : Code := .seq c35_5 c35_6
noncomputable def c35_2 : Code := .seq c35_3 c35_4
noncomputable def c35_0 : Code := .seq c35_1 c35_2
noncomputable def F35 : Func := { Try.f35 with body := some c35_0 }
theorem F35_eq : Try.f35 = F35 := rfl
theorem at35 : Try.prog.funcs[35]? = some F35 := by rw [← F35_eq]; exact Try.func35
noncomputable def o36_1 : Array Oper := opsC (atC (bodyC Try.f36) [0])
noncomputable def c36_1 : Code := .region 0 o36_1 false
noncomputable def o36_3 : Array Oper := opsC (atC (bodyC Try.f36) [1, 0])
noncomputable def c36_3 : Code := .region 1 o36_3 false
noncomputable def o36_5 : Array Oper := opsC (atC (bodyC Try.f36) [1, 1, 0])
noncomputable def c36_5 : Code := .region 2 o36_5 false
noncomputable def o36_8 : Array Oper := opsC (atC (bodyC Try.f36) [1, 1, 1, 0, 0])
noncomputable def c36_8 : Code := .region 3 o36_8 false
noncomputable def o36_10 : Array Oper := opsC (atC (bodyC Try.f36) [1, 1, 1, 0, 1, 0])
noncomputable def c36_10 : Code := .region 4 o36_10 false
noncomputable def c36_11 : Code := .skip
noncomputable def c36_9 : Code := .cond (opdC (atC (bodyC Try.f36) [1, 1, 1, 0, 1])) c36_10 c36_11
noncomputable def c36_7 : Code := .seq c36_8 c36_9
noncomputable def o36_13 : Array Oper := opsC (atC (bodyC Try.f36) [1, 1, 1, 1, 0])
noncomputable def c36_13 : Code := .region 5 o36_13 false
noncomputable def o36_16 : Array Oper := opsC (atC (bodyC Try.f36) [1, 1, 1, 1, 1, 0, 0])
noncomputable def c36_16 : Code := .region 6 o36_16 false
noncomputable def o36_19 : Array Oper := opsC (atC (bodyC Try.f36) [1, 1, 1, 1, 1, 0, 1, 0, 0])
noncomputable def c36_19 : Code := .region 7 o36_19 false
noncomputable def c36_20 : Code := .ret
noncomputable def c36_18 : Code := .seq c36_19 c36_20
noncomputable def c36_21 : Code := .skip
noncomputable def c36_17 : Code := .cond (opdC (atC (bodyC Try.f36) [1, 1, 1, 1, 1, 0, 1])) c36_18 c36_21
noncomputable def c36_15 : Code := .seq c36_16 c36_17
noncomputable def o36_23 : Array Oper := opsC (atC (bodyC Try.f36) [1, 1, 1, 1, 1, 1, 0])
noncomputable def c36_23 : Code := .region 8 o36_23 false
noncomputable def c36_24 : Code := .ret
noncomputable def c36_22 : Code := .seq c36_23 c36_24
noncomputable def c36_14 : Code := .seq c36_15 c36_22
noncomputable def c36_12 : Code := .seq c36_13 c36_14
noncomputable def c36_6 : Code := .seq c36_7 c36_12
noncomputable def c36_4 : Code := .seq c36_5 c36_6
noncomputable def c36_2 : Code := .seq c36_3 c36_4
noncomputable def c36_0 : Code := .seq c36_1 c36_2
noncomputable def F36 : Func := { Try.f36 with body := some c36_0 }
theorem F36_eq : Try.f36 = F36 := rfl
theorem at36 : Try.prog.funcs[36]? = some F36 := by rw [← F36_eq]; exact Try.func36
noncomputable def o37_1 : Array Oper := opsC (atC (bodyC Try.f37) [0])
noncomputable def c37_1 : Code := .region 0 o37_1 false
noncomputable def o37_3 : Array Oper := opsC (atC (bodyC Try.f37) [1, 0])
noncomputable def c37_3 : Code := .region 1 o37_3 false
noncomputable def c37_4 : Code := .ret
noncomputable def c37_2 : Code := .seq c37_3 c37_4
noncomputable def c37_0 : Code := .seq c37_1 c37_2
noncomputable def F37 : Func := { Try.f37 with body := some c37_0 }
theorem F37_eq : Try.f37 = F37 := rfl
theorem at37 : Try.prog.funcs[37]? = some F37 := by rw [← F37_eq]; exact Try.func37
noncomputable def o38_1 : Array Oper := opsC (atC (bodyC Try.f38) [0])
noncomputable def c38_1 : Code := .region 0 o38_1 false
noncomputable def o38_3 : Array Oper := opsC (atC (bodyC Try.f38) [1, 0])
noncomputable def c38_3 : Code := .region 1 o38_3 false
noncomputable def o38_6 : Array Oper := opsC (atC (bodyC Try.f38) [1, 1, 0, 0])
noncomputable def c38_6 : Code := .region 2 o38_6 false
noncomputable def o38_11 : Array Oper := opsC (atC (bodyC Try.f38) [1, 1, 0, 1, 0, 0, 0, 0])
noncomputable def c38_11 : Code := .region 3 o38_11 false
noncomputable def c38_13 : Code := .skip
noncomputable def c38_14 : Code := .exit 0
noncomputable def c38_12 : Code := .cond (opdC (atC (bodyC Try.f38) [1, 1, 0, 1, 0, 0, 0, 1])) c38_13 c38_14
noncomputable def c38_10 : Code := .seq c38_11 c38_12
noncomputable def o38_17 : Array Oper := opsC (atC (bodyC Try.f38) [1, 1, 0, 1, 0, 0, 1, 0, 0])
noncomputable def c38_17 : Code := .region 5 o38_17 false
noncomputable def c38_16 : Code := .block 1 c38_17
noncomputable def o38_18 : Array Oper := opsC (atC (bodyC Try.f38) [1, 1, 0, 1, 0, 0, 1, 1])
noncomputable def c38_18 : Code := .region 4 o38_18 false
noncomputable def c38_15 : Code := .seq c38_16 c38_18
noncomputable def c38_9 : Code := .seq c38_10 c38_15
noncomputable def c38_8 : Code := .loop c38_9
noncomputable def c38_7 : Code := .block 0 c38_8
noncomputable def c38_5 : Code := .seq c38_6 c38_7
noncomputable def o38_20 : Array Oper := opsC (atC (bodyC Try.f38) [1, 1, 1, 0])
noncomputable def c38_20 : Code := .region 6 o38_20 false
noncomputable def c38_21 : Code := .ret
noncomputable def c38_19 : Code := .seq c38_20 c38_21
noncomputable def c38_4 : Code := .seq c38_5 c38_19
noncomputable def c38_2 : Code := .seq c38_3 c38_4
noncomputable def c38_0 : Code := .seq c38_1 c38_2
noncomputable def F38 : Func := { Try.f38 with body := some c38_0 }
theorem F38_eq : Try.f38 = F38 := rfl
theorem at38 : Try.prog.funcs[38]? = some F38 := by rw [← F38_eq]; exact Try.func38
noncomputable def o39_1 : Array Oper := opsC (atC (bodyC Try.f39) [0])
noncomputable def c39_1 : Code := .region 0 o39_1 false
noncomputable def o39_3 : Array Oper := opsC (atC (bodyC Try.f39) [1, 0])
noncomputable def c39_3 : Code := .region 1 o39_3 false
noncomputable def o39_5 : Array Oper := opsC (atC (bodyC Try.f39) [1, 1, 0])
noncomputable def c39_5 : Code := .region 2 o39_5 false
noncomputable def o39_8 : Array Oper := opsC (atC (bodyC Try.f39) [1, 1, 1, 0, 0])
noncomputable def c39_8 : Code := .region 3 o39_8 false
noncomputable def o39_13 : Array Oper := opsC (atC (bodyC Try.f39) [1, 1, 1, 0, 1, 0, 0, 0, 0])
noncomputable def c39_13 : Code := .region 4 o39_13 false
noncomputable def c39_15 : Code := .skip
noncomputable def c39_16 : Code := .exit 0
noncomputable def c39_14 : Code := .cond (opdC (atC (bodyC Try.f39) [1, 1, 1, 0, 1, 0, 0, 0, 1])) c39_15 c39_16
noncomputable def c39_12 : Code := .seq c39_13 c39_14
noncomputable def o39_19 : Array Oper := opsC (atC (bodyC Try.f39) [1, 1, 1, 0, 1, 0, 0, 1, 0, 0])
noncomputable def c39_19 : Code := .region 5 o39_19 false
noncomputable def o39_22 : Array Oper := opsC (atC (bodyC Try.f39) [1, 1, 1, 0, 1, 0, 0, 1, 0, 1, 0, 0])
noncomputable def c39_22 : Code := .region 6 o39_22 false
noncomputable def o39_27 : Array Oper := opsC (atC (bodyC Try.f39) [1, 1, 1, 0, 1, 0, 0, 1, 0, 1, 0, 1, 0, 0, 0, 0])
noncomputable def c39_27 : Code := .region 7 o39_27 false
noncomputable def c39_29 : Code := .skip
noncomputable def c39_30 : Code := .exit 2
noncomputable def c39_28 : Code := .cond (opdC (atC (bodyC Try.f39) [1, 1, 1, 0, 1, 0, 0, 1, 0, 1, 0, 1, 0, 0, 0, 1])) c39_29 c39_30
noncomputable def c39_26 : Code := .seq c39_27 c39_28
noncomputable def o39_34 : Array Oper := opsC (atC (bodyC Try.f39) [1, 1, 1, 0, 1, 0, 0, 1, 0, 1, 0, 1, 0, 0, 1, 0, 0, 0])
noncomputable def c39_34 : Code := .region 9 o39_34 false
noncomputable def o39_37 : Array Oper := opsC (atC (bodyC Try.f39) [1, 1, 1, 0, 1, 0, 0, 1, 0, 1, 0, 1, 0, 0, 1, 0, 0, 1, 0, 0])
noncomputable def c39_37 : Code := .region 10 o39_37 false
noncomputable def o39_40 : Array Oper := opsC (atC (bodyC Try.f39) [1, 1, 1, 0, 1, 0, 0, 1, 0, 1, 0, 1, 0, 0, 1, 0, 0, 1, 0, 1, 0, 0])
noncomputable def c39_40 : Code := .region 11 o39_40 false
noncomputable def c39_41 : Code := .ret
noncomputable def c39_39 : Code := .seq c39_40 c39_41
noncomputable def c39_42 : Code := .skip
noncomputable def c39_38 : Code := .cond (opdC (atC (bodyC Try.f39) [1, 1, 1, 0, 1, 0, 0, 1, 0, 1, 0, 1, 0, 0, 1, 0, 0, 1, 0, 1])) c39_39 c39_42
noncomputable def c39_36 : Code := .seq c39_37 c39_38
noncomputable def o39_44 : Array Oper := opsC (atC (bodyC Try.f39) [1, 1, 1, 0, 1, 0, 0, 1, 0, 1, 0, 1, 0, 0, 1, 0, 0, 1, 1, 0])
noncomputable def c39_44 : Code := .region 12 o39_44 false
noncomputable def o39_45 : Array Oper := opsC (atC (bodyC Try.f39) [1, 1, 1, 0, 1, 0, 0, 1, 0, 1, 0, 1, 0, 0, 1, 0, 0, 1, 1, 1])
noncomputable def c39_45 : Code := .region 13 o39_45 false
noncomputable def c39_43 : Code := .seq c39_44 c39_45
noncomputable def c39_35 : Code := .seq c39_36 c39_43
noncomputable def c39_33 : Code := .seq c39_34 c39_35
noncomputable def c39_32 : Code := .block 3 c39_33
noncomputable def o39_46 : Array Oper := opsC (atC (bodyC Try.f39) [1, 1, 1, 0, 1, 0, 0, 1, 0, 1, 0, 1, 0, 0, 1, 1])
noncomputable def c39_46 : Code := .region 8 o39_46 false
noncomputable def c39_31 : Code := .seq c39_32 c39_46
noncomputable def c39_25 : Code := .seq c39_26 c39_31
noncomputable def c39_24 : Code := .loop c39_25
noncomputable def c39_23 : Code := .block 2 c39_24
noncomputable def c39_21 : Code := .seq c39_22 c39_23
noncomputable def o39_49 : Array Oper := opsC (atC (bodyC Try.f39) [1, 1, 1, 0, 1, 0, 0, 1, 0, 1, 1, 0, 0])
noncomputable def c39_49 : Code := .region 14 o39_49 false
noncomputable def o39_52 : Array Oper := opsC (atC (bodyC Try.f39) [1, 1, 1, 0, 1, 0, 0, 1, 0, 1, 1, 0, 1, 0, 0])
noncomputable def c39_52 : Code := .region 15 o39_52 false
noncomputable def c39_53 : Code := .ret
noncomputable def c39_51 : Code := .seq c39_52 c39_53
noncomputable def c39_54 : Code := .skip
noncomputable def c39_50 : Code := .cond (opdC (atC (bodyC Try.f39) [1, 1, 1, 0, 1, 0, 0, 1, 0, 1, 1, 0, 1])) c39_51 c39_54
noncomputable def c39_48 : Code := .seq c39_49 c39_50
noncomputable def o39_56 : Array Oper := opsC (atC (bodyC Try.f39) [1, 1, 1, 0, 1, 0, 0, 1, 0, 1, 1, 1, 0])
noncomputable def c39_56 : Code := .region 16 o39_56 true
noncomputable def o39_58 : Array Oper := opsC (atC (bodyC Try.f39) [1, 1, 1, 0, 1, 0, 0, 1, 0, 1, 1, 1, 1, 0])
noncomputable def c39_58 : Code := .region 17 o39_58 false
noncomputable def o39_60 : Array Oper := opsC (atC (bodyC Try.f39) [1, 1, 1, 0, 1, 0, 0, 1, 0, 1, 1, 1, 1, 1, 0])
noncomputable def c39_60 : Code := .region 18 o39_60 false
noncomputable def o39_62 : Array Oper := opsC (atC (bodyC Try.f39) [1, 1, 1, 0, 1, 0, 0, 1, 0, 1, 1, 1, 1, 1, 1, 0])
noncomputable def c39_62 : Code := .region 19 o39_62 false
noncomputable def o39_64 : Array Oper := opsC (atC (bodyC Try.f39) [1, 1, 1, 0, 1, 0, 0, 1, 0, 1, 1, 1, 1, 1, 1, 1, 0])
noncomputable def c39_64 : Code := .region 20 o39_64 false
noncomputable def o39_66 : Array Oper := opsC (atC (bodyC Try.f39) [1, 1, 1, 0, 1, 0, 0, 1, 0, 1, 1, 1, 1, 1, 1, 1, 1, 0])
noncomputable def c39_66 : Code := .region 21 o39_66 false
noncomputable def o39_69 : Array Oper := opsC (atC (bodyC Try.f39) [1, 1, 1, 0, 1, 0, 0, 1, 0, 1, 1, 1, 1, 1, 1, 1, 1, 1, 0, 0])
noncomputable def c39_69 : Code := .region 22 o39_69 false
noncomputable def c39_70 : Code := .ret
noncomputable def c39_68 : Code := .seq c39_69 c39_70
noncomputable def c39_71 : Code := .skip
noncomputable def c39_67 : Code := .cond (opdC (atC (bodyC Try.f39) [1, 1, 1, 0, 1, 0, 0, 1, 0, 1, 1, 1, 1, 1, 1, 1, 1, 1])) c39_68 c39_71
noncomputable def c39_65 : Code := .seq c39_66 c39_67
noncomputable def c39_63 : Code := .seq c39_64 c39_65
noncomputable def c39_61 : Code := .seq c39_62 c39_63
noncomputable def c39_59 : Code := .seq c39_60 c39_61
noncomputable def c39_57 : Code := .seq c39_58 c39_59
noncomputable def c39_55 : Code := .seq c39_56 c39_57
noncomputable def c39_47 : Code := .seq c39_48 c39_55
noncomputable def c39_20 : Code := .seq c39_21 c39_47
noncomputable def c39_18 : Code := .seq c39_19 c39_20
noncomputable def c39_17 : Code := .block 1 c39_18
noncomputable def c39_11 : Code := .seq c39_12 c39_17
noncomputable def c39_10 : Code := .loop c39_11
noncomputable def c39_9 : Code := .block 0 c39_10
noncomputable def c39_7 : Code := .seq c39_8 c39_9
noncomputable def o39_73 : Array Oper := opsC (atC (bodyC Try.f39) [1, 1, 1, 1, 0])
noncomputable def c39_73 : Code := .region 23 o39_73 false
noncomputable def c39_74 : Code := .ret
noncomputable def c39_72 : Code := .seq c39_73 c39_74
noncomputable def c39_6 : Code := .seq c39_7 c39_72
noncomputable def c39_4 : Code := .seq c39_5 c39_6
noncomputable def c39_2 : Code := .seq c39_3 c39_4
noncomputable def c39_0 : Code := .seq c39_1 c39_2
noncomputable def F39 : Func := { Try.f39 with body := some c39_0 }
theorem F39_eq : Try.f39 = F39 := rfl
theorem at39 : Try.prog.funcs[39]? = some F39 := by rw [← F39_eq]; exact Try.func39
noncomputable def o40_1 : Array Oper := opsC (atC (bodyC Try.f40) [0])
noncomputable def c40_1 : Code := .region 0 o40_1 false
noncomputable def o40_3 : Array Oper := opsC (atC (bodyC Try.f40) [1, 0])
noncomputable def c40_3 : Code := .region 1 o40_3 false
noncomputable def o40_6 : Array Oper := opsC (atC (bodyC Try.f40) [1, 1, 0, 0])
noncomputable def c40_6 : Code := .region 2 o40_6 false
noncomputable def o40_9 : Array Oper := opsC (atC (bodyC Try.f40) [1, 1, 0, 1, 0, 0])
noncomputable def c40_9 : Code := .region 3 o40_9 false
noncomputable def c40_10 : Code := .ret
noncomputable def c40_8 : Code := .seq c40_9 c40_10
noncomputable def c40_11 : Code := .skip
noncomputable def c40_7 : Code := .cond (opdC (atC (bodyC Try.f40) [1, 1, 0, 1])) c40_8 c40_11
noncomputable def c40_5 : Code := .seq c40_6 c40_7
noncomputable def o40_13 : Array Oper := opsC (atC (bodyC Try.f40) [1, 1, 1, 0])
noncomputable def c40_13 : Code := .region 4 o40_13 false
noncomputable def o40_16 : Array Oper := opsC (atC (bodyC Try.f40) [1, 1, 1, 1, 0, 0])
noncomputable def c40_16 : Code := .region 5 o40_16 false
noncomputable def o40_19 : Array Oper := opsC (atC (bodyC Try.f40) [1, 1, 1, 1, 0, 1, 0, 0])
noncomputable def c40_19 : Code := .region 6 o40_19 false
noncomputable def c40_20 : Code := .ret
noncomputable def c40_18 : Code := .seq c40_19 c40_20
noncomputable def c40_21 : Code := .skip
noncomputable def c40_17 : Code := .cond (opdC (atC (bodyC Try.f40) [1, 1, 1, 1, 0, 1])) c40_18 c40_21
noncomputable def c40_15 : Code := .seq c40_16 c40_17
noncomputable def o40_23 : Array Oper := opsC (atC (bodyC Try.f40) [1, 1, 1, 1, 1, 0])
noncomputable def c40_23 : Code := .region 7 o40_23 false
noncomputable def c40_24 : Code := .ret
noncomputable def c40_22 : Code := .seq c40_23 c40_24
noncomputable def c40_14 : Code := .seq c40_15 c40_22
noncomputable def c40_12 : Code := .seq c40_13 c40_14
noncomputable def c40_4 : Code := .seq c40_5 c40_12
noncomputable def c40_2 : Code := .seq c40_3 c40_4
noncomputable def c40_0 : Code := .seq c40_1 c40_2
noncomputable def F40 : Func := { Try.f40 with body := some c40_0 }
theorem F40_eq : Try.f40 = F40 := rfl
theorem at40 : Try.prog.funcs[40]? = some F40 := by rw [← F40_eq]; exact Try.func40
noncomputable def o41_1 : Array Oper := opsC (atC (bodyC Try.f41) [0])
noncomputable def c41_1 : Code := .region 0 o41_1 false
noncomputable def o41_3 : Array Oper := opsC (atC (bodyC Try.f41) [1, 0])
noncomputable def c41_3 : Code := .region 1 o41_3 false
noncomputable def o41_9 : Array Oper := opsC (atC (bodyC Try.f41) [1, 1, 0, 0, 0, 0, 0])
noncomputable def c41_9 : Code := .region 2 o41_9 false
noncomputable def c41_11 : Code := .skip
noncomputable def c41_12 : Code := .exit 0
noncomputable def c41_10 : Code := .cond (opdC (atC (bodyC Try.f41) [1, 1, 0, 0, 0, 0, 1])) c41_11 c41_12
noncomputable def c41_8 : Code := .seq c41_9 c41_10
noncomputable def o41_15 : Array Oper := opsC (atC (bodyC Try.f41) [1, 1, 0, 0, 0, 1, 0, 0])
noncomputable def c41_15 : Code := .region 3 o41_15 false
noncomputable def o41_17 : Array Oper := opsC (atC (bodyC Try.f41) [1, 1, 0, 0, 0, 1, 0, 1, 0])
noncomputable def c41_17 : Code := .region 4 o41_17 false
noncomputable def o41_19 : Array Oper := opsC (atC (bodyC Try.f41) [1, 1, 0, 0, 0, 1, 0, 1, 1, 0])
noncomputable def c41_19 : Code := .region 5 o41_19 false
noncomputable def o41_20 : Array Oper := opsC (atC (bodyC Try.f41) [1, 1, 0, 0, 0, 1, 0, 1, 1, 1])
noncomputable def c41_20 : Code := .region 6 o41_20 false
noncomputable def c41_18 : Code := .cond (opdC (atC (bodyC Try.f41) [1, 1, 0, 0, 0, 1, 0, 1, 1])) c41_19 c41_20
noncomputable def c41_16 : Code := .seq c41_17 c41_18
noncomputable def c41_14 : Code := .seq c41_15 c41_16
noncomputable def c41_13 : Code := .block 1 c41_14
noncomputable def c41_7 : Code := .seq c41_8 c41_13
noncomputable def c41_6 : Code := .loop c41_7
noncomputable def c41_5 : Code := .block 0 c41_6
noncomputable def o41_22 : Array Oper := opsC (atC (bodyC Try.f41) [1, 1, 1, 0])
noncomputable def c41_22 : Code := .region 7 o41_22 false
noncomputable def c41_23 : Code := .ret
noncomputable def c41_21 : Code := .seq c41_22 c41_23
noncomputable def c41_4 : Code := .seq c41_5 c41_21
noncomputable def c41_2 : Code := .seq c41_3 c41_4
noncomputable def c41_0 : Code := .seq c41_1 c41_2
noncomputable def F41 : Func := { Try.f41 with body := some c41_0 }
theorem F41_eq : Try.f41 = F41 := rfl
theorem at41 : Try.prog.funcs[41]? = some F41 := by rw [← F41_eq]; exact Try.func41
noncomputable def o42_1 : Array Oper := opsC (atC (bodyC Try.f42) [0])
noncomputable def c42_1 : Code := .region 0 o42_1 false
noncomputable def o42_3 : Array Oper := opsC (atC (bodyC Try.f42) [1, 0])
noncomputable def c42_3 : Code := .region 1 o42_3 true
noncomputable def c42_4 : Code := .ret
noncomputable def c42_2 : Code := .seq c42_3 c42_4
noncomputable def c42_0 : Code := .seq c42_1 c42_2
noncomputable def F42 : Func := { Try.f42 with body := some c42_0 }
theorem F42_eq : Try.f42 = F42 := rfl
theorem at42 : Try.prog.funcs[42]? = some F42 := by rw [← F42_eq]; exact Try.func42
noncomputable def o43_1 : Array Oper := opsC (atC (bodyC Try.f43) [0])
noncomputable def c43_1 : Code := .region 0 o43_1 false
noncomputable def o43_3 : Array Oper := opsC (atC (bodyC Try.f43) [1, 0])
noncomputable def c43_3 : Code := .region 1 o43_3 false
noncomputable def o43_5 : Array Oper := opsC (atC (bodyC Try.f43) [1, 1, 0])
noncomputable def c43_5 : Code := .region 2 o43_5 false
noncomputable def c43_6 : Code := .ret
noncomputable def c43_4 : Code := .seq c43_5 c43_6
noncomputable def c43_2 : Code := .seq c43_3 c43_4
noncomputable def c43_0 : Code := .seq c43_1 c43_2
noncomputable def F43 : Func := { Try.f43 with body := some c43_0 }
theorem F43_eq : Try.f43 = F43 := rfl
theorem at43 : Try.prog.funcs[43]? = some F43 := by rw [← F43_eq]; exact Try.func43
noncomputable def o44_1 : Array Oper := opsC (atC (bodyC Try.f44) [0])
noncomputable def c44_1 : Code := .region 0 o44_1 false
noncomputable def o44_4 : Array Oper := opsC (atC (bodyC Try.f44) [1, 0, 0])
noncomputable def c44_4 : Code := .region 1 o44_4 false
noncomputable def o44_7 : Array Oper := opsC (atC (bodyC Try.f44) [1, 0, 1, 0, 0])
noncomputable def c44_7 : Code := .region 2 o44_7 false
noncomputable def c44_8 : Code := .ret
noncomputable def c44_6 : Code := .seq c44_7 c44_8
noncomputable def c44_9 : Code := .skip
noncomputable def c44_5 : Code := .cond (opdC (atC (bodyC Try.f44) [1, 0, 1])) c44_6 c44_9
noncomputable def c44_3 : Code := .seq c44_4 c44_5
noncomputable def o44_11 : Array Oper := opsC (atC (bodyC Try.f44) [1, 1, 0])
noncomputable def c44_11 : Code := .region 3 o44_11 false
noncomputable def o44_14 : Array Oper := opsC (atC (bodyC Try.f44) [1, 1, 1, 0, 0])
noncomputable def c44_14 : Code := .region 4 o44_14 false
noncomputable def o44_17 : Array Oper := opsC (atC (bodyC Try.f44) [1, 1, 1, 0, 1, 0, 0])
noncomputable def c44_17 : Code := .region 5 o44_17 false
noncomputable def c44_18 : Code := .ret
noncomputable def c44_16 : Code := .seq c44_17 c44_18
noncomputable def c44_19 : Code := .skip
noncomputable def c44_15 : Code := .cond (opdC (atC (bodyC Try.f44) [1, 1, 1, 0, 1])) c44_16 c44_19
noncomputable def c44_13 : Code := .seq c44_14 c44_15
noncomputable def o44_21 : Array Oper := opsC (atC (bodyC Try.f44) [1, 1, 1, 1, 0])
noncomputable def c44_21 : Code := .region 6 o44_21 false
noncomputable def c44_22 : Code := .ret
noncomputable def c44_20 : Code := .seq c44_21 c44_22
noncomputable def c44_12 : Code := .seq c44_13 c44_20
noncomputable def c44_10 : Code := .seq c44_11 c44_12
noncomputable def c44_2 : Code := .seq c44_3 c44_10
noncomputable def c44_0 : Code := .seq c44_1 c44_2
noncomputable def F44 : Func := { Try.f44 with body := some c44_0 }
theorem F44_eq : Try.f44 = F44 := rfl
theorem at44 : Try.prog.funcs[44]? = some F44 := by rw [← F44_eq]; exact Try.func44
noncomputable def o45_1 : Array Oper := opsC (atC (bodyC Try.f45) [0])
noncomputable def c45_1 : Code := .region 0 o45_1 false
noncomputable def o45_4 : Array Oper := opsC (atC (bodyC Try.f45) [1, 0, 0])
noncomputable def c45_4 : Code := .region 1 o45_4 false
noncomputable def o45_9 : Array Oper := opsC (atC (bodyC Try.f45) [1, 0, 1, 0, 0, 0, 0])
noncomputable def c45_9 : Code := .region 2 o45_9 false
noncomputable def c45_11 : Code := .skip
noncomputable def c45_12 : Code := .exit 0
noncomputable def c45_10 : Code := .cond (opdC (atC (bodyC Try.f45) [1, 0, 1, 0, 0, 0, 1])) c45_11 c45_12
noncomputable def c45_8 : Code := .seq c45_9 c45_10
noncomputable def o45_16 : Array Oper := opsC (atC (bodyC Try.f45) [1, 0, 1, 0, 0, 1, 0, 0, 0])
noncomputable def c45_16 : Code := .region 4 o45_16 true
noncomputable def o45_20 : Array Oper := opsC (atC (bodyC Try.f45) [1, 0, 1, 0, 0, 1, 0, 0, 1, 0, 0, 0])
noncomputable def c45_20 : Code := .region 5 o45_20 true
noncomputable def o45_23 : Array Oper := opsC (atC (bodyC Try.f45) [1, 0, 1, 0, 0, 1, 0, 0, 1, 0, 0, 1, 0, 0])
noncomputable def c45_23 : Code := .region 6 o45_23 false
noncomputable def c45_24 : Code := .ret
noncomputable def c45_22 : Code := .seq c45_23 c45_24
noncomputable def c45_25 : Code := .skip
noncomputable def c45_21 : Code := .cond (opdC (atC (bodyC Try.f45) [1, 0, 1, 0, 0, 1, 0, 0, 1, 0, 0, 1])) c45_22 c45_25
noncomputable def c45_19 : Code := .seq c45_20 c45_21
noncomputable def o45_27 : Array Oper := opsC (atC (bodyC Try.f45) [1, 0, 1, 0, 0, 1, 0, 0, 1, 0, 1, 0])
noncomputable def c45_27 : Code := .region 7 o45_27 false
noncomputable def c45_28 : Code := .ret
noncomputable def c45_26 : Code := .seq c45_27 c45_28
noncomputable def c45_18 : Code := .seq c45_19 c45_26
noncomputable def c45_29 : Code := .skip
noncomputable def c45_17 : Code := .cond (opdC (atC (bodyC Try.f45) [1, 0, 1, 0, 0, 1, 0, 0, 1])) c45_18 c45_29
noncomputable def c45_15 : Code := .seq c45_16 c45_17
noncomputable def c45_14 : Code := .block 1 c45_15
noncomputable def o45_30 : Array Oper := opsC (atC (bodyC Try.f45) [1, 0, 1, 0, 0, 1, 1])
noncomputable def c45_30 : Code := .region 3 o45_30 false
noncomputable def c45_13 : Code := .seq c45_14 c45_30
noncomputable def c45_7 : Code := .seq c45_8 c45_13
noncomputable def c45_6 : Code := .loop c45_7
noncomputable def c45_5 : Code := .block 0 c45_6
noncomputable def c45_3 : Code := .seq c45_4 c45_5
noncomputable def o45_34 : Array Oper := opsC (atC (bodyC Try.f45) [1, 1, 0, 0, 0])
noncomputable def c45_34 : Code := .region 8 o45_34 false
noncomputable def o45_37 : Array Oper := opsC (atC (bodyC Try.f45) [1, 1, 0, 0, 1, 0, 0])
noncomputable def c45_37 : Code := .region 9 o45_37 false
noncomputable def c45_38 : Code := .ret
noncomputable def c45_36 : Code := .seq c45_37 c45_38
noncomputable def o45_40 : Array Oper := opsC (atC (bodyC Try.f45) [1, 1, 0, 0, 1, 1, 0])
noncomputable def c45_40 : Code := .region 10 o45_40 false
noncomputable def o45_43 : Array Oper := opsC (atC (bodyC Try.f45) [1, 1, 0, 0, 1, 1, 1, 0, 0])
noncomputable def c45_43 : Code := .region 11 o45_43 false
noncomputable def c45_44 : Code := .ret
noncomputable def c45_42 : Code := .seq c45_43 c45_44
noncomputable def c45_45 : Code := .skip
noncomputable def c45_41 : Code := .cond (opdC (atC (bodyC Try.f45) [1, 1, 0, 0, 1, 1, 1])) c45_42 c45_45
noncomputable def c45_39 : Code := .seq c45_40 c45_41
noncomputable def c45_35 : Code := .cond (opdC (atC (bodyC Try.f45) [1, 1, 0, 0, 1])) c45_36 c45_39
noncomputable def c45_33 : Code := .seq c45_34 c45_35
noncomputable def c45_32 : Code := .block 2 c45_33
noncomputable def o45_47 : Array Oper := opsC (atC (bodyC Try.f45) [1, 1, 1, 0])
noncomputable def c45_47 : Code := .region 12 o45_47 false
noncomputable def c45_48 : Code := .ret
noncomputable def c45_46 : Code := .seq c45_47 c45_48
noncomputable def c45_31 : Code := .seq c45_32 c45_46
noncomputable def c45_2 : Code := .seq c45_3 c45_31
noncomputable def c45_0 : Code := .seq c45_1 c45_2
noncomputable def F45 : Func := { Try.f45 with body := some c45_0 }
theorem F45_eq : Try.f45 = F45 := rfl
theorem at45 : Try.prog.funcs[45]? = some F45 := by rw [← F45_eq]; exact Try.func45
noncomputable def o46_1 : Array Oper := opsC (atC (bodyC Try.f46) [0])
noncomputable def c46_1 : Code := .region 0 o46_1 false
noncomputable def o46_3 : Array Oper := opsC (atC (bodyC Try.f46) [1, 0])
noncomputable def c46_3 : Code := .region 1 o46_3 false
noncomputable def o46_5 : Array Oper := opsC (atC (bodyC Try.f46) [1, 1, 0])
noncomputable def c46_5 : Code := .region 2 o46_5 false
noncomputable def o46_9 : Array Oper := opsC (atC (bodyC Try.f46) [1, 1, 1, 0, 0, 0])
noncomputable def c46_9 : Code := .region 3 o46_9 false
noncomputable def c46_12 : Code := .skip
noncomputable def c46_13 : Code := .exit 0
noncomputable def c46_11 : Code := .cond (opdC (atC (bodyC Try.f46) [1, 1, 1, 0, 0, 1, 0])) c46_12 c46_13
noncomputable def o46_17 : Array Oper := opsC (atC (bodyC Try.f46) [1, 1, 1, 0, 0, 1, 1, 0, 0, 0])
noncomputable def c46_17 : Code := .region 4 o46_17 false
noncomputable def o46_18 : Array Oper := opsC (atC (bodyC Try.f46) [1, 1, 1, 0, 0, 1, 1, 0, 0, 1])
noncomputable def c46_18 : Code := .region 5 o46_18 false
noncomputable def c46_16 : Code := .seq c46_17 c46_18
noncomputable def c46_15 : Code := .block 1 c46_16
noncomputable def o46_19 : Array Oper := opsC (atC (bodyC Try.f46) [1, 1, 1, 0, 0, 1, 1, 1])
noncomputable def c46_19 : Code := .region 6 o46_19 false
noncomputable def c46_14 : Code := .seq c46_15 c46_19
noncomputable def c46_10 : Code := .seq c46_11 c46_14
noncomputable def c46_8 : Code := .seq c46_9 c46_10
noncomputable def c46_7 : Code := .loop c46_8
noncomputable def c46_6 : Code := .block 0 c46_7
noncomputable def c46_4 : Code := .seq c46_5 c46_6
noncomputable def c46_2 : Code := .seq c46_3 c46_4
noncomputable def c46_0 : Code := .seq c46_1 c46_2
noncomputable def F46 : Func := { Try.f46 with body := some c46_0 }
theorem F46_eq : Try.f46 = F46 := rfl
theorem at46 : Try.prog.funcs[46]? = some F46 := by rw [← F46_eq]; exact Try.func46
noncomputable def o47_0 : Array Oper := opsC (atC (bodyC Try.f47) [])
noncomputable def c47_0 : Code := .region 0 o47_0 false
noncomputable def F47 : Func := { Try.f47 with body := some c47_0 }
theorem F47_eq : Try.f47 = F47 := rfl
theorem at47 : Try.prog.funcs[47]? = some F47 := by rw [← F47_eq]; exact Try.func47
noncomputable def o48_1 : Array Oper := opsC (atC (bodyC Try.f48) [0])
noncomputable def c48_1 : Code := .region 0 o48_1 false
noncomputable def o48_3 : Array Oper := opsC (atC (bodyC Try.f48) [1, 0])
noncomputable def c48_3 : Code := .region 1 o48_3 false
noncomputable def o48_5 : Array Oper := opsC (atC (bodyC Try.f48) [1, 1, 0])
noncomputable def c48_5 : Code := .region 2 o48_5 false
noncomputable def o48_7 : Array Oper := opsC (atC (bodyC Try.f48) [1, 1, 1, 0])
noncomputable def c48_7 : Code := .region 3 o48_7 false
noncomputable def o48_10 : Array Oper := opsC (atC (bodyC Try.f48) [1, 1, 1, 1, 0, 0])
noncomputable def c48_10 : Code := .region 4 o48_10 false
noncomputable def o48_15 : Array Oper := opsC (atC (bodyC Try.f48) [1, 1, 1, 1, 0, 1, 0, 0, 0, 0])
noncomputable def c48_15 : Code := .region 5 o48_15 false
noncomputable def c48_17 : Code := .skip
noncomputable def c48_18 : Code := .exit 0
noncomputable def c48_16 : Code := .cond (opdC (atC (bodyC Try.f48) [1, 1, 1, 1, 0, 1, 0, 0, 0, 1])) c48_17 c48_18
noncomputable def c48_14 : Code := .seq c48_15 c48_16
noncomputable def o48_22 : Array Oper := opsC (atC (bodyC Try.f48) [1, 1, 1, 1, 0, 1, 0, 0, 1, 0, 0, 0])
noncomputable def c48_22 : Code := .region 7 o48_22 false
noncomputable def o48_23 : Array Oper := opsC (atC (bodyC Try.f48) [1, 1, 1, 1, 0, 1, 0, 0, 1, 0, 0, 1])
noncomputable def c48_23 : Code := .region 8 o48_23 false
noncomputable def c48_21 : Code := .seq c48_22 c48_23
noncomputable def c48_20 : Code := .block 1 c48_21
noncomputable def o48_24 : Array Oper := opsC (atC (bodyC Try.f48) [1, 1, 1, 1, 0, 1, 0, 0, 1, 1])
noncomputable def c48_24 : Code := .region 6 o48_24 false
noncomputable def c48_19 : Code := .seq c48_20 c48_24
noncomputable def c48_13 : Code := .seq c48_14 c48_19
noncomputable def c48_12 : Code := .loop c48_13
noncomputable def c48_11 : Code := .block 0 c48_12
noncomputable def c48_9 : Code := .seq c48_10 c48_11
noncomputable def o48_26 : Array Oper := opsC (atC (bodyC Try.f48) [1, 1, 1, 1, 1, 0])
noncomputable def c48_26 : Code := .region 9 o48_26 false
noncomputable def c48_27 : Code := .ret
noncomputable def c48_25 : Code := .seq c48_26 c48_27
noncomputable def c48_8 : Code := .seq c48_9 c48_25
noncomputable def c48_6 : Code := .seq c48_7 c48_8
noncomputable def c48_4 : Code := .seq c48_5 c48_6
noncomputable def c48_2 : Code := .seq c48_3 c48_4
noncomputable def c48_0 : Code := .seq c48_1 c48_2
noncomputable def F48 : Func := { Try.f48 with body := some c48_0 }
theorem F48_eq : Try.f48 = F48 := rfl
theorem at48 : Try.prog.funcs[48]? = some F48 := by rw [← F48_eq]; exact Try.func48
noncomputable def o49_0 : Array Oper := opsC (atC (bodyC Try.f49) [])
noncomputable def c49_0 : Code := .region 0 o49_0 false
noncomputable def F49 : Func := { Try.f49 with body := some c49_0 }
theorem F49_eq : Try.f49 = F49 := rfl
theorem at49 : Try.prog.funcs[49]? = some F49 := by rw [← F49_eq]; exact Try.func49
noncomputable def o50_1 : Array Oper := opsC (atC (bodyC Try.f50) [0])
noncomputable def c50_1 : Code := .region 0 o50_1 false
noncomputable def o50_3 : Array Oper := opsC (atC (bodyC Try.f50) [1, 0])
noncomputable def c50_3 : Code := .region 1 o50_3 false
noncomputable def c50_4 : Code := .ret
noncomputable def c50_2 : Code := .seq c50_3 c50_4
noncomputable def c50_0 : Code := .seq c50_1 c50_2
noncomputable def F50 : Func := { Try.f50 with body := some c50_0 }
theorem F50_eq : Try.f50 = F50 := rfl
theorem at50 : Try.prog.funcs[50]? = some F50 := by rw [← F50_eq]; exact Try.func50
noncomputable def o51_1 : Array Oper := opsC (atC (bodyC Try.f51) [0])
noncomputable def c51_1 : Code := .region 0 o51_1 false
noncomputable def o51_4 : Array Oper := opsC (atC (bodyC Try.f51) [1, 0, 0])
noncomputable def c51_4 : Code := .region 1 o51_4 false
noncomputable def o51_7 : Array Oper := opsC (atC (bodyC Try.f51) [1, 0, 1, 0, 0])
noncomputable def c51_7 : Code := .region 2 o51_7 false
noncomputable def c51_8 : Code := .ret
noncomputable def c51_6 : Code := .seq c51_7 c51_8
noncomputable def c51_9 : Code := .skip
noncomputable def c51_5 : Code := .cond (opdC (atC (bodyC Try.f51) [1, 0, 1])) c51_6 c51_9
noncomputable def c51_3 : Code := .seq c51_4 c51_5
noncomputable def o51_11 : Array Oper := opsC (atC (bodyC Try.f51) [1, 1, 0])
noncomputable def c51_11 : Code := .region 3 o51_11 false
noncomputable def c51_12 : Code := .ret
noncomputable def c51_10 : Code := .seq c51_11 c51_12
noncomputable def c51_2 : Code := .seq c51_3 c51_10
noncomputable def c51_0 : Code := .seq c51_1 c51_2
noncomputable def F51 : Func := { Try.f51 with body := some c51_0 }
theorem F51_eq : Try.f51 = F51 := rfl
theorem at51 : Try.prog.funcs[51]? = some F51 := by rw [← F51_eq]; exact Try.func51
noncomputable def o52_1 : Array Oper := opsC (atC (bodyC Try.f52) [0])
noncomputable def c52_1 : Code := .region 0 o52_1 false
noncomputable def o52_3 : Array Oper := opsC (atC (bodyC Try.f52) [1, 0])
noncomputable def c52_3 : Code := .region 1 o52_3 false
noncomputable def c52_4 : Code := .ret
noncomputable def c52_2 : Code := .seq c52_3 c52_4
noncomputable def c52_0 : Code := .seq c52_1 c52_2
noncomputable def F52 : Func := { Try.f52 with body := some c52_0 }
theorem F52_eq : Try.f52 = F52 := rfl
theorem at52 : Try.prog.funcs[52]? = some F52 := by rw [← F52_eq]; exact Try.func52
noncomputable def o53_1 : Array Oper := opsC (atC (bodyC Try.f53) [0])
noncomputable def c53_1 : Code := .region 0 o53_1 false
noncomputable def o53_3 : Array Oper := opsC (atC (bodyC Try.f53) [1, 0])
noncomputable def c53_3 : Code := .region 1 o53_3 false
noncomputable def c53_4 : Code := .ret
noncomputable def c53_2 : Code := .seq c53_3 c53_4
noncomputable def c53_0 : Code := .seq c53_1 c53_2
noncomputable def F53 : Func := { Try.f53 with body := some c53_0 }
theorem F53_eq : Try.f53 = F53 := rfl
theorem at53 : Try.prog.funcs[53]? = some F53 := by rw [← F53_eq]; exact Try.func53
noncomputable def o54_1 : Array Oper := opsC (atC (bodyC Try.f54) [0])
noncomputable def c54_1 : Code := .region 0 o54_1 false
noncomputable def o54_3 : Array Oper := opsC (atC (bodyC Try.f54) [1, 0])
noncomputable def c54_3 : Code := .region 1 o54_3 false
noncomputable def o54_9 : Array Oper := opsC (atC (bodyC Try.f54) [1, 1, 0, 0, 0, 0, 0])
noncomputable def c54_9 : Code := .region 2 o54_9 true
noncomputable def c54_11 : Code := .skip
noncomputable def c54_12 : Code := .exit 0
noncomputable def c54_10 : Code := .cond (opdC (atC (bodyC Try.f54) [1, 1, 0, 0, 0, 0, 1])) c54_11 c54_12
noncomputable def c54_8 : Code := .seq c54_9 c54_10
noncomputable def o54_14 : Array Oper := opsC (atC (bodyC Try.f54) [1, 1, 0, 0, 0, 1, 0])
noncomputable def c54_14 : Code := .region 3 o54_14 false
noncomputable def c54_13 : Code := .block 1 c54_14
noncomputable def c54_7 : Code := .seq c54_8 c54_13
noncomputable def c54_6 : Code := .loop c54_7
noncomputable def c54_5 : Code := .block 0 c54_6
noncomputable def o54_16 : Array Oper := opsC (atC (bodyC Try.f54) [1, 1, 1, 0])
noncomputable def c54_16 : Code := .region 4 o54_16 false
noncomputable def c54_17 : Code := .ret
noncomputable def c54_15 : Code := .seq c54_16 c54_17
noncomputable def c54_4 : Code := .seq c54_5 c54_15
noncomputable def c54_2 : Code := .seq c54_3 c54_4
noncomputable def c54_0 : Code := .seq c54_1 c54_2
noncomputable def F54 : Func := { Try.f54 with body := some c54_0 }
theorem F54_eq : Try.f54 = F54 := rfl
theorem at54 : Try.prog.funcs[54]? = some F54 := by rw [← F54_eq]; exact Try.func54
noncomputable def o55_1 : Array Oper := opsC (atC (bodyC Try.f55) [0])
noncomputable def c55_1 : Code := .region 0 o55_1 false
noncomputable def o55_3 : Array Oper := opsC (atC (bodyC Try.f55) [1, 0])
noncomputable def c55_3 : Code := .region 1 o55_3 false
noncomputable def o55_9 : Array Oper := opsC (atC (bodyC Try.f55) [1, 1, 0, 0, 0, 0, 0])
noncomputable def c55_9 : Code := .region 2 o55_9 false
noncomputable def c55_11 : Code := .skip
noncomputable def c55_12 : Code := .exit 0
noncomputable def c55_10 : Code := .cond (opdC (atC (bodyC Try.f55) [1, 1, 0, 0, 0, 0, 1])) c55_11 c55_12
noncomputable def c55_8 : Code := .seq c55_9 c55_10
noncomputable def o55_15 : Array Oper := opsC (atC (bodyC Try.f55) [1, 1, 0, 0, 0, 1, 0, 0])
noncomputable def c55_15 : Code := .region 4 o55_15 false
noncomputable def c55_14 : Code := .block 1 c55_15
noncomputable def o55_16 : Array Oper := opsC (atC (bodyC Try.f55) [1, 1, 0, 0, 0, 1, 1])
noncomputable def c55_16 : Code := .region 3 o55_16 false
noncomputable def c55_13 : Code := .seq c55_14 c55_16
noncomputable def c55_7 : Code := .seq c55_8 c55_13
noncomputable def c55_6 : Code := .loop c55_7
noncomputable def c55_5 : Code := .block 0 c55_6
noncomputable def o55_18 : Array Oper := opsC (atC (bodyC Try.f55) [1, 1, 1, 0])
noncomputable def c55_18 : Code := .region 5 o55_18 false
noncomputable def c55_19 : Code := .ret
noncomputable def c55_17 : Code := .seq c55_18 c55_19
noncomputable def c55_4 : Code := .seq c55_5 c55_17
noncomputable def c55_2 : Code := .seq c55_3 c55_4
noncomputable def c55_0 : Code := .seq c55_1 c55_2
noncomputable def F55 : Func := { Try.f55 with body := some c55_0 }
theorem F55_eq : Try.f55 = F55 := rfl
theorem at55 : Try.prog.funcs[55]? = some F55 := by rw [← F55_eq]; exact Try.func55
noncomputable def o56_1 : Array Oper := opsC (atC (bodyC Try.f56) [0])
noncomputable def c56_1 : Code := .region 0 o56_1 false
noncomputable def o56_3 : Array Oper := opsC (atC (bodyC Try.f56) [1, 0])
noncomputable def c56_3 : Code := .region 1 o56_3 false
noncomputable def o56_9 : Array Oper := opsC (atC (bodyC Try.f56) [1, 1, 0, 0, 0, 0, 0])
noncomputable def c56_9 : Code := .region 2 o56_9 true
noncomputable def c56_11 : Code := .skip
noncomputable def c56_12 : Code := .exit 0
noncomputable def c56_10 : Code := .cond (opdC (atC (bodyC Try.f56) [1, 1, 0, 0, 0, 0, 1])) c56_11 c56_12
noncomputable def c56_8 : Code := .seq c56_9 c56_10
noncomputable def o56_14 : Array Oper := opsC (atC (bodyC Try.f56) [1, 1, 0, 0, 0, 1, 0])
noncomputable def c56_14 : Code := .region 3 o56_14 false
noncomputable def c56_13 : Code := .block 1 c56_14
noncomputable def c56_7 : Code := .seq c56_8 c56_13
noncomputable def c56_6 : Code := .loop c56_7
noncomputable def c56_5 : Code := .block 0 c56_6
noncomputable def o56_16 : Array Oper := opsC (atC (bodyC Try.f56) [1, 1, 1, 0])
noncomputable def c56_16 : Code := .region 4 o56_16 false
noncomputable def c56_17 : Code := .ret
noncomputable def c56_15 : Code := .seq c56_16 c56_17
noncomputable def c56_4 : Code := .seq c56_5 c56_15
noncomputable def c56_2 : Code := .seq c56_3 c56_4
noncomputable def c56_0 : Code := .seq c56_1 c56_2
noncomputable def F56 : Func := { Try.f56 with body := some c56_0 }
theorem F56_eq : Try.f56 = F56 := rfl
theorem at56 : Try.prog.funcs[56]? = some F56 := by rw [← F56_eq]; exact Try.func56
noncomputable def o57_1 : Array Oper := opsC (atC (bodyC Try.f57) [0])
noncomputable def c57_1 : Code := .region 0 o57_1 false
noncomputable def o57_3 : Array Oper := opsC (atC (bodyC Try.f57) [1, 0])
noncomputable def c57_3 : Code := .region 1 o57_3 false
noncomputable def o57_9 : Array Oper := opsC (atC (bodyC Try.f57) [1, 1, 0, 0, 0, 0, 0])
noncomputable def c57_9 : Code := .region 2 o57_9 false
noncomputable def c57_11 : Code := .skip
noncomputable def c57_12 : Code := .exit 0
noncomputable def c57_10 : Code := .cond (opdC (atC (bodyC Try.f57) [1, 1, 0, 0, 0, 0, 1])) c57_11 c57_12
noncomputable def c57_8 : Code := .seq c57_9 c57_10
noncomputable def o57_15 : Array Oper := opsC (atC (bodyC Try.f57) [1, 1, 0, 0, 0, 1, 0, 0])
noncomputable def c57_15 : Code := .region 3 o57_15 false
noncomputable def o57_16 : Array Oper := opsC (atC (bodyC Try.f57) [1, 1, 0, 0, 0, 1, 0, 1])
noncomputable def c57_16 : Code := .region 4 o57_16 false
noncomputable def c57_14 : Code := .seq c57_15 c57_16
noncomputable def c57_13 : Code := .block 1 c57_14
noncomputable def c57_7 : Code := .seq c57_8 c57_13
noncomputable def c57_6 : Code := .loop c57_7
noncomputable def c57_5 : Code := .block 0 c57_6
noncomputable def o57_18 : Array Oper := opsC (atC (bodyC Try.f57) [1, 1, 1, 0])
noncomputable def c57_18 : Code := .region 5 o57_18 false
noncomputable def c57_19 : Code := .ret
noncomputable def c57_17 : Code := .seq c57_18 c57_19
noncomputable def c57_4 : Code := .seq c57_5 c57_17
noncomputable def c57_2 : Code := .seq c57_3 c57_4
noncomputable def c57_0 : Code := .seq c57_1 c57_2
noncomputable def F57 : Func := { Try.f57 with body := some c57_0 }
theorem F57_eq : Try.f57 = F57 := rfl
theorem at57 : Try.prog.funcs[57]? = some F57 := by rw [← F57_eq]; exact Try.func57
noncomputable def o58_1 : Array Oper := opsC (atC (bodyC Try.f58) [0])
noncomputable def c58_1 : Code := .region 0 o58_1 false
noncomputable def o58_3 : Array Oper := opsC (atC (bodyC Try.f58) [1, 0])
noncomputable def c58_3 : Code := .region 1 o58_3 false
noncomputable def o58_6 : Array Oper := opsC (atC (bodyC Try.f58) [1, 1, 0, 0])
noncomputable def c58_6 : Code := .region 2 o58_6 false
noncomputable def o58_11 : Array Oper := opsC (atC (bodyC Try.f58) [1, 1, 0, 1, 0, 0, 0, 0])
noncomputable def c58_11 : Code := .region 3 o58_11 false
noncomputable def c58_13 : Code := .skip
noncomputable def c58_14 : Code := .exit 0
noncomputable def c58_12 : Code := .cond (opdC (atC (bodyC Try.f58) [1, 1, 0, 1, 0, 0, 0, 1])) c58_13 c58_14
noncomputable def c58_10 : Code := .seq c58_11 c58_12
noncomputable def o58_17 : Array Oper := opsC (atC (bodyC Try.f58) [1, 1, 0, 1, 0, 0, 1, 0, 0])
noncomputable def c58_17 : Code := .region 5 o58_17 false
noncomputable def c58_16 : Code := .block 1 c58_17
noncomputable def o58_18 : Array Oper := opsC (atC (bodyC Try.f58) [1, 1, 0, 1, 0, 0, 1, 1])
noncomputable def c58_18 : Code := .region 4 o58_18 false
noncomputable def c58_15 : Code := .seq c58_16 c58_18
noncomputable def c58_9 : Code := .seq c58_10 c58_15
noncomputable def c58_8 : Code := .loop c58_9
noncomputable def c58_7 : Code := .block 0 c58_8
noncomputable def c58_5 : Code := .seq c58_6 c58_7
noncomputable def o58_20 : Array Oper := opsC (atC (bodyC Try.f58) [1, 1, 1, 0])
noncomputable def c58_20 : Code := .region 6 o58_20 false
noncomputable def c58_21 : Code := .ret
noncomputable def c58_19 : Code := .seq c58_20 c58_21
noncomputable def c58_4 : Code := .seq c58_5 c58_19
noncomputable def c58_2 : Code := .seq c58_3 c58_4
noncomputable def c58_0 : Code := .seq c58_1 c58_2
noncomputable def F58 : Func := { Try.f58 with body := some c58_0 }
theorem F58_eq : Try.f58 = F58 := rfl
theorem at58 : Try.prog.funcs[58]? = some F58 := by rw [← F58_eq]; exact Try.func58
noncomputable def o59_1 : Array Oper := opsC (atC (bodyC Try.f59) [0])
noncomputable def c59_1 : Code := .region 0 o59_1 false
noncomputable def o59_4 : Array Oper := opsC (atC (bodyC Try.f59) [1, 0, 0])
noncomputable def c59_4 : Code := .region 1 o59_4 false
noncomputable def o59_7 : Array Oper := opsC (atC (bodyC Try.f59) [1, 0, 1, 0, 0])
noncomputable def c59_7 : Code := .region 2 o59_7 false
noncomputable def c59_8 : Code := .ret
noncomputable def c59_6 : Code := .seq c59_7 c59_8
noncomputable def c59_9 : Code := .skip
noncomputable def c59_5 : Code := .cond (opdC (atC (bodyC Try.f59) [1, 0, 1])) c59_6 c59_9
noncomputable def c59_3 : Code := .seq c59_4 c59_5
noncomputable def o59_11 : Array Oper := opsC (atC (bodyC Try.f59) [1, 1, 0])
noncomputable def c59_11 : Code := .region 3 o59_11 false
noncomputable def o59_14 : Array Oper := opsC (atC (bodyC Try.f59) [1, 1, 1, 0, 0])
noncomputable def c59_14 : Code := .region 4 o59_14 false
noncomputable def o59_18 : Array Oper := opsC (atC (bodyC Try.f59) [1, 1, 1, 0, 1, 0, 0, 0])
noncomputable def c59_18 : Code := .region 5 o59_18 false
noncomputable def c59_21 : Code := .skip
noncomputable def c59_22 : Code := .exit 0
noncomputable def c59_20 : Code := .cond (opdC (atC (bodyC Try.f59) [1, 1, 1, 0, 1, 0, 0, 1, 0])) c59_21 c59_22
noncomputable def o59_26 : Array Oper := opsC (atC (bodyC Try.f59) [1, 1, 1, 0, 1, 0, 0, 1, 1, 0, 0, 0])
noncomputable def c59_26 : Code := .region 6 o59_26 false
noncomputable def o59_27 : Array Oper := opsC (atC (bodyC Try.f59) [1, 1, 1, 0, 1, 0, 0, 1, 1, 0, 0, 1])
noncomputable def c59_27 : Code := .region 7 o59_27 false
noncomputable def c59_25 : Code := .seq c59_26 c59_27
noncomputable def c59_24 : Code := .block 1 c59_25
noncomputable def o59_28 : Array Oper := opsC (atC (bodyC Try.f59) [1, 1, 1, 0, 1, 0, 0, 1, 1, 1])
noncomputable def c59_28 : Code := .region 8 o59_28 false
noncomputable def c59_23 : Code := .seq c59_24 c59_28
noncomputable def c59_19 : Code := .seq c59_20 c59_23
noncomputable def c59_17 : Code := .seq c59_18 c59_19
noncomputable def c59_16 : Code := .loop c59_17
noncomputable def c59_15 : Code := .block 0 c59_16
noncomputable def c59_13 : Code := .seq c59_14 c59_15
noncomputable def o59_30 : Array Oper := opsC (atC (bodyC Try.f59) [1, 1, 1, 1, 0])
noncomputable def c59_30 : Code := .region 9 o59_30 false
noncomputable def c59_31 : Code := .ret
noncomputable def c59_29 : Code := .seq c59_30 c59_31
noncomputable def c59_12 : Code := .seq c59_13 c59_29
noncomputable def c59_10 : Code := .seq c59_11 c59_12
noncomputable def c59_2 : Code := .seq c59_3 c59_10
noncomputable def c59_0 : Code := .seq c59_1 c59_2
noncomputable def F59 : Func := { Try.f59 with body := some c59_0 }
theorem F59_eq : Try.f59 = F59 := rfl
theorem at59 : Try.prog.funcs[59]? = some F59 := by rw [← F59_eq]; exact Try.func59
noncomputable def o60_1 : Array Oper := opsC (atC (bodyC Try.f60) [0])
noncomputable def c60_1 : Code := .region 0 o60_1 false
noncomputable def o60_3 : Array Oper := opsC (atC (bodyC Try.f60) [1, 0])
noncomputable def c60_3 : Code := .region 1 o60_3 true
noncomputable def o60_5 : Array Oper := opsC (atC (bodyC Try.f60) [1, 1, 0])
noncomputable def c60_5 : Code := .region 2 o60_5 false
noncomputable def o60_8 : Array Oper := opsC (atC (bodyC Try.f60) [1, 1, 1, 0, 0])
noncomputable def c60_8 : Code := .region 3 o60_8 false
noncomputable def o60_11 : Array Oper := opsC (atC (bodyC Try.f60) [1, 1, 1, 0, 1, 0, 0])
noncomputable def c60_11 : Code := .region 4 o60_11 false
noncomputable def o60_13 : Array Oper := opsC (atC (bodyC Try.f60) [1, 1, 1, 0, 1, 0, 1, 0])
noncomputable def c60_13 : Code := .region 5 o60_13 false
noncomputable def c60_14 : Code := .ret
noncomputable def c60_12 : Code := .seq c60_13 c60_14
noncomputable def c60_10 : Code := .seq c60_11 c60_12
noncomputable def c60_15 : Code := .skip
noncomputable def c60_9 : Code := .cond (opdC (atC (bodyC Try.f60) [1, 1, 1, 0, 1])) c60_10 c60_15
noncomputable def c60_7 : Code := .seq c60_8 c60_9
noncomputable def o60_17 : Array Oper := opsC (atC (bodyC Try.f60) [1, 1, 1, 1, 0])
noncomputable def c60_17 : Code := .region 6 o60_17 false
noncomputable def c60_18 : Code := .ret
noncomputable def c60_16 : Code := .seq c60_17 c60_18
noncomputable def c60_6 : Code := .seq c60_7 c60_16
noncomputable def c60_4 : Code := .seq c60_5 c60_6
noncomputable def c60_2 : Code := .seq c60_3 c60_4
noncomputable def c60_0 : Code := .seq c60_1 c60_2
noncomputable def F60 : Func := { Try.f60 with body := some c60_0 }
theorem F60_eq : Try.f60 = F60 := rfl
theorem at60 : Try.prog.funcs[60]? = some F60 := by rw [← F60_eq]; exact Try.func60
noncomputable def o61_1 : Array Oper := opsC (atC (bodyC Try.f61) [0])
noncomputable def c61_1 : Code := .region 0 o61_1 false
noncomputable def o61_4 : Array Oper := opsC (atC (bodyC Try.f61) [1, 0, 0])
noncomputable def c61_4 : Code := .region 1 o61_4 true
noncomputable def o61_7 : Array Oper := opsC (atC (bodyC Try.f61) [1, 0, 1, 0, 0])
noncomputable def c61_7 : Code := .region 2 o61_7 false
noncomputable def o61_9 : Array Oper := opsC (atC (bodyC Try.f61) [1, 0, 1, 0, 1, 0])
noncomputable def c61_9 : Code := .region 3 o61_9 false
noncomputable def c61_10 : Code := .ret
noncomputable def c61_8 : Code := .seq c61_9 c61_10
noncomputable def c61_6 : Code := .seq c61_7 c61_8
noncomputable def c61_11 : Code := .skip
noncomputable def c61_5 : Code := .cond (opdC (atC (bodyC Try.f61) [1, 0, 1])) c61_6 c61_11
noncomputable def c61_3 : Code := .seq c61_4 c61_5
noncomputable def o61_13 : Array Oper := opsC (atC (bodyC Try.f61) [1, 1, 0])
noncomputable def c61_13 : Code := .region 4 o61_13 false
noncomputable def o61_15 : Array Oper := opsC (atC (bodyC Try.f61) [1, 1, 1, 0])
noncomputable def c61_15 : Code := .region 5 o61_15 true
noncomputable def c61_16 : Code := .ret
noncomputable def c61_14 : Code := .seq c61_15 c61_16
noncomputable def c61_12 : Code := .seq c61_13 c61_14
noncomputable def c61_2 : Code := .seq c61_3 c61_12
noncomputable def c61_0 : Code := .seq c61_1 c61_2
noncomputable def F61 : Func := { Try.f61 with body := some c61_0 }
theorem F61_eq : Try.f61 = F61 := rfl
theorem at61 : Try.prog.funcs[61]? = some F61 := by rw [← F61_eq]; exact Try.func61
noncomputable def o62_1 : Array Oper := opsC (atC (bodyC Try.f62) [0])
noncomputable def c62_1 : Code := .region 0 o62_1 false
noncomputable def o62_3 : Array Oper := opsC (atC (bodyC Try.f62) [1, 0])
noncomputable def c62_3 : Code := .region 1 o62_3 false
noncomputable def o62_5 : Array Oper := opsC (atC (bodyC Try.f62) [1, 1, 0])
noncomputable def c62_5 : Code := .region 2 o62_5 false
noncomputable def o62_12 : Array Oper := opsC (atC (bodyC Try.f62) [1, 1, 1, 0, 0, 0, 0, 0, 0])
noncomputable def c62_12 : Code := .region 4 o62_12 false
noncomputable def o62_15 : Array Oper := opsC (atC (bodyC Try.f62) [1, 1, 1, 0, 0, 0, 0, 0, 1, 0, 0])
noncomputable def c62_15 : Code := .region 5 o62_15 false
noncomputable def c62_16 : Code := .ret
noncomputable def c62_14 : Code := .seq c62_15 c62_16
noncomputable def c62_17 : Code := .skip
noncomputable def c62_13 : Code := .cond (opdC (atC (bodyC Try.f62) [1, 1, 1, 0, 0, 0, 0, 0, 1])) c62_14 c62_17
noncomputable def c62_11 : Code := .seq c62_12 c62_13
noncomputable def o62_19 : Array Oper := opsC (atC (bodyC Try.f62) [1, 1, 1, 0, 0, 0, 0, 1, 0])
noncomputable def c62_19 : Code := .region 6 o62_19 false
noncomputable def o62_22 : Array Oper := opsC (atC (bodyC Try.f62) [1, 1, 1, 0, 0, 0, 0, 1, 1, 0, 0])
noncomputable def c62_22 : Code := .region 7 o62_22 false
noncomputable def o62_25 : Array Oper := opsC (atC (bodyC Try.f62) [1, 1, 1, 0, 0, 0, 0, 1, 1, 0, 1, 0, 0])
noncomputable def c62_25 : Code := .region 8 o62_25 false
noncomputable def c62_26 : Code := .ret
noncomputable def c62_24 : Code := .seq c62_25 c62_26
noncomputable def c62_27 : Code := .skip
noncomputable def c62_23 : Code := .cond (opdC (atC (bodyC Try.f62) [1, 1, 1, 0, 0, 0, 0, 1, 1, 0, 1])) c62_24 c62_27
noncomputable def c62_21 : Code := .seq c62_22 c62_23
noncomputable def o62_29 : Array Oper := opsC (atC (bodyC Try.f62) [1, 1, 1, 0, 0, 0, 0, 1, 1, 1, 0])
noncomputable def c62_29 : Code := .region 9 o62_29 false
noncomputable def o62_31 : Array Oper := opsC (atC (bodyC Try.f62) [1, 1, 1, 0, 0, 0, 0, 1, 1, 1, 1, 0])
noncomputable def c62_31 : Code := .region 10 o62_31 false
noncomputable def o62_34 : Array Oper := opsC (atC (bodyC Try.f62) [1, 1, 1, 0, 0, 0, 0, 1, 1, 1, 1, 1, 0, 0])
noncomputable def c62_34 : Code := .region 11 o62_34 false
noncomputable def c62_35 : Code := .ret
noncomputable def c62_33 : Code := .seq c62_34 c62_35
noncomputable def c62_36 : Code := .skip
noncomputable def c62_32 : Code := .cond (opdC (atC (bodyC Try.f62) [1, 1, 1, 0, 0, 0, 0, 1, 1, 1, 1, 1])) c62_33 c62_36
noncomputable def c62_30 : Code := .seq c62_31 c62_32
noncomputable def c62_28 : Code := .seq c62_29 c62_30
noncomputable def c62_20 : Code := .seq c62_21 c62_28
noncomputable def c62_18 : Code := .seq c62_19 c62_20
noncomputable def c62_10 : Code := .seq c62_11 c62_18
noncomputable def c62_9 : Code := .block 1 c62_10
noncomputable def o62_37 : Array Oper := opsC (atC (bodyC Try.f62) [1, 1, 1, 0, 0, 1])
noncomputable def c62_37 : Code := .region 3 o62_37 false
noncomputable def c62_8 : Code := .seq c62_9 c62_37
noncomputable def c62_7 : Code := .loop c62_8
noncomputable def c62_6 : Code := .block 0 c62_7
noncomputable def c62_4 : Code := .seq c62_5 c62_6
noncomputable def c62_2 : Code := .seq c62_3 c62_4
noncomputable def c62_0 : Code := .seq c62_1 c62_2
noncomputable def F62 : Func := { Try.f62 with body := some c62_0 }
theorem F62_eq : Try.f62 = F62 := rfl
theorem at62 : Try.prog.funcs[62]? = some F62 := by rw [← F62_eq]; exact Try.func62
noncomputable def o63_1 : Array Oper := opsC (atC (bodyC Try.f63) [0])
noncomputable def c63_1 : Code := .region 0 o63_1 false
noncomputable def o63_3 : Array Oper := opsC (atC (bodyC Try.f63) [1, 0])
noncomputable def c63_3 : Code := .region 1 o63_3 false
noncomputable def c63_4 : Code := .ret
noncomputable def c63_2 : Code := .seq c63_3 c63_4
noncomputable def c63_0 : Code := .seq c63_1 c63_2
noncomputable def F63 : Func := { Try.f63 with body := some c63_0 }
theorem F63_eq : Try.f63 = F63 := rfl
theorem at63 : Try.prog.funcs[63]? = some F63 := by rw [← F63_eq]; exact Try.func63
noncomputable def o64_1 : Array Oper := opsC (atC (bodyC Try.f64) [0])
noncomputable def c64_1 : Code := .region 0 o64_1 false
noncomputable def o64_3 : Array Oper := opsC (atC (bodyC Try.f64) [1, 0])
noncomputable def c64_3 : Code := .region 1 o64_3 false
noncomputable def o64_5 : Array Oper := opsC (atC (bodyC Try.f64) [1, 1, 0])
noncomputable def c64_5 : Code := .region 2 o64_5 false
noncomputable def o64_8 : Array Oper := opsC (atC (bodyC Try.f64) [1, 1, 1, 0, 0])
noncomputable def c64_8 : Code := .region 3 o64_8 false
noncomputable def o64_11 : Array Oper := opsC (atC (bodyC Try.f64) [1, 1, 1, 0, 1, 0, 0])
noncomputable def c64_11 : Code := .region 4 o64_11 false
noncomputable def c64_12 : Code := .ret
noncomputable def c64_10 : Code := .seq c64_11 c64_12
noncomputable def c64_13 : Code := .skip
noncomputable def c64_9 : Code := .cond (opdC (atC (bodyC Try.f64) [1, 1, 1, 0, 1])) c64_10 c64_13
noncomputable def c64_7 : Code := .seq c64_8 c64_9
noncomputable def o64_15 : Array Oper := opsC (atC (bodyC Try.f64) [1, 1, 1, 1, 0])
noncomputable def c64_15 : Code := .region 5 o64_15 false
noncomputable def o64_27 : Array Oper := opsC (atC (bodyC Try.f64) [1, 1, 1, 1, 1, 0, 0, 0, 0, 0, 0, 0, 0, 0, 0, 0])
noncomputable def c64_27 : Code := .region 6 o64_27 false
noncomputable def c64_29 : Code := .exit 1
noncomputable def c64_30 : Code := .skip
noncomputable def c64_28 : Code := .cond (opdC (atC (bodyC Try.f64) [1, 1, 1, 1, 1, 0, 0, 0, 0, 0, 0, 0, 0, 0, 0, 1])) c64_29 c64_30
noncomputable def c64_26 : Code := .seq c64_27 c64_28
noncomputable def o64_33 : Array Oper := opsC (atC (bodyC Try.f64) [1, 1, 1, 1, 1, 0, 0, 0, 0, 0, 0, 0, 0, 0, 1, 0, 0])
noncomputable def c64_33 : Code := .region 7 o64_33 false
noncomputable def c64_35 : Code := .exit 2
noncomputable def c64_36 : Code := .skip
noncomputable def c64_34 : Code := .cond (opdC (atC (bodyC Try.f64) [1, 1, 1, 1, 1, 0, 0, 0, 0, 0, 0, 0, 0, 0, 1, 0, 1])) c64_35 c64_36
noncomputable def c64_32 : Code := .seq c64_33 c64_34
noncomputable def o64_38 : Array Oper := opsC (atC (bodyC Try.f64) [1, 1, 1, 1, 1, 0, 0, 0, 0, 0, 0, 0, 0, 0, 1, 1, 0])
noncomputable def c64_38 : Code := .region 8 o64_38 false
noncomputable def c64_40 : Code := .exit 3
noncomputable def c64_41 : Code := .skip
noncomputable def c64_39 : Code := .cond (opdC (atC (bodyC Try.f64) [1, 1, 1, 1, 1, 0, 0, 0, 0, 0, 0, 0, 0, 0, 1, 1, 1])) c64_40 c64_41
noncomputable def c64_37 : Code := .seq c64_38 c64_39
noncomputable def c64_31 : Code := .seq c64_32 c64_37
noncomputable def c64_25 : Code := .seq c64_26 c64_31
noncomputable def c64_42 : Code := .exit 0
noncomputable def c64_24 : Code := .seq c64_25 c64_42
noncomputable def c64_23 : Code := .block 1 c64_24
noncomputable def o64_44 : Array Oper := opsC (atC (bodyC Try.f64) [1, 1, 1, 1, 1, 0, 0, 0, 0, 0, 0, 1, 0])
noncomputable def c64_44 : Code := .region 9 o64_44 false
noncomputable def o64_46 : Array Oper := opsC (atC (bodyC Try.f64) [1, 1, 1, 1, 1, 0, 0, 0, 0, 0, 0, 1, 1, 0])
noncomputable def c64_46 : Code := .region 10 o64_46 false
noncomputable def c64_48 : Code := .exit 0
noncomputable def c64_49 : Code := .skip
noncomputable def c64_47 : Code := .cond (opdC (atC (bodyC Try.f64) [1, 1, 1, 1, 1, 0, 0, 0, 0, 0, 0, 1, 1, 1])) c64_48 c64_49
noncomputable def c64_45 : Code := .seq c64_46 c64_47
noncomputable def c64_43 : Code := .seq c64_44 c64_45
noncomputable def c64_22 : Code := .seq c64_23 c64_43
noncomputable def c64_21 : Code := .block 2 c64_22
noncomputable def o64_51 : Array Oper := opsC (atC (bodyC Try.f64) [1, 1, 1, 1, 1, 0, 0, 0, 0, 1, 0])
noncomputable def c64_51 : Code := .region 11 o64_51 false
noncomputable def o64_53 : Array Oper := opsC (atC (bodyC Try.f64) [1, 1, 1, 1, 1, 0, 0, 0, 0, 1, 1, 0])
noncomputable def c64_53 : Code := .region 12 o64_53 false
noncomputable def c64_55 : Code := .exit 0
noncomputable def c64_56 : Code := .skip
noncomputable def c64_54 : Code := .cond (opdC (atC (bodyC Try.f64) [1, 1, 1, 1, 1, 0, 0, 0, 0, 1, 1, 1])) c64_55 c64_56
noncomputable def c64_52 : Code := .seq c64_53 c64_54
noncomputable def c64_50 : Code := .seq c64_51 c64_52
noncomputable def c64_20 : Code := .seq c64_21 c64_50
noncomputable def c64_19 : Code := .block 3 c64_20
noncomputable def o64_58 : Array Oper := opsC (atC (bodyC Try.f64) [1, 1, 1, 1, 1, 0, 0, 1, 0])
noncomputable def c64_58 : Code := .region 13 o64_58 false
noncomputable def c64_59 : Code := .exit 0
noncomputable def c64_57 : Code := .seq c64_58 c64_59
noncomputable def c64_18 : Code := .seq c64_19 c64_57
noncomputable def c64_17 : Code := .block 0 c64_18
noncomputable def o64_61 : Array Oper := opsC (atC (bodyC Try.f64) [1, 1, 1, 1, 1, 1, 0])
noncomputable def c64_61 : Code := .region 14 o64_61 false
noncomputable def c64_62 : Code := .ret
noncomputable def c64_60 : Code := .seq c64_61 c64_62
noncomputable def c64_16 : Code := .seq c64_17 c64_60
noncomputable def c64_14 : Code := .seq c64_15 c64_16
noncomputable def c64_6 : Code := .seq c64_7 c64_14
noncomputable def c64_4 : Code := .seq c64_5 c64_6
noncomputable def c64_2 : Code := .seq c64_3 c64_4
noncomputable def c64_0 : Code := .seq c64_1 c64_2
noncomputable def F64 : Func := { Try.f64 with body := some c64_0 }
theorem F64_eq : Try.f64 = F64 := rfl
theorem at64 : Try.prog.funcs[64]? = some F64 := by rw [← F64_eq]; exact Try.func64
noncomputable def o65_1 : Array Oper := opsC (atC (bodyC Try.f65) [0])
noncomputable def c65_1 : Code := .region 0 o65_1 false
noncomputable def o65_3 : Array Oper := opsC (atC (bodyC Try.f65) [1, 0])
noncomputable def c65_3 : Code := .region 1 o65_3 false
noncomputable def o65_6 : Array Oper := opsC (atC (bodyC Try.f65) [1, 1, 0, 0])
noncomputable def c65_6 : Code := .region 2 o65_6 false
noncomputable def o65_10 : Array Oper := opsC (atC (bodyC Try.f65) [1, 1, 0, 1, 0, 0, 0])
noncomputable def c65_10 : Code := .region 3 o65_10 false
noncomputable def c65_13 : Code := .skip
noncomputable def c65_14 : Code := .exit 0
noncomputable def c65_12 : Code := .cond (opdC (atC (bodyC Try.f65) [1, 1, 0, 1, 0, 0, 1, 0])) c65_13 c65_14
noncomputable def o65_18 : Array Oper := opsC (atC (bodyC Try.f65) [1, 1, 0, 1, 0, 0, 1, 1, 0, 0, 0])
noncomputable def c65_18 : Code := .region 4 o65_18 false
noncomputable def o65_20 : Array Oper := opsC (atC (bodyC Try.f65) [1, 1, 0, 1, 0, 0, 1, 1, 0, 0, 1, 0])
noncomputable def c65_20 : Code := .region 5 o65_20 false
noncomputable def o65_22 : Array Oper := opsC (atC (bodyC Try.f65) [1, 1, 0, 1, 0, 0, 1, 1, 0, 0, 1, 1, 0])
noncomputable def c65_22 : Code := .region 6 o65_22 false
noncomputable def o65_26 : Array Oper := opsC (atC (bodyC Try.f65) [1, 1, 0, 1, 0, 0, 1, 1, 0, 0, 1, 1, 1, 0, 0, 0])
noncomputable def c65_26 : Code := .region 7 o65_26 false
noncomputable def c65_29 : Code := .skip
noncomputable def c65_30 : Code := .exit 2
noncomputable def c65_28 : Code := .cond (opdC (atC (bodyC Try.f65) [1, 1, 0, 1, 0, 0, 1, 1, 0, 0, 1, 1, 1, 0, 0, 1, 0])) c65_29 c65_30
noncomputable def o65_33 : Array Oper := opsC (atC (bodyC Try.f65) [1, 1, 0, 1, 0, 0, 1, 1, 0, 0, 1, 1, 1, 0, 0, 1, 1, 0, 0])
noncomputable def c65_33 : Code := .region 8 o65_33 false
noncomputable def c65_32 : Code := .block 3 c65_33
noncomputable def o65_34 : Array Oper := opsC (atC (bodyC Try.f65) [1, 1, 0, 1, 0, 0, 1, 1, 0, 0, 1, 1, 1, 0, 0, 1, 1, 1])
noncomputable def c65_34 : Code := .region 9 o65_34 false
noncomputable def c65_31 : Code := .seq c65_32 c65_34
noncomputable def c65_27 : Code := .seq c65_28 c65_31
noncomputable def c65_25 : Code := .seq c65_26 c65_27
noncomputable def c65_24 : Code := .loop c65_25
noncomputable def c65_23 : Code := .block 2 c65_24
noncomputable def c65_21 : Code := .seq c65_22 c65_23
noncomputable def c65_19 : Code := .seq c65_20 c65_21
noncomputable def c65_17 : Code := .seq c65_18 c65_19
noncomputable def c65_16 : Code := .block 1 c65_17
noncomputable def o65_35 : Array Oper := opsC (atC (bodyC Try.f65) [1, 1, 0, 1, 0, 0, 1, 1, 1])
noncomputable def c65_35 : Code := .region 10 o65_35 false
noncomputable def c65_15 : Code := .seq c65_16 c65_35
noncomputable def c65_11 : Code := .seq c65_12 c65_15
noncomputable def c65_9 : Code := .seq c65_10 c65_11
noncomputable def c65_8 : Code := .loop c65_9
noncomputable def c65_7 : Code := .block 0 c65_8
noncomputable def c65_5 : Code := .seq c65_6 c65_7
noncomputable def o65_37 : Array Oper := opsC (atC (bodyC Try.f65) [1, 1, 1, 0])
noncomputable def c65_37 : Code := .region 11 o65_37 false
noncomputable def c65_38 : Code := .ret
noncomputable def c65_36 : Code := .seq c65_37 c65_38
noncomputable def c65_4 : Code := .seq c65_5 c65_36
noncomputable def c65_2 : Code := .seq c65_3 c65_4
noncomputable def c65_0 : Code := .seq c65_1 c65_2
noncomputable def F65 : Func := { Try.f65 with body := some c65_0 }
theorem F65_eq : Try.f65 = F65 := rfl
theorem at65 : Try.prog.funcs[65]? = some F65 := by rw [← F65_eq]; exact Try.func65
noncomputable def o66_1 : Array Oper := opsC (atC (bodyC Try.f66) [0])
noncomputable def c66_1 : Code := .region 0 o66_1 false
noncomputable def o66_3 : Array Oper := opsC (atC (bodyC Try.f66) [1, 0])
noncomputable def c66_3 : Code := .region 1 o66_3 false
noncomputable def o66_5 : Array Oper := opsC (atC (bodyC Try.f66) [1, 1, 0])
noncomputable def c66_5 : Code := .region 2 o66_5 false
noncomputable def c66_6 : Code := .ret
noncomputable def c66_4 : Code := .seq c66_5 c66_6
noncomputable def c66_2 : Code := .seq c66_3 c66_4
noncomputable def c66_0 : Code := .seq c66_1 c66_2
noncomputable def F66 : Func := { Try.f66 with body := some c66_0 }
theorem F66_eq : Try.f66 = F66 := rfl
theorem at66 : Try.prog.funcs[66]? = some F66 := by rw [← F66_eq]; exact Try.func66
noncomputable def o67_1 : Array Oper := opsC (atC (bodyC Try.f67) [0])
noncomputable def c67_1 : Code := .region 0 o67_1 false
noncomputable def o67_3 : Array Oper := opsC (atC (bodyC Try.f67) [1, 0])
noncomputable def c67_3 : Code := .region 1 o67_3 false
noncomputable def o67_6 : Array Oper := opsC (atC (bodyC Try.f67) [1, 1, 0, 0])
noncomputable def c67_6 : Code := .region 2 o67_6 false
noncomputable def o67_11 : Array Oper := opsC (atC (bodyC Try.f67) [1, 1, 0, 1, 0, 0, 0, 0])
noncomputable def c67_11 : Code := .region 3 o67_11 false
noncomputable def c67_13 : Code := .skip
noncomputable def c67_14 : Code := .exit 0
noncomputable def c67_12 : Code := .cond (opdC (atC (bodyC Try.f67) [1, 1, 0, 1, 0, 0, 0, 1])) c67_13 c67_14
noncomputable def c67_10 : Code := .seq c67_11 c67_12
noncomputable def o67_18 : Array Oper := opsC (atC (bodyC Try.f67) [1, 1, 0, 1, 0, 0, 1, 0, 0, 0])
noncomputable def c67_18 : Code := .region 5 o67_18 false
noncomputable def o67_20 : Array Oper := opsC (atC (bodyC Try.f67) [1, 1, 0, 1, 0, 0, 1, 0, 0, 1, 0])
noncomputable def c67_20 : Code := .region 6 o67_20 false
noncomputable def o67_25 : Array Oper := opsC (atC (bodyC Try.f67) [1, 1, 0, 1, 0, 0, 1, 0, 0, 1, 1, 0, 0, 0, 0])
noncomputable def c67_25 : Code := .region 7 o67_25 false
noncomputable def c67_27 : Code := .skip
noncomputable def c67_28 : Code := .exit 2
noncomputable def c67_26 : Code := .cond (opdC (atC (bodyC Try.f67) [1, 1, 0, 1, 0, 0, 1, 0, 0, 1, 1, 0, 0, 0, 1])) c67_27 c67_28
noncomputable def c67_24 : Code := .seq c67_25 c67_26
noncomputable def o67_32 : Array Oper := opsC (atC (bodyC Try.f67) [1, 1, 0, 1, 0, 0, 1, 0, 0, 1, 1, 0, 0, 1, 0, 0, 0])
noncomputable def c67_32 : Code := .region 9 o67_32 false
noncomputable def o67_34 : Array Oper := opsC (atC (bodyC Try.f67) [1, 1, 0, 1, 0, 0, 1, 0, 0, 1, 1, 0, 0, 1, 0, 0, 1, 0])
noncomputable def c67_34 : Code := .region 10 o67_34 false
noncomputable def o67_35 : Array Oper := opsC (atC (bodyC Try.f67) [1, 1, 0, 1, 0, 0, 1, 0, 0, 1, 1, 0, 0, 1, 0, 0, 1, 1])
noncomputable def c67_35 : Code := .region 11 o67_35 false
noncomputable def c67_33 : Code := .cond (opdC (atC (bodyC Try.f67) [1, 1, 0, 1, 0, 0, 1, 0, 0, 1, 1, 0, 0, 1, 0, 0, 1])) c67_34 c67_35
noncomputable def c67_31 : Code := .seq c67_32 c67_33
noncomputable def c67_30 : Code := .block 3 c67_31
noncomputable def o67_36 : Array Oper := opsC (atC (bodyC Try.f67) [1, 1, 0, 1, 0, 0, 1, 0, 0, 1, 1, 0, 0, 1, 1])
noncomputable def c67_36 : Code := .region 8 o67_36 false
noncomputable def c67_29 : Code := .seq c67_30 c67_36
noncomputable def c67_23 : Code := .seq c67_24 c67_29
noncomputable def c67_22 : Code := .loop c67_23
noncomputable def c67_21 : Code := .block 2 c67_22
noncomputable def c67_19 : Code := .seq c67_20 c67_21
noncomputable def c67_17 : Code := .seq c67_18 c67_19
noncomputable def c67_16 : Code := .block 1 c67_17
noncomputable def o67_37 : Array Oper := opsC (atC (bodyC Try.f67) [1, 1, 0, 1, 0, 0, 1, 1])
noncomputable def c67_37 : Code := .region 4 o67_37 false
noncomputable def c67_15 : Code := .seq c67_16 c67_37
noncomputable def c67_9 : Code := .seq c67_10 c67_15
noncomputable def c67_8 : Code := .loop c67_9
noncomputable def c67_7 : Code := .block 0 c67_8
noncomputable def c67_5 : Code := .seq c67_6 c67_7
noncomputable def o67_39 : Array Oper := opsC (atC (bodyC Try.f67) [1, 1, 1, 0])
noncomputable def c67_39 : Code := .region 12 o67_39 false
noncomputable def c67_40 : Code := .ret
noncomputable def c67_38 : Code := .seq c67_39 c67_40
noncomputable def c67_4 : Code := .seq c67_5 c67_38
noncomputable def c67_2 : Code := .seq c67_3 c67_4
noncomputable def c67_0 : Code := .seq c67_1 c67_2
noncomputable def F67 : Func := { Try.f67 with body := some c67_0 }
theorem F67_eq : Try.f67 = F67 := rfl
theorem at67 : Try.prog.funcs[67]? = some F67 := by rw [← F67_eq]; exact Try.func67
noncomputable def o68_1 : Array Oper := opsC (atC (bodyC Try.f68) [0])
noncomputable def c68_1 : Code := .region 0 o68_1 false
noncomputable def o68_3 : Array Oper := opsC (atC (bodyC Try.f68) [1, 0])
noncomputable def c68_3 : Code := .region 1 o68_3 false
noncomputable def o68_6 : Array Oper := opsC (atC (bodyC Try.f68) [1, 1, 0, 0])
noncomputable def c68_6 : Code := .region 2 o68_6 false
noncomputable def o68_10 : Array Oper := opsC (atC (bodyC Try.f68) [1, 1, 0, 1, 0, 0, 0])
noncomputable def c68_10 : Code := .region 3 o68_10 false
noncomputable def c68_13 : Code := .skip
noncomputable def c68_14 : Code := .exit 0
noncomputable def c68_12 : Code := .cond (opdC (atC (bodyC Try.f68) [1, 1, 0, 1, 0, 0, 1, 0])) c68_13 c68_14
noncomputable def o68_18 : Array Oper := opsC (atC (bodyC Try.f68) [1, 1, 0, 1, 0, 0, 1, 1, 0, 0, 0])
noncomputable def c68_18 : Code := .region 4 o68_18 false
noncomputable def o68_19 : Array Oper := opsC (atC (bodyC Try.f68) [1, 1, 0, 1, 0, 0, 1, 1, 0, 0, 1])
noncomputable def c68_19 : Code := .region 5 o68_19 false
noncomputable def c68_17 : Code := .seq c68_18 c68_19
noncomputable def c68_16 : Code := .block 1 c68_17
noncomputable def o68_20 : Array Oper := opsC (atC (bodyC Try.f68) [1, 1, 0, 1, 0, 0, 1, 1, 1])
noncomputable def c68_20 : Code := .region 6 o68_20 false
noncomputable def c68_15 : Code := .seq c68_16 c68_20
noncomputable def c68_11 : Code := .seq c68_12 c68_15
noncomputable def c68_9 : Code := .seq c68_10 c68_11
noncomputable def c68_8 : Code := .loop c68_9
noncomputable def c68_7 : Code := .block 0 c68_8
noncomputable def c68_5 : Code := .seq c68_6 c68_7
noncomputable def o68_22 : Array Oper := opsC (atC (bodyC Try.f68) [1, 1, 1, 0])
noncomputable def c68_22 : Code := .region 7 o68_22 false
noncomputable def c68_23 : Code := .ret
noncomputable def c68_21 : Code := .seq c68_22 c68_23
noncomputable def c68_4 : Code := .seq c68_5 c68_21
noncomputable def c68_2 : Code := .seq c68_3 c68_4
noncomputable def c68_0 : Code := .seq c68_1 c68_2
noncomputable def F68 : Func := { Try.f68 with body := some c68_0 }
theorem F68_eq : Try.f68 = F68 := rfl
theorem at68 : Try.prog.funcs[68]? = some F68 := by rw [← F68_eq]; exact Try.func68
noncomputable def o69_1 : Array Oper := opsC (atC (bodyC Try.f69) [0])
noncomputable def c69_1 : Code := .region 0 o69_1 false
noncomputable def o69_3 : Array Oper := opsC (atC (bodyC Try.f69) [1, 0])
noncomputable def c69_3 : Code := .region 1 o69_3 false
noncomputable def o69_6 : Array Oper := opsC (atC (bodyC Try.f69) [1, 1, 0, 0])
noncomputable def c69_6 : Code := .region 2 o69_6 false
noncomputable def o69_10 : Array Oper := opsC (atC (bodyC Try.f69) [1, 1, 0, 1, 0, 0, 0])
noncomputable def c69_10 : Code := .region 3 o69_10 false
noncomputable def c69_13 : Code := .skip
noncomputable def c69_14 : Code := .exit 0
noncomputable def c69_12 : Code := .cond (opdC (atC (bodyC Try.f69) [1, 1, 0, 1, 0, 0, 1, 0])) c69_13 c69_14
noncomputable def o69_18 : Array Oper := opsC (atC (bodyC Try.f69) [1, 1, 0, 1, 0, 0, 1, 1, 0, 0, 0])
noncomputable def c69_18 : Code := .region 4 o69_18 false
noncomputable def o69_21 : Array Oper := opsC (atC (bodyC Try.f69) [1, 1, 0, 1, 0, 0, 1, 1, 0, 0, 1, 0, 0])
noncomputable def c69_21 : Code := .region 5 o69_21 false
noncomputable def o69_24 : Array Oper := opsC (atC (bodyC Try.f69) [1, 1, 0, 1, 0, 0, 1, 1, 0, 0, 1, 0, 1, 0, 0])
noncomputable def c69_24 : Code := .region 6 o69_24 false
noncomputable def c69_25 : Code := .ret
noncomputable def c69_23 : Code := .seq c69_24 c69_25
noncomputable def c69_26 : Code := .skip
noncomputable def c69_22 : Code := .cond (opdC (atC (bodyC Try.f69) [1, 1, 0, 1, 0, 0, 1, 1, 0, 0, 1, 0, 1])) c69_23 c69_26
noncomputable def c69_20 : Code := .seq c69_21 c69_22
noncomputable def o69_28 : Array Oper := opsC (atC (bodyC Try.f69) [1, 1, 0, 1, 0, 0, 1, 1, 0, 0, 1, 1, 0])
noncomputable def c69_28 : Code := .region 7 o69_28 false
noncomputable def o69_30 : Array Oper := opsC (atC (bodyC Try.f69) [1, 1, 0, 1, 0, 0, 1, 1, 0, 0, 1, 1, 1, 0])
noncomputable def c69_30 : Code := .region 8 o69_30 false
noncomputable def o69_33 : Array Oper := opsC (atC (bodyC Try.f69) [1, 1, 0, 1, 0, 0, 1, 1, 0, 0, 1, 1, 1, 1, 0, 0])
noncomputable def c69_33 : Code := .region 9 o69_33 false
noncomputable def c69_34 : Code := .ret
noncomputable def c69_32 : Code := .seq c69_33 c69_34
noncomputable def c69_35 : Code := .skip
noncomputable def c69_31 : Code := .cond (opdC (atC (bodyC Try.f69) [1, 1, 0, 1, 0, 0, 1, 1, 0, 0, 1, 1, 1, 1])) c69_32 c69_35
noncomputable def c69_29 : Code := .seq c69_30 c69_31
noncomputable def c69_27 : Code := .seq c69_28 c69_29
noncomputable def c69_19 : Code := .seq c69_20 c69_27
noncomputable def c69_17 : Code := .seq c69_18 c69_19
noncomputable def c69_16 : Code := .block 1 c69_17
noncomputable def o69_36 : Array Oper := opsC (atC (bodyC Try.f69) [1, 1, 0, 1, 0, 0, 1, 1, 1])
noncomputable def c69_36 : Code := .region 10 o69_36 false
noncomputable def c69_15 : Code := .seq c69_16 c69_36
noncomputable def c69_11 : Code := .seq c69_12 c69_15
noncomputable def c69_9 : Code := .seq c69_10 c69_11
noncomputable def c69_8 : Code := .loop c69_9
noncomputable def c69_7 : Code := .block 0 c69_8
noncomputable def c69_5 : Code := .seq c69_6 c69_7
noncomputable def o69_38 : Array Oper := opsC (atC (bodyC Try.f69) [1, 1, 1, 0])
noncomputable def c69_38 : Code := .region 11 o69_38 false
noncomputable def c69_39 : Code := .ret
noncomputable def c69_37 : Code := .seq c69_38 c69_39
noncomputable def c69_4 : Code := .seq c69_5 c69_37
noncomputable def c69_2 : Code := .seq c69_3 c69_4
noncomputable def c69_0 : Code := .seq c69_1 c69_2
noncomputable def F69 : Func := { Try.f69 with body := some c69_0 }
theorem F69_eq : Try.f69 = F69 := rfl
theorem at69 : Try.prog.funcs[69]? = some F69 := by rw [← F69_eq]; exact Try.func69
noncomputable def o70_1 : Array Oper := opsC (atC (bodyC Try.f70) [0])
noncomputable def c70_1 : Code := .region 0 o70_1 false
noncomputable def o70_3 : Array Oper := opsC (atC (bodyC Try.f70) [1, 0])
noncomputable def c70_3 : Code := .region 1 o70_3 false
noncomputable def c70_4 : Code := .ret
noncomputable def c70_2 : Code := .seq c70_3 c70_4
noncomputable def c70_0 : Code := .seq c70_1 c70_2
noncomputable def F70 : Func := { Try.f70 with body := some c70_0 }
theorem F70_eq : Try.f70 = F70 := rfl
theorem at70 : Try.prog.funcs[70]? = some F70 := by rw [← F70_eq]; exact Try.func70
noncomputable def o71_1 : Array Oper := opsC (atC (bodyC Try.f71) [0])
noncomputable def c71_1 : Code := .region 0 o71_1 false
noncomputable def o71_3 : Array Oper := opsC (atC (bodyC Try.f71) [1, 0])
noncomputable def c71_3 : Code := .region 1 o71_3 false
noncomputable def o71_5 : Array Oper := opsC (atC (bodyC Try.f71) [1, 1, 0])
noncomputable def c71_5 : Code := .region 2 o71_5 false
noncomputable def o71_8 : Array Oper := opsC (atC (bodyC Try.f71) [1, 1, 1, 0, 0])
noncomputable def c71_8 : Code := .region 3 o71_8 false
noncomputable def o71_12 : Array Oper := opsC (atC (bodyC Try.f71) [1, 1, 1, 0, 1, 0, 0, 0])
noncomputable def c71_12 : Code := .region 4 o71_12 false
noncomputable def o71_15 : Array Oper := opsC (atC (bodyC Try.f71) [1, 1, 1, 0, 1, 0, 0, 1, 0, 0])
noncomputable def c71_15 : Code := .region 5 o71_15 false
noncomputable def c71_16 : Code := .ret
noncomputable def c71_14 : Code := .seq c71_15 c71_16
noncomputable def c71_17 : Code := .skip
noncomputable def c71_13 : Code := .cond (opdC (atC (bodyC Try.f71) [1, 1, 1, 0, 1, 0, 0, 1])) c71_14 c71_17
noncomputable def c71_11 : Code := .seq c71_12 c71_13
noncomputable def o71_19 : Array Oper := opsC (atC (bodyC Try.f71) [1, 1, 1, 0, 1, 0, 1, 0])
noncomputable def c71_19 : Code := .region 6 o71_19 false
noncomputable def c71_20 : Code := .ret
noncomputable def c71_18 : Code := .seq c71_19 c71_20
noncomputable def c71_10 : Code := .seq c71_11 c71_18
noncomputable def c71_21 : Code := .skip
noncomputable def c71_9 : Code := .cond (opdC (atC (bodyC Try.f71) [1, 1, 1, 0, 1])) c71_10 c71_21
noncomputable def c71_7 : Code := .seq c71_8 c71_9
noncomputable def o71_24 : Array Oper := opsC (atC (bodyC Try.f71) [1, 1, 1, 1, 0, 0])
noncomputable def c71_24 : Code := .region 7 o71_24 false
noncomputable def o71_27 : Array Oper := opsC (atC (bodyC Try.f71) [1, 1, 1, 1, 0, 1, 0, 0])
noncomputable def c71_27 : Code := .region 8 o71_27 false
noncomputable def c71_28 : Code := .ret
noncomputable def c71_26 : Code := .seq c71_27 c71_28
noncomputable def c71_29 : Code := .skip
noncomputable def c71_25 : Code := .cond (opdC (atC (bodyC Try.f71) [1, 1, 1, 1, 0, 1])) c71_26 c71_29
noncomputable def c71_23 : Code := .seq c71_24 c71_25
noncomputable def o71_32 : Array Oper := opsC (atC (bodyC Try.f71) [1, 1, 1, 1, 1, 0, 0])
noncomputable def c71_32 : Code := .region 9 o71_32 false
noncomputable def o71_35 : Array Oper := opsC (atC (bodyC Try.f71) [1, 1, 1, 1, 1, 0, 1, 0, 0])
noncomputable def c71_35 : Code := .region 10 o71_35 false
noncomputable def c71_36 : Code := .ret
noncomputable def c71_34 : Code := .seq c71_35 c71_36
noncomputable def c71_37 : Code := .skip
noncomputable def c71_33 : Code := .cond (opdC (atC (bodyC Try.f71) [1, 1, 1, 1, 1, 0, 1])) c71_34 c71_37
noncomputable def c71_31 : Code := .seq c71_32 c71_33
noncomputable def o71_40 : Array Oper := opsC (atC (bodyC Try.f71) [1, 1, 1, 1, 1, 1, 0, 0])
noncomputable def c71_40 : Code := .region 11 o71_40 false
noncomputable def o71_43 : Array Oper := opsC (atC (bodyC Try.f71) [1, 1, 1, 1, 1, 1, 0, 1, 0, 0])
noncomputable def c71_43 : Code := .region 12 o71_43 false
noncomputable def c71_44 : Code := .ret
noncomputable def c71_42 : Code := .seq c71_43 c71_44
noncomputable def c71_45 : Code := .skip
noncomputable def c71_41 : Code := .cond (opdC (atC (bodyC Try.f71) [1, 1, 1, 1, 1, 1, 0, 1])) c71_42 c71_45
noncomputable def c71_39 : Code := .seq c71_40 c71_41
noncomputable def o71_47 : Array Oper := opsC (atC (bodyC Try.f71) [1, 1, 1, 1, 1, 1, 1, 0])
noncomputable def c71_47 : Code := .region 13 o71_47 false
noncomputable def c71_48 : Code := .ret
noncomputable def c71_46 : Code := .seq c71_47 c71_48
noncomputable def c71_38 : Code := .seq c71_39 c71_46
noncomputable def c71_30 : Code := .seq c71_31 c71_38
noncomputable def c71_22 : Code := .seq c71_23 c71_30
noncomputable def c71_6 : Code := .seq c71_7 c71_22
noncomputable def c71_4 : Code := .seq c71_5 c71_6
noncomputable def c71_2 : Code := .seq c71_3 c71_4
noncomputable def c71_0 : Code := .seq c71_1 c71_2
noncomputable def F71 : Func := { Try.f71 with body := some c71_0 }
theorem F71_eq : Try.f71 = F71 := rfl
theorem at71 : Try.prog.funcs[71]? = some F71 := by rw [← F71_eq]; exact Try.func71
noncomputable def o72_1 : Array Oper := opsC (atC (bodyC Try.f72) [0])
noncomputable def c72_1 : Code := .region 0 o72_1 false
noncomputable def o72_3 : Array Oper := opsC (atC (bodyC Try.f72) [1, 0])
noncomputable def c72_3 : Code := .region 1 o72_3 false
noncomputable def o72_5 : Array Oper := opsC (atC (bodyC Try.f72) [1, 1, 0])
noncomputable def c72_5 : Code := .region 2 o72_5 false
noncomputable def o72_8 : Array Oper := opsC (atC (bodyC Try.f72) [1, 1, 1, 0, 0])
noncomputable def c72_8 : Code := .region 3 o72_8 false
noncomputable def o72_12 : Array Oper := opsC (atC (bodyC Try.f72) [1, 1, 1, 0, 1, 0, 0, 0])
noncomputable def c72_12 : Code := .region 4 o72_12 false
noncomputable def o72_15 : Array Oper := opsC (atC (bodyC Try.f72) [1, 1, 1, 0, 1, 0, 0, 1, 0, 0])
noncomputable def c72_15 : Code := .region 5 o72_15 false
noncomputable def c72_16 : Code := .ret
noncomputable def c72_14 : Code := .seq c72_15 c72_16
noncomputable def c72_17 : Code := .skip
noncomputable def c72_13 : Code := .cond (opdC (atC (bodyC Try.f72) [1, 1, 1, 0, 1, 0, 0, 1])) c72_14 c72_17
noncomputable def c72_11 : Code := .seq c72_12 c72_13
noncomputable def o72_19 : Array Oper := opsC (atC (bodyC Try.f72) [1, 1, 1, 0, 1, 0, 1, 0])
noncomputable def c72_19 : Code := .region 6 o72_19 false
noncomputable def c72_20 : Code := .ret
noncomputable def c72_18 : Code := .seq c72_19 c72_20
noncomputable def c72_10 : Code := .seq c72_11 c72_18
noncomputable def c72_21 : Code := .skip
noncomputable def c72_9 : Code := .cond (opdC (atC (bodyC Try.f72) [1, 1, 1, 0, 1])) c72_10 c72_21
noncomputable def c72_7 : Code := .seq c72_8 c72_9
noncomputable def o72_24 : Array Oper := opsC (atC (bodyC Try.f72) [1, 1, 1, 1, 0, 0])
noncomputable def c72_24 : Code := .region 7 o72_24 false
noncomputable def o72_27 : Array Oper := opsC (atC (bodyC Try.f72) [1, 1, 1, 1, 0, 1, 0, 0])
noncomputable def c72_27 : Code := .region 8 o72_27 false
noncomputable def c72_28 : Code := .ret
noncomputable def c72_26 : Code := .seq c72_27 c72_28
noncomputable def c72_29 : Code := .skip
noncomputable def c72_25 : Code := .cond (opdC (atC (bodyC Try.f72) [1, 1, 1, 1, 0, 1])) c72_26 c72_29
noncomputable def c72_23 : Code := .seq c72_24 c72_25
noncomputable def o72_32 : Array Oper := opsC (atC (bodyC Try.f72) [1, 1, 1, 1, 1, 0, 0])
noncomputable def c72_32 : Code := .region 9 o72_32 false
noncomputable def o72_35 : Array Oper := opsC (atC (bodyC Try.f72) [1, 1, 1, 1, 1, 0, 1, 0, 0])
noncomputable def c72_35 : Code := .region 10 o72_35 false
noncomputable def c72_36 : Code := .ret
noncomputable def c72_34 : Code := .seq c72_35 c72_36
noncomputable def c72_37 : Code := .skip
noncomputable def c72_33 : Code := .cond (opdC (atC (bodyC Try.f72) [1, 1, 1, 1, 1, 0, 1])) c72_34 c72_37
noncomputable def c72_31 : Code := .seq c72_32 c72_33
noncomputable def o72_40 : Array Oper := opsC (atC (bodyC Try.f72) [1, 1, 1, 1, 1, 1, 0, 0])
noncomputable def c72_40 : Code := .region 11 o72_40 false
noncomputable def o72_43 : Array Oper := opsC (atC (bodyC Try.f72) [1, 1, 1, 1, 1, 1, 0, 1, 0, 0])
noncomputable def c72_43 : Code := .region 12 o72_43 false
noncomputable def c72_44 : Code := .ret
noncomputable def c72_42 : Code := .seq c72_43 c72_44
noncomputable def c72_45 : Code := .skip
noncomputable def c72_41 : Code := .cond (opdC (atC (bodyC Try.f72) [1, 1, 1, 1, 1, 1, 0, 1])) c72_42 c72_45
noncomputable def c72_39 : Code := .seq c72_40 c72_41
noncomputable def o72_47 : Array Oper := opsC (atC (bodyC Try.f72) [1, 1, 1, 1, 1, 1, 1, 0])
noncomputable def c72_47 : Code := .region 13 o72_47 false
noncomputable def c72_48 : Code := .ret
noncomputable def c72_46 : Code := .seq c72_47 c72_48
noncomputable def c72_38 : Code := .seq c72_39 c72_46
noncomputable def c72_30 : Code := .seq c72_31 c72_38
noncomputable def c72_22 : Code := .seq c72_23 c72_30
noncomputable def c72_6 : Code := .seq c72_7 c72_22
noncomputable def c72_4 : Code := .seq c72_5 c72_6
noncomputable def c72_2 : Code := .seq c72_3 c72_4
noncomputable def c72_0 : Code := .seq c72_1 c72_2
noncomputable def F72 : Func := { Try.f72 with body := some c72_0 }
theorem F72_eq : Try.f72 = F72 := rfl
theorem at72 : Try.prog.funcs[72]? = some F72 := by rw [← F72_eq]; exact Try.func72
noncomputable def o74_1 : Array Oper := opsC (atC (bodyC Try.f74) [0])
noncomputable def c74_1 : Code := .region 0 o74_1 false
noncomputable def o74_3 : Array Oper := opsC (atC (bodyC Try.f74) [1, 0])
noncomputable def c74_3 : Code := .region 1 o74_3 false
noncomputable def c74_4 : Code := .ret
noncomputable def c74_2 : Code := .seq c74_3 c74_4
noncomputable def c74_0 : Code := .seq c74_1 c74_2
noncomputable def F74 : Func := { Try.f74 with body := some c74_0 }
theorem F74_eq : Try.f74 = F74 := rfl
theorem at74 : Try.prog.funcs[74]? = some F74 := by rw [← F74_eq]; exact Try.func74
noncomputable def o75_1 : Array Oper := opsC (atC (bodyC Try.f75) [0])
noncomputable def c75_1 : Code := .region 0 o75_1 false
noncomputable def o75_3 : Array Oper := opsC (atC (bodyC Try.f75) [1, 0])
noncomputable def c75_3 : Code := .region 1 o75_3 false
noncomputable def c75_4 : Code := .ret
noncomputable def c75_2 : Code := .seq c75_3 c75_4
noncomputable def c75_0 : Code := .seq c75_1 c75_2
noncomputable def F75 : Func := { Try.f75 with body := some c75_0 }
theorem F75_eq : Try.f75 = F75 := rfl
theorem at75 : Try.prog.funcs[75]? = some F75 := by rw [← F75_eq]; exact Try.func75
instance : StOK o7_54 := ⟨by kernel_rfl⟩
instance : StOK o7_88 := ⟨by kernel_rfl⟩
instance : StOK o10_60 := ⟨by kernel_rfl⟩
instance : StOK o12_17 := ⟨by kernel_rfl⟩
instance : StOK o13_17 := ⟨by kernel_rfl⟩
instance : StOK o17_24 := ⟨by kernel_rfl⟩
instance : StOK o18_41 := ⟨by kernel_rfl⟩
instance : StOK o18_62 := ⟨by kernel_rfl⟩
instance : StOK o19_44 := ⟨by kernel_rfl⟩
instance : StOK o27_43 := ⟨by kernel_rfl⟩
instance : StOK o29_28 := ⟨by kernel_rfl⟩
instance : StOK o31_20 := ⟨by kernel_rfl⟩
instance : StOK o32_30 := ⟨by kernel_rfl⟩
instance : StOK o32_48 := ⟨by kernel_rfl⟩
instance : StOK o33_16 := ⟨by kernel_rfl⟩
instance : StOK o34_26 := ⟨by kernel_rfl⟩
instance : StOK o39_56 := ⟨by kernel_rfl⟩
instance : StOK o42_3 := ⟨by kernel_rfl⟩
instance : StOK o45_16 := ⟨by kernel_rfl⟩
instance : StOK o45_20 := ⟨by kernel_rfl⟩
instance : StOK o54_9 := ⟨by kernel_rfl⟩
instance : StOK o56_9 := ⟨by kernel_rfl⟩
instance : StOK o60_3 := ⟨by kernel_rfl⟩
instance : StOK o61_4 := ⟨by kernel_rfl⟩
instance : StOK o61_15 := ⟨by kernel_rfl⟩
end Go.Proofs.Ytdhbelpejaobdaa.Ev
/- The seat's functions for the walker: the kinds of their parameters, where all are data; their live slots, block by block. Written by a program of this session. -/
namespace Go.Proofs.Ytdhbelpejaobdaa.Ev
open Go
set_option maxRecDepth 100000
structure FnRow where
  fn : Func
  ts : Option (List Ty)
  live : List (Nat × List Nat × List Nat)
def lookL : List (Nat × List Nat × List Nat) → Nat → List Nat × List Nat
  | [], _ => ([], [])
  | (b, x) :: l, n => match Nat.beq b n with | true => x | false => lookL l n
noncomputable def fnRows : List (Option FnRow) := [
  none,
  none,
  some ⟨F2, some [], []⟩,
  some ⟨F3, some [(.li (.co (.li (.it .u8)) (.co (.li (.it .u8)) .ue))), (.it .i64)], []⟩,
  some ⟨F4, some [(.li (.it .u8))], [(0, [0, 3, 5], []), (1, [], [0, 3, 5])]⟩,
  some ⟨F5, some [(.li (.co (.li (.it .u8)) (.co (.li (.it .u8)) .ue))), (.it .i64), (.it .i64)], []⟩,
  some ⟨F6, some [(.li (.it .u8)), (.li (.it .u8))], []⟩,
  some ⟨F7, some [(.li (.co (.li (.it .u8)) (.co (.li (.it .u8)) .ue))), (.it .i64), (.li (.it .u8))], [(0, [0, 2, 7, 10], [0, 2, 7]), (1, [], [0, 2, 7, 10]), (2, [0, 2, 14, 15, 17], [15]), (3, [], [0, 2, 14, 15, 17])]⟩,
  some ⟨F8, some [(.it .i64), (.it .i64)], [(0, [0, 1, 5, 6], [0, 1, 5]), (1, [], [0, 1, 5, 6])]⟩,
  some ⟨F9, some [(.li (.li (.it .u8))), (.it .i64), (.li (.it .u8)), (.li (.it .u8))], []⟩,
  some ⟨F10, some [(.li (.li (.it .u8))), (.it .i64), (.it .i64)], [(0, [0, 1, 2, 7, 9], [0, 1, 2, 7]), (1, [], [0, 1, 2, 7, 9])]⟩,
  some ⟨F11, some [], []⟩,
  some ⟨F12, some [(.li (.co (.li (.it .u8)) (.co (.li (.it .u8)) .ue)))], [(0, [0, 3, 4], [0, 3]), (1, [], [0, 3, 4])]⟩,
  some ⟨F13, some [(.li (.co (.li (.it .u8)) (.co (.li (.it .u8)) .ue)))], [(0, [0, 3, 4], [3]), (1, [], [0, 3, 4])]⟩,
  some ⟨F14, some [(.li (.co (.li (.it .u8)) (.co (.li (.it .u8)) .ue))), (.it .i64)], [(0, [], [0, 1])]⟩,
  some ⟨F15, some [(.li (.co (.li (.it .u8)) (.co (.li (.it .u8)) .ue))), (.it .i64)], []⟩,
  some ⟨F16, some [(.li (.it .u8)), (.li (.it .u8))], []⟩,
  some ⟨F17, some [(.li (.co (.li (.it .u8)) (.co (.li (.it .u8)) .ue))), (.li (.co (.li (.it .u8)) (.co (.li (.it .u8)) .ue)))], [(0, [0, 1, 5], []), (1, [], [0, 1, 5])]⟩,
  some ⟨F18, some [(.li (.it .u8))], [(0, [0, 5, 7, 8, 9, 10, 11], [0, 5, 8, 10]), (1, [], [0, 5, 7, 8, 9, 10, 11])]⟩,
  some ⟨F19, some [(.li (.it .u8))], [(0, [0, 4, 5, 7], []), (1, [], [0, 4, 5, 7])]⟩,
  some ⟨F20, some [(.li (.it .u8)), (.li (.it .u8))], []⟩,
  some ⟨F21, some [(.li (.it .u8)), (.li (.it .u8))], [(0, [1, 4, 7, 9], [4]), (1, [], [1, 4, 7, 9])]⟩,
  some ⟨F22, some [(.li (.it .u8))], [(0, [0, 2], []), (1, [], [0, 2])]⟩,
  some ⟨F23, some [(.li (.it .u8))], []⟩,
  some ⟨F24, some [(.li (.it .u8)), (.li (.it .u8))], [(0, [], [])]⟩,
  some ⟨F25, some [(.li (.li (.it .u8))), (.it .i64)], [(0, [6, 7, 8, 34, 35, 36], [6, 7]), (1, [], [6, 7, 8, 34, 35, 36])]⟩,
  some ⟨F26, some [(.li (.li (.it .u8)))], [(0, [0, 3, 4], [0, 3]), (1, [], [0, 3, 4])]⟩,
  some ⟨F27, some [(.li (.li (.it .u8))), (.it .i64)], [(0, [0, 6, 8, 9], [6, 8]), (1, [], [0, 6, 8, 9]), (2, [0, 6, 8, 9, 10, 11], [0, 6, 8, 9]), (3, [], [0, 6, 8, 9, 10, 11])]⟩,
  some ⟨F28, some [(.li (.it .u8)), (.li (.it .u8))], []⟩,
  some ⟨F29, some [(.li (.it .u8)), (.li (.it .u8))], [(0, [0, 6, 7], []), (1, [], [0, 6, 7])]⟩,
  some ⟨F30, some [(.li (.it .u8)), (.it .u64), (.it .i64)], []⟩,
  some ⟨F31, some [(.li (.co (.li (.it .u8)) (.co (.li (.it .u8)) .ue)))], [(0, [0, 9, 10, 11], []), (1, [], [0, 9, 10, 11])]⟩,
  some ⟨F32, some [(.li (.co (.li (.it .u8)) (.co (.li (.it .u8)) .ue))), (.it .i64)], [(0, [0, 1, 5, 6, 7, 13, 14, 15], [5, 6, 7]), (1, [], [0, 1, 5, 6, 7, 13, 14, 15]), (2, [0, 1, 5, 6, 7, 9, 10, 13, 14, 15, 50, 51], [0, 1, 5, 6, 7, 9, 10, 13, 14, 15]), (3, [], [0, 1, 5, 6, 7, 9, 10, 13, 14, 15, 50, 51])]⟩,
  some ⟨F33, some [(.li (.co (.li (.it .u8)) (.co (.li (.it .u8)) .ue)))], [(0, [0, 3], []), (1, [], [0, 3])]⟩,
  some ⟨F34, some [(.li (.co (.li (.it .u8)) (.co (.li (.it .u8)) .ue))), (.it .i64)], [(0, [0, 1, 5, 6, 7], [5, 6]), (1, [], [0, 1, 5, 6, 7]), (2, [5, 6, 9], [5, 6]), (3, [], [5, 6, 9])]⟩,
  some ⟨F35, some [(.li (.it .u8))], []⟩,
  some ⟨F36, none, []⟩,
  some ⟨F37, some [(.li (.it .u8)), (.li (.it .u8))], []⟩,
  some ⟨F38, some [(.li (.it .u8)), (.it .i64), (.it .i64)], [(0, [0, 1, 7, 8], [7]), (1, [], [0, 1, 7, 8])]⟩,
  some ⟨F39, some [(.li (.it .u8))], [(0, [0, 4, 5, 6], [4]), (1, [], [0, 4, 5, 6]), (2, [0, 4, 5, 6, 7, 8], [0, 4, 5, 6, 7]), (3, [], [0, 4, 5, 6, 7, 8])]⟩,
  some ⟨F40, some [(.li (.it .u8))], []⟩,
  some ⟨F41, none, [(0, [1, 5, 6], [5]), (1, [], [1, 5, 6])]⟩,
  some ⟨F42, none, []⟩,
  some ⟨F43, some [(.li (.it .u8)), (.li (.it .u8))], []⟩,
  some ⟨F44, some [(.li (.it .u8))], []⟩,
  some ⟨F45, some [(.li (.it .u8)), (.li (.it .u8))], [(0, [0, 1, 5], [0, 1]), (1, [], [0, 1, 5]), (2, [], [])]⟩,
  some ⟨F46, none, [(0, [2, 3, 8, 9, 14, 15], []), (1, [], [2, 3, 8, 9, 14, 15])]⟩,
  some ⟨F47, none, []⟩,
  some ⟨F48, some [(.li (.it .u8)), (.it .u64), (.it .i64)], [(0, [1, 2, 7, 8, 9, 10], [9]), (1, [], [1, 2, 7, 8, 9, 10])]⟩,
  some ⟨F49, none, []⟩,
  some ⟨F50, some [(.li (.it .u8)), (.it .u64), (.it .i64)], []⟩,
  some ⟨F51, some [(.li (.it .u8))], []⟩,
  some ⟨F52, some [(.it .u64)], []⟩,
  some ⟨F53, some [(.it .u32)], []⟩,
  some ⟨F54, some [(.li (.it .u8)), (.li (.it .u8))], [(0, [0, 1, 5], [5]), (1, [], [0, 1, 5])]⟩,
  some ⟨F55, some [(.it .u64)], [(0, [0, 3], [0, 3]), (1, [], [0, 3])]⟩,
  some ⟨F56, some [(.li (.it .u8)), (.li (.it .u8))], [(0, [0, 1, 5], [5]), (1, [], [0, 1, 5])]⟩,
  some ⟨F57, some [(.it .u64)], [(0, [0, 3], [0, 3]), (1, [], [0, 3])]⟩,
  some ⟨F58, some [(.it .u64), (.it .i64)], [(0, [0, 1, 5, 6], [5]), (1, [], [0, 1, 5, 6])]⟩,
  some ⟨F59, some [(.li (.it .u8)), (.it .i64)], [(0, [0, 6, 12, 13], [6]), (1, [], [0, 6, 12, 13])]⟩,
  some ⟨F60, none, []⟩,
  some ⟨F61, none, []⟩,
  some ⟨F62, some [(.li (.it .u8)), (.it .i64)], [(0, [0, 1, 7, 8], [4, 5, 6]), (1, [], [0, 1, 7, 8])]⟩,
  some ⟨F63, some [(.li (.it .u8))], []⟩,
  some ⟨F64, some [(.li (.it .u8)), (.li (.it .u8))], [(0, [], [14]), (1, [], [6, 7, 8, 10, 11, 12]), (2, [], [7, 8, 11, 12]), (3, [], [8, 12])]⟩,
  some ⟨F65, some [(.li (.it .u8))], [(0, [3, 6, 7, 8], [3]), (1, [], [3, 6, 7, 8]), (2, [3, 6, 7, 8, 16], [3, 6, 7, 8]), (3, [], [3, 6, 7, 8, 16])]⟩,
  some ⟨F66, some [(.it .u32), (.it .i64)], []⟩,
  some ⟨F67, some [(.li (.it .u8))], [(0, [0, 3, 4], [3]), (1, [], [0, 3, 4]), (2, [0, 3, 4, 5], [0, 3, 4]), (3, [], [0, 3, 4, 5])]⟩,
  some ⟨F68, some [(.it .u64), (.it .i64)], [(0, [0, 5, 7, 8], [5]), (1, [], [0, 5, 7, 8])]⟩,
  some ⟨F69, some [(.li (.it .u8))], [(0, [5, 8, 9, 10], []), (1, [], [5, 8, 9, 10])]⟩,
  some ⟨F70, some [(.li (.it .u8)), (.li (.it .u8))], []⟩,
  some ⟨F71, some [(.it .u64), (.it .u64)], []⟩,
  some ⟨F72, some [(.it .i64), (.it .i64)], []⟩,
  none,
  some ⟨F74, some [(.it .u64)], []⟩,
  some ⟨F75, some [(.it .i64)], []⟩,
  none,
  none,
  none,
  none,
  none,
  none,
  none,
  none,
  none,
  none,
  none,
  none,
  none,
  none,
  none,
  none,
  none]
end Go.Proofs.Ytdhbelpejaobdaa.Ev
namespace Go.Proofs.Ytdhbelpejaobdaa.Ev
open Go
set_option maxRecDepth 100000
theorem fns_at : ∀ (g : FuncId) (x : FnRow), fnRows.getD g none = some x → Try.prog.funcs[g]? = some x.fn ∧ (x.fn.name == "runtime.NumGoroutine") = false ∧ x.fn.body.isNone = false
  | 0, x, h => by cases h
  | 1, x, h => by cases h
  | 2, x, h => by obtain rfl := Option.some.inj h; exact ⟨at2, by kernel_rfl, by kernel_rfl⟩
  | 3, x, h => by obtain rfl := Option.some.inj h; exact ⟨at3, by kernel_rfl, by kernel_rfl⟩
  | 4, x, h => by obtain rfl := Option.some.inj h; exact ⟨at4, by kernel_rfl, by kernel_rfl⟩
  | 5, x, h => by obtain rfl := Option.some.inj h; exact ⟨at5, by kernel_rfl, by kernel_rfl⟩
  | 6, x, h => by obtain rfl := Option.some.inj h; exact ⟨at6, by kernel_rfl, by kernel_rfl⟩
  | 7, x, h => by obtain rfl := Option.some.inj h; exact ⟨at7, by kernel_rfl, by kernel_rfl⟩
  | 8, x, h => by obtain rfl := Option.some.inj h; exact ⟨at8, by kernel_rfl, by kernel_rfl⟩
  | 9, x, h => by obtain rfl := Option.some.inj h; exact ⟨at9, by kernel_rfl, by kernel_rfl⟩
  | 10, x, h => by obtain rfl := Option.some.inj h; exact ⟨at10, by kernel_rfl, by kernel_rfl⟩
  | 11, x, h => by obtain rfl := Option.some.inj h; exact ⟨at11, by kernel_rfl, by kernel_rfl⟩
  | 12, x, h => by obtain rfl := Option.some.inj h; exact ⟨at12, by kernel_rfl, by kernel_rfl⟩
  | 13, x, h => by obtain rfl := Option.some.inj h; exact ⟨at13, by kernel_rfl, by kernel_rfl⟩
  | 14, x, h => by obtain rfl := Option.some.inj h; exact ⟨at14, by kernel_rfl, by kernel_rfl⟩
  | 15, x, h => by obtain rfl := Option.some.inj h; exact ⟨at15, by kernel_rfl, by kernel_rfl⟩
  | 16, x, h => by obtain rfl := Option.some.inj h; exact ⟨at16, by kernel_rfl, by kernel_rfl⟩
  | 17, x, h => by obtain rfl := Option.some.inj h; exact ⟨at17, by kernel_rfl, by kernel_rfl⟩
  | 18, x, h => by obtain rfl := Option.some.inj h; exact ⟨at18, by kernel_rfl, by kernel_rfl⟩
  | 19, x, h => by obtain rfl := Option.some.inj h; exact ⟨at19, by kernel_rfl, by kernel_rfl⟩
  | 20, x, h => by obtain rfl := Option.some.inj h; exact ⟨at20, by kernel_rfl, by kernel_rfl⟩
  | 21, x, h => by obtain rfl := Option.some.inj h; exact ⟨at21, by kernel_rfl, by kernel_rfl⟩
  | 22, x, h => by obtain rfl := Option.some.inj h; exact ⟨at22, by kernel_rfl, by kernel_rfl⟩
  | 23, x, h => by obtain rfl := Option.some.inj h; exact ⟨at23, by kernel_rfl, by kernel_rfl⟩
  | 24, x, h => by obtain rfl := Option.some.inj h; exact ⟨at24, by kernel_rfl, by kernel_rfl⟩
  | 25, x, h => by obtain rfl := Option.some.inj h; exact ⟨at25, by kernel_rfl, by kernel_rfl⟩
  | 26, x, h => by obtain rfl := Option.some.inj h; exact ⟨at26, by kernel_rfl, by kernel_rfl⟩
  | 27, x, h => by obtain rfl := Option.some.inj h; exact ⟨at27, by kernel_rfl, by kernel_rfl⟩
  | 28, x, h => by obtain rfl := Option.some.inj h; exact ⟨at28, by kernel_rfl, by kernel_rfl⟩
  | 29, x, h => by obtain rfl := Option.some.inj h; exact ⟨at29, by kernel_rfl, by kernel_rfl⟩
  | 30, x, h => by obtain rfl := Option.some.inj h; exact ⟨at30, by kernel_rfl, by kernel_rfl⟩
  | 31, x, h => by obtain rfl := Option.some.inj h; exact ⟨at31, by kernel_rfl, by kernel_rfl⟩
  | 32, x, h => by obtain rfl := Option.some.inj h; exact ⟨at32, by kernel_rfl, by kernel_rfl⟩
  | 33, x, h => by obtain rfl := Option.some.inj h; exact ⟨at33, by kernel_rfl, by kernel_rfl⟩
  | 34, x, h => by obtain rfl := Option.some.inj h; exact ⟨at34, by kernel_rfl, by kernel_rfl⟩
  | 35, x, h => by obtain rfl := Option.some.inj h; exact ⟨at35, by kernel_rfl, by kernel_rfl⟩
  | 36, x, h => by obtain rfl := Option.some.inj h; exact ⟨at36, by kernel_rfl, by kernel_rfl⟩
  | 37, x, h => by obtain rfl := Option.some.inj h; exact ⟨at37, by kernel_rfl, by kernel_rfl⟩
  | 38, x, h => by obtain rfl := Option.some.inj h; exact ⟨at38, by kernel_rfl, by kernel_rfl⟩
  | 39, x, h => by obtain rfl := Option.some.inj h; exact ⟨at39, by kernel_rfl, by kernel_rfl⟩
  | 40, x, h => by obtain rfl := Option.some.inj h; exact ⟨at40, by kernel_rfl, by kernel_rfl⟩
  | 41, x, h => by obtain rfl := Option.some.inj h; exact ⟨at41, by kernel_rfl, by kernel_rfl⟩
  | 42, x, h => by obtain rfl := Option.some.inj h; exact ⟨at42, by kernel_rfl, by kernel_rfl⟩
  | 43, x, h => by obtain rfl := Option.some.inj h; exact ⟨at43, by kernel_rfl, by kernel_rfl⟩
  | 44, x, h => by obtain rfl := Option.some.inj h; exact ⟨at44, by kernel_rfl, by kernel_rfl⟩
  | 45, x, h => by obtain rfl := Option.some.inj h; exact ⟨at45, by kernel_rfl, by kernel_rfl⟩
  | 46, x, h => by obtain rfl := Option.some.inj h; exact ⟨at46, by kernel_rfl, by kernel_rfl⟩
  | 47, x, h => by obtain rfl := Option.some.inj h; exact ⟨at47, by kernel_rfl, by kernel_rfl⟩
  | 48, x, h => by obtain rfl := Option.some.inj h; exact ⟨at48, by kernel_rfl, by kernel_rfl⟩
  | 49, x, h => by obtain rfl := Option.some.inj h; exact ⟨at49, by kernel_rfl, by kernel_rfl⟩
  | 50, x, h => by obtain rfl := Option.some.inj h; exact ⟨at50, by kernel_rfl, by kernel_rfl⟩
  | 51, x, h => by obtain rfl := Option.some.inj h; exact ⟨at51, by kernel_rfl, by kernel_rfl⟩
  | 52, x, h => by obtain rfl := Option.some.inj h; exact ⟨at52, by kernel_rfl, by kernel_rfl⟩
  | 53, x, h => by obtain rfl := Option.some.inj h; exact ⟨at53, by kernel_rfl, by kernel_rfl⟩
  | 54, x, h => by obtain rfl := Option.some.inj h; exact ⟨at54, by kernel_rfl, by kernel_rfl⟩
  | 55, x, h => by obtain rfl := Option.some.inj h; exact ⟨at55, by kernel_rfl, by kernel_rfl⟩
  | 56, x, h => by obtain rfl := Option.some.inj h; exact ⟨at56, by kernel_rfl, by kernel_rfl⟩
  | 57, x, h => by obtain rfl := Option.some.inj h; exact ⟨at57, by kernel_rfl, by kernel_rfl⟩
  | 58, x, h => by obtain rfl := Option.some.inj h; exact ⟨at58, by kernel_rfl, by kernel_rfl⟩
  | 59, x, h => by obtain rfl := Option.some.inj h; exact ⟨at59, by kernel_rfl, by kernel_rfl⟩
  | 60, x, h => by obtain rfl := Option.some.inj h; exact ⟨at60, by kernel_rfl, by kernel_rfl⟩
  | 61, x, h => by obtain rfl := Option.some.inj h; exact ⟨at61, by kernel_rfl, by kernel_rfl⟩
  | 62, x, h => by obtain rfl := Option.some.inj h; exact ⟨at62, by kernel_rfl, by kernel_rfl⟩
  | 63, x, h => by obtain rfl := Option.some.inj h; exact ⟨at63, by kernel_rfl, by kernel_rfl⟩
  | 64, x, h => by obtain rfl := Option.some.inj h; exact ⟨at64, by kernel_rfl, by kernel_rfl⟩
  | 65, x, h => by obtain rfl := Option.some.inj h; exact ⟨at65, by kernel_rfl, by kernel_rfl⟩
  | 66, x, h => by obtain rfl := Option.some.inj h; exact ⟨at66, by kernel_rfl, by kernel_rfl⟩
  | 67, x, h => by obtain rfl := Option.some.inj h; exact ⟨at67, by kernel_rfl, by kernel_rfl⟩
  | 68, x, h => by obtain rfl := Option.some.inj h; exact ⟨at68, by kernel_rfl, by kernel_rfl⟩
  | 69, x, h => by obtain rfl := Option.some.inj h; exact ⟨at69, by kernel_rfl, by kernel_rfl⟩
  | 70, x, h => by obtain rfl := Option.some.inj h; exact ⟨at70, by kernel_rfl, by kernel_rfl⟩
  | 71, x, h => by obtain rfl := Option.some.inj h; exact ⟨at71, by kernel_rfl, by kernel_rfl⟩
  | 72, x, h => by obtain rfl := Option.some.inj h; exact ⟨at72, by kernel_rfl, by kernel_rfl⟩
  | 73, x, h => by cases h
  | 74, x, h => by obtain rfl := Option.some.inj h; exact ⟨at74, by kernel_rfl, by kernel_rfl⟩
  | 75, x, h => by obtain rfl := Option.some.inj h; exact ⟨at75, by kernel_rfl, by kernel_rfl⟩
  | 76, x, h => by cases h
  | 77, x, h => by cases h
  | 78, x, h => by cases h
  | 79, x, h => by cases h
  | 80, x, h => by cases h
  | 81, x, h => by cases h
  | 82, x, h => by cases h
  | 83, x, h => by cases h
  | 84, x, h => by cases h
  | 85, x, h => by cases h
  | 86, x, h => by cases h
  | 87, x, h => by cases h
  | 88, x, h => by cases h
  | 89, x, h => by cases h
  | 90, x, h => by cases h
  | 91, x, h => by cases h
  | 92, x, h => by cases h
  | g + 93, x, h => by simp [fnRows] at h
end Go.Proofs.Ytdhbelpejaobdaa.Ev
/- Contracts that are the walker's own: for what is run on given data; and bytes.Clone's, by hand. -/
namespace Go.Proofs.Ytdhbelpejaobdaa.Ev
open Go Go.RowKit
set_option linter.unusedVariables false
set_option linter.unusedSimpArgs false
set_option maxRecDepth 100000

noncomputable def fnOf (g : FuncId) : Option Func := (fnRows.getD g none).map (·.fn)
noncomputable def ctxOf (g : FuncId) : Ctx := ⟨rows, match fnRows.getD g none with | some x => lookL x.live | none => fun _ => ([], [])⟩
/-- all that may be called on data is called by contract; the rest is gone into -/
noncomputable def autoTab [tI : Tst] (t0 : Tab) (fuel : Nat) : Nat → Tab
  | 0 => t0
  | d + 1 => fun g => match t0 g with
    | some y => some y
    | none => match fnRows.getD g none with
      | some x => match x.ts with
        | some ts => some (ts, fun xs => (evFn (ctxOf g) (autoTab t0 fuel d) (inlH ctxOf (autoTab t0 fuel d) fuel fnOf d) fuel x.fn xs [] (fun v S => exportV S v)).map fun v => (true, v))
        | none => none
      | none => none

theorem fnsOK : FnsOK Try.prog fnOf := by
  intro g fn h
  simp only [fnOf, Option.map_eq_some_iff] at h
  obtain ⟨x, hx, rfl⟩ := h
  exact fns_at g x hx
theorem autoTab_far [tI : Tst] {t0 : Tab} (h0 : TabFar Try.prog t0) (fuel : Nat) : ∀ d, TabFar Try.prog (autoTab t0 fuel d)
  | 0 => h0
  | d + 1 => by
    have ih := autoTab_far h0 fuel d
    intro g ts F h
    simp only [autoTab] at h
    cases hy : t0 g with
    | some y =>
      rw [hy] at h
      simp only [Option.some.injEq] at h; subst h
      exact h0 g ts F hy
    | none =>
      rw [hy] at h
      simp only at h
      cases hx : fnRows.getD g none with
      | none => rw [hx] at h; simp at h
      | some x =>
        rw [hx] at h
        simp only at h
        obtain ⟨h1, h2, h3⟩ := fns_at g x hx
        cases ht : x.ts with
        | none => rw [ht] at h; simp at h
        | some ts' =>
          rw [ht] at h
          simp only [Option.some.injEq, Prod.mk.injEq] at h
          obtain ⟨rfl, rfl⟩ := h
          intro vs xs v _ hv
          refine .inl ⟨⟨x.fn, h1, h2, h3⟩, ?_⟩
          simp only [Option.map_eq_some_iff, Prod.mk.injEq, true_and, exists_eq_right] at hv
          exact far_fn (rows_ok _) (tabFar_ok ih) (inl_ok (fun _ => rows_ok _) (tabFar_ok ih) mixed fnsOK d) mixed fuel h1 hv

end Go.Proofs.Ytdhbelpejaobdaa.Ev
/- Methods by contract: a call on an object of the caller's own, whose cells are data, and on data. -/
namespace Go.Proofs.Ytdhbelpejaobdaa.Ev
open Go Go.RowKit
set_option linter.unusedVariables false
set_option linter.unusedSimpArgs false

/-- what a method tells: its object's kind, those of its arguments; where, what becomes of the object, what is told -/
structure MEnt where
  T : Ty
  ts : List Ty
  F : T.den → List V → Option (Bool × T.den × V)
abbrev MTab := FuncId → Option MEnt

def importK {R : Type} (id : Nat) (S : List Ent) (v : V) (k : V → List Ent → Option R) : Option R :=
  match importV id v with
  | (v', some n) => setE S id (.fam n) fun S => k v' S
  | (v', none) => k v' S
def methH {R : Type} [tI : Tst] (M : MTab) (next : CallH R) : CallH R := fun g args id S k =>
  match M g with
  | none => next g args id S k
  | some e => match args with
    | .p o 0 :: rest => match ent S o with
      | .obj cs => match asT e.T (.agg cs) with
        | some x => match argsV e.ts rest with
          | some ys => match e.F x ys with
            | some (b, x', v) => br b (setE S o (.obj (flatT e.T x')) fun S => importK id S v k) none
            | none => none
          | none => none
        | none => none
      | _ => none
    | _ => none

/-- the world of a method: its object alone, that lies in a block which is lent -/
def Env.lend (m : Mem) (b : Nat) : Env := ⟨m, fun _ => b, fun _ => 0, fun _ => undef, fun _ => 0, fun _ => none, fun o => o = 0, m, fun k => k = b, fun _ _ => none⟩
def MRes [tI : Tst] (P : Program) (g : FuncId) (T : Ty) (x : T.den) (ys : List V) (x' : T.den) (v : V) : Prop :=
  ∀ (m : Mem) (w : World) (b : Nat) (us0 us : List Value) (ty : TypeId) (R : Ending → World → Prop), m.lies w → w.heap[b]? = some (.cells us0.toArray ty (0, 0)) → RepL m T x us0 → (∀ j, m b j = none) → RepVs (Env.of m) ys us →
    (∀ E' S' v' u w' cs, (Env.lend m b).Le E' → Sim w.heap.size w E' S' w' → ent S' 0 = .obj cs → asT T (.agg cs) = some x' → RepV E' v' u → exportV S' v' = some v → R (.returned u) w') →
    Calls P g (.pointer (some ⟨b, 0, none⟩) :: us).toArray w R
/-- what a walk of the method tells: the result, and the object's data -/
def exportM [tI : Tst] (T : Ty) (v : V) (S : List Ent) : Option (V × T.den) :=
  exportK S v fun v => match ent S 0 with
    | .obj cs => match asT T (.agg cs) with
      | some x => some (v, x)
      | none => none
    | _ => none

theorem repVs_env {E E2 : Env} (hm : E2.m = E.m) {ts : List Ty} {vs xs : List V} {us : List Value} (h : argsV ts vs = some xs) (hr : RepVs E vs us) [tI : Tst] : RepVs E2 xs us := (argsV_rep h hr).2 E2 hm

theorem meth_fn [tI : Tst] {P : Program} {C : Ctx} {tab : Tab} {T : Ty} {call : CallH (V × T.den)} (hC : RowsOK P C) (hT : TabOK P tab) (hcall : CallOK P call) (hm : P.follows .mixedOrders = true) (fuel : Nat) {f : FuncId} {fn : Func} (hf : P.funcs[f]? = some fn)
    {x x' : T.den} {ys : List V} {v : V} (hy : ∀ (E E2 : Env) us, E2.m = E.m → RepVs E ys us → RepVs E2 ys us)
    (h : evFn C tab call fuel fn (.p 0 0 :: ys) [.obj (flatT T x)] (exportM T) = some (v, x')) : MRes P f T x ys x' v := by
  obtain ⟨v', S', h1, h2⟩ := fn_ok hC hT hcall hm fuel hf h
  unfold exportM at h1
  obtain ⟨v1, e1, e2⟩ := exportK_exp h1
  have e3 := exportV_of e1
  have h3 := h2 (export_notBad e3)
  split at e2
  case h_2 => simp at e2
  rename_i cs hcs
  split at e2
  case h_2 => simp at e2
  rename_i z hz
  simp only [Option.some.injEq, Prod.mk.injEq] at e2
  obtain ⟨rfl, rfl⟩ := e2
  intro m w b us0 us ty R hl hb hx hn hr hR
  have hb' : b < w.heap.size := (Array.getElem?_eq_some_iff.1 hb).1
  have one := RepL.one _ _ _ hx
  refine h3.2 w.heap.size w (Env.lend m b) w (.pointer (some ⟨b, 0, none⟩) :: us) R ?_ ?_ ?_
  · refine ⟨⟨rfl, rfl, rfl, Nat.le_refl _, fun _ _ _ => rfl⟩, Nat.le_refl _, hl, ?_, ?_, ?_, fun _ _ _ => rfl, fun _ _ _ h => by simp [Env.lend] at h⟩
    · intro o
      cases o with
      | zero => exact ⟨rfl, .inr rfl, us0, ty, hb, flatT_rep T x us0 hx, one, hn⟩
      | succ o => simp [ent, EntOK]
    · intro o o' B hne ho ho'
      cases o with
      | zero => cases o' with
        | zero => exact hne rfl
        | succ o' => simp [ent, owns] at ho'
      | succ o => simp [ent, owns] at ho
    · intro o ho
      have : o = 0 := ho
      subst this
      simp
  · simp only [RepVs]
    exact ⟨by simp only [RepV]; exact ⟨rfl, rfl⟩, hy (Env.of m) _ us rfl hr⟩
  · intro E' u w' k1 k0 k2 k3
    exact hR E' S' v' u w' cs k1 k2 hcs hz k3 e3
/-- the contracts of methods hold -/
def MTabOK [tI : Tst] (P : Program) (M : MTab) : Prop :=
  ∀ g e, M g = some e → (∃ fn, P.funcs[g]? = some fn ∧ (fn.name == "runtime.NumGoroutine") = false ∧ fn.body.isNone = false) ∧ e.T.agg = true ∧ ∀ x vs ys x' v, argsV e.ts vs = some ys → e.F x ys = some (true, x', v) → MRes P g e.T x ys x' v
theorem asT_agg [tI : Tst] {E : Env} {T : Ty} (hT : T.agg = true) {cs : List V} {us : List Value} {x : T.den} (h : asT T (.agg cs) = some x) (hr : RepVs E cs us) : RepL E.m T x us := by
  simp only [asT, hT, if_true] at h
  split at h
  · rename_i y hy
    simp only [Option.some.injEq] at h; subst h
    obtain ⟨u1, u2, rfl, h1, h2⟩ := unflat_rep _ _ _ _ _ hy hr
    cases u2 with
    | nil => simpa using h1
    | cons u u2 => simp [RepVs] at h2
  · simp at h
theorem meth_ok {R : Type} [tI : Tst] {P : Program} {M : MTab} {next : CallH R} (hM : MTabOK P M) (hnext : CallOK P next) : CallOK P (methH M next) := by
  intro g args id S k r h
  unfold methH at h
  cases hg : M g with
  | none => rw [hg] at h; exact hnext g args id S k r h
  | some e =>
    rw [hg] at h
    simp only at h
    obtain ⟨⟨fn, hfn, hn, hbd⟩, hagg, hres⟩ := hM g e hg
    split at h
    case h_2 => simp at h
    rename_i o rest
    split at h
    case h_2 => simp at h
    rename_i cs hcs
    split at h
    case h_2 => simp at h
    rename_i x hx
    split at h
    case h_2 => simp at h
    rename_i ys hys
    split at h
    case h_2 => simp at h
    rename_i b x' v hF
    cases b with
    | false => simp [br] at h
    | true =>
    simp only [br] at h
    rw [setE_eq] at h
    have hfar := hres x rest ys x' v hys hF
    have hrun : ∀ (us : List Value) (w : World), (callFunc g us.toArray).run P w = .ok (.enter g us.toArray) w := by
      intro us w
      have hn' : fn.name ≠ "runtime.NumGoroutine" := by simpa using hn
      have hb' : fn.body ≠ none := by intro e; rw [e] at hbd; simp at hbd
      simp [callFunc, hfn, hn', hb']
    -- what the machine's call comes to, whatever is told
    have main : ∀ (base : Nat) (w0 : World) (E : Env) (w : World) (us : List Value) (Q : Value → World → Prop), Sim base w0 E S w → RepVs E (.p o 0 :: rest) us →
        (∀ (E' : Env) (S' : List Ent) (v' : V) (u : Value) (w' : World) (us1 : List Value) (ty1 : TypeId), E.live o → o < S.length → E.m.le E'.m → w'.heap[E.blk o]? = some (.cells us1.toArray ty1 (0, 0)) → (∀ u ∈ us1, u.oneCell' = true) → RepL E'.m e.T x' us1 → (∀ j, E'.m (E.blk o) j = none) →
          BelowX E.lent base w w' → (∀ i B, i ≠ o → owns E i (ent S i) = some B → B < w.heap.size ∧ w'.heap[B]? = w.heap[B]? ∧ ∀ j, E'.m B j = E.m B j) → (∀ b, b < w.heap.size → ∀ j, E'.m b j = E.m b j) → E.blk o < w.heap.size → (base ≤ E.blk o ∨ E.lent (E.blk o)) →
          Sim w.heap.size w E' S' w' → RepV E' v' u → exportV S' v' = some v → Q u w') → Called P g us.toArray w Q := by
      intro base w0 E w us Q sim hargs hQ
      cases us with
      | nil => simp [RepVs] at hargs
      | cons u0 us =>
      simp only [RepVs] at hargs
      obtain ⟨hu0, hrest⟩ := hargs
      simp only [RepV] at hu0
      obtain ⟨hlive, rfl⟩ := hu0
      have he := sim.ents o
      rw [hcs] at he
      obtain ⟨_, hbase, us0, ty, hb, hr, hone, hnone⟩ := he
      have hb' : E.blk o < w.heap.size := (Array.getElem?_eq_some_iff.1 hb).1
      unfold Called
      rw [hrun]
      refine hfar E.m w (E.blk o) us0 us ty _ sim.mem hb (asT_agg hagg hx hr) hnone ((argsV_rep hys hrest).2 _ rfl) ?_
      intro E' S' v' u w' cs' k1 k2 k3 k4 k5 k6
      refine ⟨u, rfl, ?_⟩
      have kb : BelowX (fun k => k = E.blk o) w.heap.size w w' := by have := k2.below; rw [k1.lent] at this; exact this
      have hold : ∀ b, b < w.heap.size → ∀ j, E'.m b j = E.m b j := fun b hb j => by rw [k2.old b hb j, k1.m0]; rfl
      have he' := k2.ents 0
      rw [k3] at he'
      obtain ⟨l1, _, us1, ty1, hb1, hr1, one1, hn1⟩ := he'
      have hblk0 : E'.blk 0 = E.blk o := k1.blk 0 rfl
      rw [hblk0] at hb1 hn1
      refine hQ E' S' v' u w' us1 ty1 hlive (sim.lt o hlive) k1.m hb1 one1 (asT_agg hagg k4 hr1) hn1 ?_ ?_ hold hb' hbase k2 k5 k6
      · refine ⟨kb.os, kb.tape, kb.output, kb.size, fun k hk hx => kb.block k (Nat.lt_of_lt_of_le hk sim.base_le) ?_⟩
        rintro rfl
        exact hbase.elim (fun h => by omega) hx
      · intro i B hi hB
        have hne : B ≠ E.blk o := by
          rintro rfl
          exact sim.apart i o _ hi hB (by rw [hcs]; rfl)
        have := (owns_lt sim hB).2
        exact ⟨this, kb.block B this hne, hold B this⟩
    unfold importK at h
    split at h
    · rename_i v1 n himp
      rw [setE_eq] at h
      refine ⟨v1, _, h, by simp, ?_⟩
      intro base w0 E w us sim hargs hid
      refine main base w0 E w us _ sim hargs ?_
      intro E' S' v' u w' us1 ty1 hlive hlt hmle hb1 one1 hx1 hn1 hbel hblk hold hb' hbase k2 k5 k6
      have hoid : o ≠ id := by rintro rfl; exact hid.1 hlive
      rcases import_rep (E := E) id k6 k5 with ⟨hi, _⟩ | ⟨o2, n2, ho2, hi, hr'⟩
      · rw [himp] at hi; simp at hi
      · rw [himp] at hi hr'
        simp only [Option.some.injEq] at hi
        subst hi
        have hle : E.Le (E.imp E' id o2) := (Env.le_setM hmle).trans (Env.le_add (E := E.setM E'.m) hid.1 _ _ _ _ _)
        refine ⟨E.imp E' id o2, hle, ?_, hr', fun i l => l.elim (fun h => .inr (.inl h)) (fun h => .inl h)⟩
        have he2 := k2.ents o2
        obtain ⟨f1, f2, f3⟩ : E'.live o2 ∧ n = E'.len o2 ∧ FamOK E' w.heap.size w' o2 := by
          rcases ho2 with ho2 | ho2
          · rw [ho2] at he2; exact he2
          · rw [ho2] at he2; exact he2.1
        have fin : ent ((S.set o (.obj (flatT e.T x'))).set id (.fam n)) id = .fam n := ent_set_same _ (by simpa using hid.2)
        have fino : ent ((S.set o (.obj (flatT e.T x'))).set id (.fam n)) o = .obj (flatT e.T x') := by rw [ent_set_ne _ hoid]; exact ent_set_same _ hlt
        have himpo : (E.imp E' id o2).blk o = E.blk o := if_neg (h := instDecidableEqNat o id) hoid
        refine sim.step hle hbel (fun i => i = o ∨ i = id) ?_ (fun i B hi hB => (hblk i B (fun h => hi (.inl h)) hB).2) k2.mem ?_ ?_ ?_ ?_ (fun b hb j => hold b (Nat.lt_of_lt_of_le hb sim.base_le) j)
        · intro i hi
          have h1 : i ≠ o := fun h => hi (.inl h)
          have h2 : i ≠ id := fun h => hi (.inr h)
          exact ⟨by rw [ent_set_ne _ h2, ent_set_ne _ h1], fun _ => ⟨if_neg (h := instDecidableEqNat i id) h2, if_neg (h := instDecidableEqNat i id) h2⟩⟩
        · rintro i (rfl | rfl)
          · rw [fino]
            refine ⟨.inr hlive, by rw [himpo, hle.lent]; exact hbase, us1, ty1, by rw [himpo]; exact hb1, flatT_rep _ _ _ hx1, one1, fun j => by rw [himpo]; exact hn1 j⟩
          · rw [fin]
            refine ⟨.inl rfl, by simp [Env.imp, Env.add, f2], ?_⟩
            unfold FamOK at f3 ⊢
            simp only [Env.imp, Env.add, Env.setM, if_true]
            cases hx : E'.ex o2 with
            | none => rw [hx] at f3; exact f3
            | some g =>
              rw [hx] at f3
              obtain ⟨cap, cur, e, q1, q2, q3⟩ := f3
              exact ⟨cap, cur, e, q1, Nat.le_trans sim.base_le q2, q3⟩
        · rintro i B (rfl | rfl) hB i' hi' hB'
          · rw [fino] at hB
            simp only [owns, himpo, Option.some.injEq] at hB
            subst hB
            exact sim.apart i' i _ (fun h => hi' (.inl h)) hB' (by rw [hcs]; rfl)
          · rw [fin] at hB
            simp only [owns, Env.imp, Env.add, if_true] at hB
            unfold FamOK at f3
            rw [hB] at f3
            obtain ⟨cap, cur, e, q1, q2, q3⟩ := f3
            have := (owns_lt sim hB').2
            omega
        · have key : ∀ B, owns (E.imp E' id o2) id (.fam n) = some B → B ≠ E.blk o := by
            intro B hB
            simp only [owns, Env.imp, Env.add, if_true] at hB
            unfold FamOK at f3
            rw [hB] at f3
            obtain ⟨cap, cur, e, q1, q2, q3⟩ := f3
            omega
          rintro i i' B (rfl | rfl) (rfl | rfl) hne h1 h2
          · exact hne rfl
          · rw [fino] at h1; rw [fin] at h2
            simp only [owns, himpo, Option.some.injEq] at h1
            exact key B h2 h1.symm
          · rw [fin] at h1; rw [fino] at h2
            simp only [owns, himpo, Option.some.injEq] at h2
            exact key B h1 h2.symm
          · exact hne rfl
        · rintro i (rfl | l)
          · simpa using hid.2
          · simpa using sim.lt _ l
    · rename_i v1 himp
      refine ⟨v1, _, h, by simp, ?_⟩
      intro base w0 E w us sim hargs hid
      refine main base w0 E w us _ sim hargs ?_
      intro E' S' v' u w' us1 ty1 hlive hlt hmle hb1 one1 hx1 hn1 hbel hblk hold hb' hbase k2 k5 k6
      rcases import_rep (E := E) id k6 k5 with ⟨hi, hr'⟩ | ⟨o2, n2, ho2, hi, _⟩
      · rw [himp] at hr'
        refine ⟨E.setM E'.m, Env.le_setM hmle, ?_, hr' _ rfl, fun _ l => .inl l⟩
        have fino : ent (S.set o (.obj (flatT e.T x'))) o = .obj (flatT e.T x') := ent_set_same _ hlt
        refine sim.step (Env.le_setM hmle) hbel (fun i => i = o) ?_ (fun i B hi hB => (hblk i B hi hB).2) k2.mem ?_ ?_ ?_ ?_ (fun b hb j => hold b (Nat.lt_of_lt_of_le hb sim.base_le) j)
        · intro i hi
          exact ⟨ent_set_ne _ hi, fun _ => ⟨rfl, rfl⟩⟩
        · rintro i rfl
          rw [fino]
          exact ⟨hlive, hbase, us1, ty1, hb1, flatT_rep _ _ _ hx1, one1, hn1⟩
        · rintro i B rfl hB i' hi' hB'
          rw [fino] at hB
          simp only [owns, Option.some.injEq] at hB
          subst hB
          exact sim.apart i' i _ hi' hB' (by rw [hcs]; rfl)
        · rintro i i' B rfl rfl hne; exact absurd rfl hne
        · intro i l
          simpa using sim.lt _ l
      · rw [himp] at hi; simp at hi
end Go.Proofs.Ytdhbelpejaobdaa.Ev
/- Contracts on data of given kinds: what is told of the arguments, where they are such; functions that the machine answers itself. -/
namespace Go.Proofs.Ytdhbelpejaobdaa.Ev
open Go Go.RowKit
set_option linter.unusedVariables false
set_option linter.unusedSimpArgs false
set_option maxRecDepth 100000

theorem dec_ex (p : Prop) [Decidable p] : Nonempty {b : Bool // b = decide p} := ⟨⟨_, rfl⟩⟩
/-- a test that nothing goes into, the kernel neither -/
@[irreducible] noncomputable def tstS (p : Prop) [Decidable p] : Bool := (Classical.choice (dec_ex p)).1
noncomputable instance slowT : Tst := ⟨tstS, fun p _ => by unfold tstS; exact (Classical.choice (dec_ex p)).2⟩
@[reducible] def fastT : Tst := ⟨fun p _ => decide p, fun _ _ => rfl⟩
abbrev by8 : Ty := .it .u8
@[reducible] def dens : List Ty → Type
  | [] => Unit
  | t :: ts => t.den × dens ts
def ofDens : (ts : List Ty) → dens ts → List V
  | [], _ => []
  | t :: ts, x => .d t x.1 :: ofDens ts x.2
def toDens {R : Type} : (ts : List Ty) → List V → (dens ts → Option R) → Option R
  | [], [], k => k ()
  | t :: ts, .d s x :: vs, k => match cast? s t x with
    | some y => toDens ts vs fun ys => k (y, ys)
    | none => none
  | _, _, _ => none
def FitsD : (ts : List Ty) → dens ts → Prop
  | [], _ => True
  | t :: ts, x => Fits t x.1 ∧ FitsD ts x.2
/-- what a function tells: of which kinds of data, where, and what -/
structure Sp where
  ts : List Ty
  pre : dens ts → Bool
  res : dens ts → V
def Sp.F (s : Sp) (xs : List V) : Option (Bool × V) := toDens s.ts xs fun x => some (s.pre x, s.res x)
abbrev Sp.ent (s : Sp) : Option (List Ty × (List V → Option (Bool × V))) := some (s.ts, s.F)
noncomputable abbrev inl {R : Type} (T : Tab) (F d : Nat) : CallH R := inlH ctxOf T F fnOf d
def Sp.Ok (s : Sp) (T : Tab) (C : Ctx) (fn : Func) : Prop :=
  ∀ x : dens s.ts, FitsD s.ts x → s.pre x = true → ∃ F d, evFn C T (inl T F d) F fn (ofDens s.ts x) [] (fun v S => exportF C fn.resultTypes.toList v S) = some (s.res x)

theorem toDens_some {R : Type} : ∀ {ts : List Ty} {xs : List V} {k : dens ts → Option R} {v : R}, toDens ts xs k = some v → ∃ x, xs = ofDens ts x ∧ k x = some v
  | [], [], k, v, h => ⟨(), rfl, h⟩
  | t :: ts, .d s x :: vs, k, v, h => by
    rw [toDens] at h
    split at h
    · rename_i y hy
      obtain ⟨ys, rfl, h2⟩ := toDens_some h
      unfold cast? at hy
      split at hy
      · rename_i he; subst he
        simp only [Option.some.injEq] at hy
        subst hy
        exact ⟨(x, ys), rfl, h2⟩
      · simp at hy
    · simp at h
  | [], _ :: _, _, _, h => by simp [toDens] at h
  | _ :: _, [], _, _, h => by simp [toDens] at h
  | _ :: _, .bad :: _, _, _, h => by simp [toDens] at h
  | _ :: _, .un :: _, _, _, h => by simp [toDens] at h
  | _ :: _, .nils :: _, _, _, h => by simp [toDens] at h
  | _ :: _, .own .. :: _, _, _, h => by simp [toDens] at h
  | _ :: _, .p .. :: _, _, _, h => by simp [toDens] at h
  | _ :: _, .ro .. :: _, _, _, h => by simp [toDens] at h
  | _ :: _, .sr .. :: _, _, _, h => by simp [toDens] at h
  | _ :: _, .pr .. :: _, _, _, h => by simp [toDens] at h
  | _ :: _, .agg .. :: _, _, _, h => by simp [toDens] at h
  | _ :: _, .tup .. :: _, _, _, h => by simp [toDens] at h
  | _ :: _, .fn .. :: _, _, _, h => by simp [toDens] at h
  | _ :: _, .nn .. :: _, _, _, h => by simp [toDens] at h
  | _ :: _, .ifc .. :: _, _, _, h => by simp [toDens] at h
theorem fitsD_of : ∀ {ts : List Ty} {x : dens ts}, FitsV (ofDens ts x) → FitsD ts x
  | [], _, _ => trivial
  | t :: ts, x, h => ⟨h.1, fitsD_of h.2⟩
/-- a contract more -/
theorem add_ok {T : Tab} {g : FuncId} {C : Ctx} {fn : Func} (s : Sp) (hT : TabFar Try.prog T) (hC : RowsOK Try.prog C) (hf : Try.prog.funcs[g]? = some fn) (hn : (fn.name == "runtime.NumGoroutine") = false) (hb : fn.body.isNone = false)
    (h : s.Ok T C fn) : TabFar Try.prog (tabAdd T g s.ts s.F) := by
  intro i ts' F' hi
  unfold tabAdd at hi
  split at hi
  · rename_i he
    obtain rfl := Nat.eq_of_beq_eq_true he
    simp only [Option.some.injEq, Prod.mk.injEq] at hi
    obtain ⟨rfl, rfl⟩ := hi
    intro vs xs v h1 h2
    refine .inl ⟨⟨fn, hf, hn, hb⟩, ?_⟩
    intro m w us R hl hr hR
    obtain ⟨x, rfl, h3⟩ := toDens_some h2
    obtain ⟨h4, rfl⟩ := Prod.mk.inj (Option.some.inj h3)
    obtain ⟨F, d, h5⟩ := h x (fitsD_of (argsV_fits h1 hr)) h4
    exact far_fnF hC (tabFar_ok hT) (inl_ok (fun _ => rows_ok _) (tabFar_ok hT) mixed fnsOK d) mixed F hf h5 m w us R hl hr hR
  · exact hT i ts' F' hi
/-- what is handed out, all of it as data -/
def exportW1 : V → (V → Option V) → Option V
  | .d t x, k => k (.d t x)
  | .own _ t xs, k => k (.d (.li t) xs)
  | .un, k => k .un
  | _, _ => none
def exportWs : List V → (List V → Option V) → Option V
  | [], k => k []
  | v :: vs, k => exportW1 v fun v => exportWs vs fun vs => k (v :: vs)
def exportW : V → Option V
  | .tup vs => exportWs vs fun vs => some (.tup vs)
  | v => exportW1 v some
theorem exportW1_rep {v r : V} {k : V → Option V} (h : exportW1 v k = some r) : ∃ v', k v' = some r ∧ (∀ S (j : V → Option V), exportV1 S v' j = j v') ∧ (∀ E u, RepV E v u → RepV E v' u) ∧ (∀ vs, v' ≠ .tup vs) := by
  cases v with
  | d t x => exact ⟨_, h, fun _ _ => rfl, fun _ _ h => h, fun _ => by simp⟩
  | own o t xs => exact ⟨_, h, fun _ _ => rfl, fun _ _ h => by simp only [RepV] at h ⊢; exact h.1, fun _ => by simp⟩
  | un => exact ⟨_, h, fun _ _ => rfl, fun _ _ h => h, fun _ => by simp⟩
  | _ => simp [exportW1] at h
theorem exportWs_rep : ∀ {vs : List V} {r : V} {k : List V → Option V}, exportWs vs k = some r → ∃ vs', k vs' = some r ∧ (∀ S (j : List V → Option V), exportVs S vs' j = j vs') ∧ ∀ E us, RepVs E vs us → RepVs E vs' us
  | [], _, _, h => ⟨[], h, fun _ _ => rfl, fun _ _ h => h⟩
  | v :: vs, r, k, h => by
    rw [exportWs] at h
    obtain ⟨v', h1, h2, h3, _⟩ := exportW1_rep h
    obtain ⟨vs', k1, k2, k3⟩ := exportWs_rep h1
    refine ⟨v' :: vs', k1, fun S j => by rw [exportVs, h2, k2], ?_⟩
    intro E us hr
    cases us with
    | nil => simp [RepVs] at hr
    | cons u us => simp only [RepVs] at hr ⊢; exact ⟨h3 E u hr.1, k3 E us hr.2⟩
theorem exportWs_notBad : ∀ {vs : List V} {r : V} {k : List V → Option V}, exportWs vs k = some r → vs.all (fun v => match v with | .bad => false | _ => true) = true
  | [], _, _, _ => rfl
  | v :: vs, r, k, h => by
    rw [exportWs] at h
    rw [List.all_cons]
    cases v with
    | d t x => exact exportWs_notBad (vs := vs) h
    | own o t xs => exact exportWs_notBad (vs := vs) h
    | un => exact exportWs_notBad (vs := vs) h
    | _ => simp [exportW1] at h
theorem exportW_rep {v r : V} (h : exportW v = some r) : notBad v = true ∧ (∀ S, exportV S r = some r) ∧ ∀ E u, RepV E v u → RepV E r u := by
  unfold exportW at h
  split at h
  · rename_i vs
    obtain ⟨vs', k1, k2, k3⟩ := exportWs_rep h
    simp only [Option.some.injEq] at k1
    subst k1
    refine ⟨?_, fun S => by simp only [exportV, exportK, k2], fun E u hr => ?_⟩
    · exact exportWs_notBad h
    · simp only [RepV] at hr ⊢
      obtain ⟨us, h1, h2⟩ := hr
      exact ⟨us, h1, k3 E us h2⟩
  · rename_i hn
    obtain ⟨v', h1, h2, h3, h4⟩ := exportW1_rep h
    simp only [Option.some.injEq] at h1
    subst h1
    refine ⟨?_, fun S => ?_, h3⟩
    · cases v <;> first | rfl | simp [exportW1] at h
    · have := h2 S some
      unfold exportV exportK
      split
      · rename_i vs; exact absurd rfl (h4 vs)
      · exact this
/-- so too where rows that may be written to are among it -/
noncomputable def exportFW (C : Ctx) (ts : List TypeId) (v : V) (S : List Ent) : Option V :=
  match rowR v with
  | false => exportW v
  | true => match v with
    | .tup vs => frzA S vs fun vs S => exportW (.tup (dataVs C ts vs))
    | v => frzV S v fun v S => exportW (dataV C (ts.headD 0) v)
theorem exportFW_rep {C : Ctx} {ts : List TypeId} {v r : V} {S : List Ent} (h : exportFW C ts v S = some r) : notBad v = true ∧ (∀ S, exportV S r = some r) ∧ ∀ (base : Nat) (w0 : World) (E : Env) (w : World) (u : Value), Sim base w0 E S w → RepV E v u →
    ∃ E' S', E.Le E' ∧ Sim base w0 E' S' w ∧ RepV E' r u := by
  unfold exportFW at h
  split at h
  · obtain ⟨e1, e2, e3⟩ := exportW_rep h
    exact ⟨e1, e2, fun base w0 E w u sim hr => ⟨E, S, Env.Le.refl E, sim, e3 E u hr⟩⟩
  · split at h
    · rename_i vs _
      obtain ⟨vs', S', h1, h2, h3⟩ := nb_frzA h
      obtain ⟨e1, e2, e3⟩ := exportW_rep h1
      refine ⟨h3 (nb_dataVs (C := C) (ts := ts) e1), e2, ?_⟩
      intro base w0 E w u sim hr
      simp only [RepV] at hr
      obtain ⟨us, rfl, hr⟩ := hr
      obtain ⟨E', k1, k2, k3, k4⟩ := h2.2 base w0 E w us sim hr
      exact ⟨E', S', k1, k2, e3 E' _ (by simp only [RepV]; exact ⟨us, rfl, dataVs_rep k3⟩)⟩
    · rename_i hnt
      obtain ⟨v', S', h1, h2, h3⟩ := nb_frz h
      obtain ⟨e1, e2, e3⟩ := exportW_rep h1
      refine ⟨?_, e2, ?_⟩
      · cases v with
        | bad =>
          have : nb v' = true := by
            have hq : nb (dataV C (ts.headD 0) v') = true := by
              generalize dataV C (ts.headD 0) v' = x at e1
              cases x <;> first | rfl | simp [notBad] at e1
            exact nb_dataV hq
          exact absurd (h3 this) (by simp [nb])
        | tup vs => exact absurd rfl (hnt vs)
        | _ => rfl
      · intro base w0 E w u sim hr
        obtain ⟨E', k1, k2, k3, k4⟩ := h2.2 base w0 E w u sim hr
        exact ⟨E', S', k1, k2, e3 E' u (dataV_rep k3)⟩
theorem far_fnW {P : Program} {C : Ctx} {tab : Tab} {call : CallH V} (hC : RowsOK P C) (hT : TabOK P tab) (hcall : CallOK P call) (hm : P.follows .mixedOrders = true) (fuel : Nat) {f : FuncId} {fn : Func} (hf : P.funcs[f]? = some fn) {args : List V} {v : V} {ts : List TypeId}
    (h : evFn C tab call fuel fn args [] (fun v S => exportFW C ts v S) = some v) : FarRes P f args v := by
  obtain ⟨v', S', h1, h2⟩ := fn_ok hC hT hcall hm fuel hf h
  obtain ⟨e1, e2, e3⟩ := exportFW_rep h1
  have h3 := h2 e1
  intro m w us R hl hr hR
  refine h3.2 w.heap.size w (Env.of m) w us R (sim_start hl) hr ?_
  intro E' u w' k1 k0 k2 k3
  obtain ⟨E2, S2, l1, l2, l3⟩ := e3 _ _ E' w' u k2 k3
  exact hR E2 S2 v u w' (k1.trans l1) l2 l3 (e2 S2)
def Sp.OkW (s : Sp) (T : Tab) (C : Ctx) (fn : Func) : Prop :=
  ∀ x : dens s.ts, FitsD s.ts x → s.pre x = true → ∃ F d, evFn C T (inl T F d) F fn (ofDens s.ts x) [] (fun v S => exportFW C fn.resultTypes.toList v S) = some (s.res x)
theorem add_okW {T : Tab} {g : FuncId} {C : Ctx} {fn : Func} (s : Sp) (hT : TabFar Try.prog T) (hC : RowsOK Try.prog C) (hf : Try.prog.funcs[g]? = some fn) (hn : (fn.name == "runtime.NumGoroutine") = false) (hb : fn.body.isNone = false)
    (h : s.OkW T C fn) : TabFar Try.prog (tabAdd T g s.ts s.F) := by
  intro i ts' F' hi
  unfold tabAdd at hi
  split at hi
  · rename_i he
    obtain rfl := Nat.eq_of_beq_eq_true he
    simp only [Option.some.injEq, Prod.mk.injEq] at hi
    obtain ⟨rfl, rfl⟩ := hi
    intro vs xs v h1 h2
    refine .inl ⟨⟨fn, hf, hn, hb⟩, ?_⟩
    intro m w us R hl hr hR
    obtain ⟨x, rfl, h3⟩ := toDens_some h2
    obtain ⟨h4, rfl⟩ := Prod.mk.inj (Option.some.inj h3)
    obtain ⟨F, d, h5⟩ := h x (fitsD_of (argsV_fits h1 hr)) h4
    exact far_fnW hC (tabFar_ok hT) (inl_ok (fun _ => rows_ok _) (tabFar_ok hT) mixed fnsOK d) mixed F hf h5 m w us R hl hr hR
  · exact hT i ts' F' hi
/-- a contract more, told of the machine in some other way -/
theorem add_far {T : Tab} {g : FuncId} {fn : Func} (s : Sp) (hT : TabFar Try.prog T) (hf : Try.prog.funcs[g]? = some fn) (hn : (fn.name == "runtime.NumGoroutine") = false) (hb : fn.body.isNone = false)
    (h : ∀ x : dens s.ts, s.pre x = true → FarRes Try.prog g (ofDens s.ts x) (s.res x)) : TabFar Try.prog (tabAdd T g s.ts s.F) := by
  intro i ts' F' hi
  unfold tabAdd at hi
  split at hi
  · rename_i he
    obtain rfl := Nat.eq_of_beq_eq_true he
    simp only [Option.some.injEq, Prod.mk.injEq] at hi
    obtain ⟨rfl, rfl⟩ := hi
    intro vs xs v h1 h2
    obtain ⟨x, rfl, h3⟩ := toDens_some h2
    obtain ⟨h4, rfl⟩ := Prod.mk.inj (Option.some.inj h3)
    exact .inl ⟨⟨fn, hf, hn, hb⟩, h x h4⟩
  · exact hT i ts' F' hi
theorem add_ext {T : Tab} {g : FuncId} (s : Sp) (hT : TabFar Try.prog T) (h : ∀ x : dens s.ts, s.pre x = true → ExtRes Try.prog g (ofDens s.ts x) (s.res x)) : TabFar Try.prog (tabAdd T g s.ts s.F) := by
  intro i ts' F' hi
  unfold tabAdd at hi
  split at hi
  · rename_i he
    obtain rfl := Nat.eq_of_beq_eq_true he
    simp only [Option.some.injEq, Prod.mk.injEq] at hi
    obtain ⟨rfl, rfl⟩ := hi
    intro vs xs v h1 h2
    obtain ⟨x, rfl, h3⟩ := toDens_some h2
    obtain ⟨h4, rfl⟩ := Prod.mk.inj (Option.some.inj h3)
    exact .inr (h x h4)
  · exact hT i ts' F' hi

theorem fitsD_rep {E : Env} : ∀ {ts : List Ty} {x : dens ts} {us : List Value}, RepVs E (ofDens ts x) us → FitsD ts x
  | [], _, _, _ => trivial
  | t :: ts, x, [], h => by simp [ofDens, RepVs] at h
  | t :: ts, x, u :: us, h => by
    simp only [ofDens, RepVs] at h
    refine ⟨?_, fitsD_rep h.2⟩
    have := h.1
    simp only [RepV] at this
    obtain ⟨zs, h1, _⟩ := this
    exact RepL.fits _ _ _ h1
/-- a contract for all data, of the machine -/
theorem far_of_ok {T : Tab} {g : FuncId} {C : Ctx} {fn : Func} (s : Sp) (hT : TabFar Try.prog T) (hC : RowsOK Try.prog C) (hf : Try.prog.funcs[g]? = some fn) (h : s.Ok T C fn) (x : dens s.ts) (hp : FitsD s.ts x → s.pre x = true) : FarRes Try.prog g (ofDens s.ts x) (s.res x) := by
  intro m w us R hl hr hR
  have hx := fitsD_rep hr
  obtain ⟨F, d, h5⟩ := h x hx (hp hx)
  exact far_fnF hC (tabFar_ok hT) (inl_ok (fun _ => rows_ok _) (tabFar_ok hT) mixed fnsOK d) mixed F hf h5 m w us R hl hr hR
/-- a contract that a table has may be laid on top -/
theorem on_top {T : Tab} {g : FuncId} {s : Sp} (h : T g = s.ent) : T = tabAdd T g s.ts s.F := by
  funext i
  unfold tabAdd
  split
  · rename_i he
    obtain rfl := Nat.eq_of_beq_eq_true he
    exact h
  · rfl
theorem add_new {T : Tab} {g : FuncId} (s : Sp) : tabAdd T g s.ts s.F g = s.ent := by
  have : Nat.beq g g = true := Nat.beq_refl g
  simp only [tabAdd, this]
theorem add_old {T : Tab} {g i : FuncId} (s r : Sp) (hne : Nat.beq i g = false) (h : T i = r.ent) : tabAdd T g s.ts s.F i = r.ent := by
  simp only [tabAdd, hne]; exact h

theorem fits_by {l : List Int} : Fits (.li (.it .u8)) l ↔ l.length ≤ 140737488355328 ∧ ∀ x ∈ l, 0 ≤ x ∧ x ≤ 255 := Iff.rfl
theorem fits_i64 {n : Int} : Fits (.it .i64) n ↔ -9223372036854775808 ≤ n ∧ n ≤ 9223372036854775807 := Iff.rfl
theorem fits_u64 {n : Int} : Fits (.it .u64) n ↔ 0 ≤ n ∧ n ≤ 18446744073709551615 := Iff.rfl
theorem fits_u32 {n : Int} : Fits (.it .u32) n ↔ 0 ≤ n ∧ n ≤ 4294967295 := Iff.rfl
theorem fits_u8 {n : Int} : Fits (.it .u8) n ↔ 0 ≤ n ∧ n ≤ 255 := Iff.rfl
end Go.Proofs.Ytdhbelpejaobdaa.Ev
/- Contracts of methods, of data of given kinds; contracts of functions that call methods. -/
namespace Go.Proofs.Ytdhbelpejaobdaa.Ev
open Go Go.RowKit
set_option linter.unusedVariables false
set_option linter.unusedSimpArgs false
set_option maxRecDepth 100000

structure MSp where
  T : Ty
  ts : List Ty
  pre : T.den → dens ts → Bool
  post : T.den → dens ts → T.den
  res : T.den → dens ts → V
def MSp.ent (s : MSp) : MEnt := ⟨s.T, s.ts, fun x vs => toDens s.ts vs fun ys => some (s.pre x ys, s.post x ys, s.res x ys)⟩
def M0 : MTab := fun _ => none
def mAdd (M : MTab) (g : FuncId) (s : MSp) : MTab := fun i => match Nat.beq i g with | true => some s.ent | false => M i
noncomputable abbrev callM {R : Type} (M : MTab) (T : Tab) (F d : Nat) : CallH R := methH M (inl T F d)
def MSp.Ok (s : MSp) (M : MTab) (T : Tab) (C : Ctx) (fn : Func) : Prop :=
  ∀ (x : s.T.den) (ys : dens s.ts), Fits s.T x → FitsD s.ts ys → s.pre x ys = true → ∃ F d, evFn C T (callM M T F d) F fn (.p 0 0 :: ofDens s.ts ys) [.obj (flatT s.T x)] (exportM s.T) = some (s.res x ys, s.post x ys)
def Sp.OkM (s : Sp) (M : MTab) (T : Tab) (C : Ctx) (fn : Func) : Prop :=
  ∀ x : dens s.ts, FitsD s.ts x → s.pre x = true → ∃ F d, evFn C T (callM M T F d) F fn (ofDens s.ts x) [] (fun v S => exportF C fn.resultTypes.toList v S) = some (s.res x)
def Sp.OkWM (s : Sp) (M : MTab) (T : Tab) (C : Ctx) (fn : Func) : Prop :=
  ∀ x : dens s.ts, FitsD s.ts x → s.pre x = true → ∃ F d, evFn C T (callM M T F d) F fn (ofDens s.ts x) [] (fun v S => exportFW C fn.resultTypes.toList v S) = some (s.res x)
theorem m0_ok {P : Program} : MTabOK P M0 := by intro g e h; simp [M0] at h
theorem callM_ok {R : Type} {M : MTab} {T : Tab} (hM : MTabOK Try.prog M) (hT : TabFar Try.prog T) (F d : Nat) : CallOK Try.prog (callM M T F d : CallH R) :=
  meth_ok hM (inl_ok (fun _ => rows_ok _) (tabFar_ok hT) mixed fnsOK d)
theorem ofDens_env : ∀ (ts : List Ty) (x : dens ts) (E E2 : Env) (us : List Value), E2.m = E.m → RepVs E (ofDens ts x) us → RepVs E2 (ofDens ts x) us
  | [], _, _, _, us, _, h => by cases us <;> simp_all [ofDens, RepVs]
  | t :: ts, x, E, E2, [], hm, h => by simp [ofDens, RepVs] at h
  | t :: ts, x, E, E2, u :: us, hm, h => by
    simp only [ofDens, RepVs] at h ⊢
    refine ⟨?_, ofDens_env ts x.2 E E2 us hm h.2⟩
    have := h.1
    simp only [RepV] at this ⊢
    rw [hm]; exact this
theorem madd_ok {M N : MTab} {T : Tab} {g : FuncId} {C : Ctx} {fn : Func} (s : MSp) (hM : MTabOK Try.prog M) (hT : TabFar Try.prog T) (hC : RowsOK Try.prog C) (hf : Try.prog.funcs[g]? = some fn) (hn : (fn.name == "runtime.NumGoroutine") = false) (hb : fn.body.isNone = false) (hg : s.T.agg = true)
    (h : s.Ok M T C fn) : MTabOK Try.prog (mAdd M g s) := by
  intro i e hi
  unfold mAdd at hi
  split at hi
  · rename_i he
    obtain rfl := Nat.eq_of_beq_eq_true he
    obtain rfl := Option.some.inj hi
    refine ⟨⟨fn, hf, hn, hb⟩, hg, ?_⟩
    intro x vs xs x' v h1 h2
    obtain ⟨ys, rfl, h3⟩ := toDens_some h2
    obtain ⟨h4, h6⟩ := Prod.mk.inj (Option.some.inj h3)
    obtain ⟨rfl, rfl⟩ := Prod.mk.inj h6
    intro m w b us0 us ty R hl hb' hx hn' hr hR
    obtain ⟨F, d, h5⟩ := h x ys (RepL.fits _ _ _ hx) (fitsD_rep hr) h4
    exact meth_fn hC (tabFar_ok hT) (callM_ok hM hT F d) mixed F hf (ofDens_env s.ts ys) h5 m w b us0 us ty R hl hb' hx hn' hr hR
  · exact hM i e hi
theorem add_okM {M : MTab} {T : Tab} {g : FuncId} {C : Ctx} {fn : Func} (s : Sp) (hM : MTabOK Try.prog M) (hT : TabFar Try.prog T) (hC : RowsOK Try.prog C) (hf : Try.prog.funcs[g]? = some fn) (hn : (fn.name == "runtime.NumGoroutine") = false) (hb : fn.body.isNone = false)
    (h : s.OkM M T C fn) : TabFar Try.prog (tabAdd T g s.ts s.F) := by
  intro i ts' F' hi
  unfold tabAdd at hi
  split at hi
  · rename_i he
    obtain rfl := Nat.eq_of_beq_eq_true he
    simp only [Option.some.injEq, Prod.mk.injEq] at hi
    obtain ⟨rfl, rfl⟩ := hi
    intro vs xs v h1 h2
    refine .inl ⟨⟨fn, hf, hn, hb⟩, ?_⟩
    intro m w us R hl hr hR
    obtain ⟨x, rfl, h3⟩ := toDens_some h2
    obtain ⟨h4, rfl⟩ := Prod.mk.inj (Option.some.inj h3)
    obtain ⟨F, d, h5⟩ := h x (fitsD_of (argsV_fits h1 hr)) h4
    exact far_fnF hC (tabFar_ok hT) (callM_ok hM hT F d) mixed F hf h5 m w us R hl hr hR
  · exact hT i ts' F' hi
theorem add_okWM {M : MTab} {T : Tab} {g : FuncId} {C : Ctx} {fn : Func} (s : Sp) (hM : MTabOK Try.prog M) (hT : TabFar Try.prog T) (hC : RowsOK Try.prog C) (hf : Try.prog.funcs[g]? = some fn) (hn : (fn.name == "runtime.NumGoroutine") = false) (hb : fn.body.isNone = false)
    (h : s.OkWM M T C fn) : TabFar Try.prog (tabAdd T g s.ts s.F) := by
  intro i ts' F' hi
  unfold tabAdd at hi
  split at hi
  · rename_i he
    obtain rfl := Nat.eq_of_beq_eq_true he
    simp only [Option.some.injEq, Prod.mk.injEq] at hi
    obtain ⟨rfl, rfl⟩ := hi
    intro vs xs v h1 h2
    refine .inl ⟨⟨fn, hf, hn, hb⟩, ?_⟩
    intro m w us R hl hr hR
    obtain ⟨x, rfl, h3⟩ := toDens_some h2
    obtain ⟨h4, rfl⟩ := Prod.mk.inj (Option.some.inj h3)
    obtain ⟨F, d, h5⟩ := h x (fitsD_of (argsV_fits h1 hr)) h4
    exact far_fnW hC (tabFar_ok hT) (callM_ok hM hT F d) mixed F hf h5 m w us R hl hr hR
  · exact hT i ts' F' hi
/-- a function that a table doesn't have -/
def tabNo (T : Tab) (g : FuncId) : Tab := fun i => match Nat.beq i g with | true => none | false => T i
theorem off_top {T : Tab} {g : FuncId} (h : T g = none) : T = tabNo T g := by
  funext i
  unfold tabNo
  split
  · rename_i he
    obtain rfl := Nat.eq_of_beq_eq_true he
    exact h
  · rfl
theorem m_on_top {M : MTab} {g : FuncId} {s : MSp} (h : M g = some s.ent) : M = mAdd M g s := by
  funext i
  unfold mAdd
  split
  · rename_i he
    obtain rfl := Nat.eq_of_beq_eq_true he
    exact h
  · rfl
end Go.Proofs.Ytdhbelpejaobdaa.Ev
