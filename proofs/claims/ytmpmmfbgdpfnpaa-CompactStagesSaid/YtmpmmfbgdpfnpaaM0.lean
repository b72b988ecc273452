/- Parts of the proof, joined by a program of this session: EvA, EvB, EvC, EvD, EvE, EvF, EvG, EvH, EvI, EvJ, EvK, EvL, EvM, EvN, EvO. -/
import Derived.Calls
import Derived.Laws.Entries
import Derived.Below
import Derived.Laws.AppendOwn
import Derived.ArgAppend
import GoSem.Core.Layout
import Derived.Laws.Tables
import Derived.Laws.Slices
import Derived.Laws.Strings
import Derived.Laws.StructEq
import Derived.Laws.BytesString
import Derived.Laws.CopyRow
import Derived.Laws.CopyOwn
import Derived.Laws.IdiomStrings
set_option linter.unusedVariables false
set_option linter.unusedSimpArgs false
set_option linter.unusedSectionVars false
/- A walker over plain values: what the translated code of a Go function does, told on numbers, bytes, lists and structs, with no memory in sight. (The definitions; EvB and on: that it tells the truth.) -/
namespace Go.Proofs.Ytmpmmfbgdpfnpaa.Ev
open Go

/-- kinds of data: bools, numbers, strings, nil pointers, slices, structs (field by field), arrays -/
inductive Ty where
  | bo | it (k : IntKind) | st | ni
  | li (t : Ty)
  | ue | co (t r : Ty)
  | ar (n : Nat) (t : Ty)
  deriving Inhabited
def Ty.beq : Ty → Ty → Bool
  | .bo, .bo => true | .it k, .it j => decide (k = j) | .st, .st => true | .ni, .ni => true
  | .li s, .li t => s.beq t
  | .ue, .ue => true
  | .co a b, .co c d => a.beq c && b.beq d
  | .ar n s, .ar m t => Nat.beq n m && s.beq t
  | _, _ => false
theorem Ty.eq_of_beq : ∀ {s t : Ty}, s.beq t = true → s = t := by
  intro s
  induction s with
  | bo => intro t h; cases t <;> simp [Ty.beq] at h; rfl
  | it k => intro t h; cases t <;> simp [Ty.beq] at h; rw [h]
  | st => intro t h; cases t <;> simp [Ty.beq] at h; rfl
  | ni => intro t h; cases t <;> simp [Ty.beq] at h; rfl
  | li s ih => intro t h; cases t <;> simp [Ty.beq] at h; rw [ih h]
  | ue => intro t h; cases t <;> simp [Ty.beq] at h; rfl
  | co a b iha ihb => intro t h; cases t <;> simp [Ty.beq] at h; rw [iha h.1, ihb h.2]
  | ar n s ih => intro t h; cases t <;> simp [Ty.beq] at h; rw [h.1, ih h.2]
theorem Ty.beq_refl : ∀ (s : Ty), s.beq s = true := by
  intro s
  induction s with
  | bo => rfl
  | it k => simp [Ty.beq]
  | st => rfl
  | ni => rfl
  | li s ih => simpa [Ty.beq] using ih
  | ue => rfl
  | co a b iha ihb => simp [Ty.beq, iha, ihb]
  | ar n s ih => simp [Ty.beq, ih]
/-- by a test whose proof is short -/
instance : DecidableEq Ty := fun s t => match h : Ty.beq s t with
  | true => isTrue (Ty.eq_of_beq h)
  | false => isFalse (fun e => by rw [e, Ty.beq_refl] at h; cases h)

@[reducible] def Ty.den : Ty → Type
  | .bo => Bool | .it _ => Int | .st => List Int | .ni => Unit
  | .li t => List t.den
  | .ue => Unit
  | .co t r => t.den × r.den
  | .ar _ t => List t.den

def Ty.dflt : (t : Ty) → t.den
  | .bo => false | .it _ => (0 : Int) | .st => ([] : List Int) | .ni => ()
  | .li t => ([] : List t.den)
  | .ue => ()
  | .co t r => (t.dflt, r.dflt)
  | .ar n t => (List.replicate n t.dflt : List t.den)

/-- how many cells it takes -/
def Ty.size : Ty → Nat
  | .ue => 0 | .co t r => t.size + r.size | .ar n t => n * t.size | _ => 1
/-- laid down cell by cell: a struct, an array -/
def Ty.agg : Ty → Bool
  | .ue | .co _ _ | .ar _ _ => true | _ => false

abbrev Ty.by : Ty := .li (.it .u8)

/-- what is behind a window: not known; all that its block has; nothing -/
inductive SCap where
  | unk | full | exact
  deriving DecidableEq, Inhabited

inductive V where
  | bad
  | un
  | nils
  | d (t : Ty) (x : t.den)
  | own (o : Nat) (t : Ty) (xs : List t.den)
  | p (o off : Nat)
  | ro (t : Ty) (x : t.den)
  /-- a window of a row that may be written to: of its state k, from a on, n elements of s cells; how far it may go on -/
  | sr (o k a n s : Nat) (c : SCap)
  /-- an element of a row -/
  | pr (o k i s : Nat)
  | agg (cs : List V)
  | tup (vs : List V)
  | fn (f : FuncId) (fi cap : List V)
  | nn (t : Ty) (xs : List t.den)
  | ifc (t : TypeId) (x : V)
  /-- a map of the function's own -/
  | mp (o : Nat)
instance : Inhabited V := ⟨.bad⟩

/-- what lies in memory of the function's own: an object of cells, a row of elements, a slice's frontier -/
inductive Ent where
  | gone
  | obj (cells : List V)
  /-- a row that may be written to, in its state k -/
  | row (k : Nat) (t : Ty) (xs : List t.den)
  /-- a row that is written to no more: data by now -/
  | frz (k : Nat) (t : Ty) (xs : List t.den)
  /-- a row from below that is read alone -/
  | rdo (k : Nat) (t : Ty) (xs : List t.den)
  | fam (len : Nat)
  /-- a family whose block is surely its own -/
  | lit (len : Nat)
  /-- a map of numbers: its keys -/
  | keys (k : IntKind) (ks : List Int)
instance : Inhabited Ent := ⟨.gone⟩

/-- what a type is, as far as the walker asks -/
inductive TD where
  | int (k : IntKind) | bool | str | slice (e : TypeId) | arr (n : Nat) (e : TypeId) | struct (fs : List (Nat × TypeId)) | ptr (e : TypeId) | other
  deriving DecidableEq, Inhabited
structure TRow where
  td : TD
  size : Nat
  bytes : Nat
  ty : Ty
  cells : List Ty
  /-- its methods: by name, the function, whether the receiver goes as it is (else it is read first) -/
  meths : List (String × FuncId × Bool) := []
  /-- of a map: its keys' kind -/
  mapk : Option (TypeId × IntKind) := none
  deriving Inhabited

structure Ctx where
  rows : List TRow
  live : Nat → List Nat × List Nat

def Ctx.row (C : Ctx) (t : TypeId) : TRow := C.rows.getD t ⟨.other, 0, 0, .ue, [], [], none⟩
def TD.good : TD → Bool | .other => false | _ => true
def TRow.isAgg (r : TRow) : Bool := match r.td with | .arr _ _ | .struct _ => true | _ => false

/-- a test, and the way that it opens: kept as they stand while the walker goes -/
class Tst where
  t : (p : Prop) → [Decidable p] → Bool
  ok : ∀ (p : Prop) [Decidable p], t p = decide p
def tst [Tst] (p : Prop) [Decidable p] : Bool := Tst.t p
theorem tst_eq [Tst] {p : Prop} [Decidable p] : tst p = decide p := Tst.ok p
/-- there is one way only -/
theorem Tst.one (a b : Tst) : a = b := by
  cases a with | mk f hf => cases b with | mk g hg =>
  have : @f = @g := by funext p d; rw [hf, hg]
  subst this; rfl
def br {A : Type} (x : Bool) (a b : A) : A := match x with | true => a | false => b
theorem tst_iff [tI : Tst] {p : Prop} [Decidable p] : tst p = true ↔ p := by rw [tst_eq]; exact decide_eq_true_iff
theorem tst_not [tI : Tst] {p : Prop} [Decidable p] : tst p = false ↔ ¬ p := by rw [tst_eq]; exact decide_eq_false_iff_not
theorem br_t {A : Type} {x : Bool} {a b : A} (h : x = true) : br x a b = a := by subst h; rfl
theorem br_f {A : Type} {x : Bool} {a b : A} (h : x = false) : br x a b = b := by subst h; rfl

def look : List V → Nat → V
  | [], _ => .bad
  | v :: _, 0 => v
  | _ :: vs, n + 1 => look vs n
def setK {R : Type} : List V → Nat → V → (List V → R) → R
  | [], _, _, k => k []
  | _ :: vs, 0, v, k => k (v :: vs)
  | u :: vs, n + 1, v, k => setK vs n v fun vs => k (u :: vs)
def ent : List Ent → Nat → Ent
  | [], _ => .gone
  | e :: _, 0 => e
  | _ :: es, n + 1 => ent es n
def setE {R : Type} : List Ent → Nat → Ent → (List Ent → R) → R
  | [], _, _, k => k []
  | _ :: es, 0, e, k => k (e :: es)
  | d :: es, n + 1, e, k => setE es n e fun es => k (d :: es)
def repK {R : Type} : Nat → List Ent → (List Ent → R) → R
  | 0, es, k => k es
  | n + 1, es, k => repK n (.gone :: es) k
/-- n places more -/
def growK {R : Type} : List Ent → Nat → (List Ent → R) → R
  | [], n, k => repK n [] k
  | e :: es, n, k => growK es n fun es => k (e :: es)
def setsE {R : Type} : List Ent → List (Nat × Ent) → (List Ent → R) → R
  | es, [], k => k es
  | es, (n, e) :: us, k => setE es n e fun es => setsE es us k

/-- a value's head is brought to light before it is laid down -/
def forceV {R : Type} (v : V) (k : V → R) : R :=
  match v with
  | .bad => k .bad | .un => k .un | .nils => k .nils | .d t x => k (.d t x) | .own o t xs => k (.own o t xs) | .p o a => k (.p o a) | .ro t x => k (.ro t x)
  | .sr o j a n s c => k (.sr o j a n s c) | .pr o j i s => k (.pr o j i s) | .agg cs => k (.agg cs) | .tup vs => k (.tup vs) | .fn f fs cs => k (.fn f fs cs) | .nn t x => k (.nn t x) | .ifc t x => k (.ifc t x) | .mp o => k (.mp o)
theorem forceV_eq {R : Type} (v : V) (k : V → R) : forceV v k = k v := by cases v <;> rfl
def lenK {R : Type} : List Ent → Nat → (Nat → R) → R
  | [], n, k => k n
  | _ :: es, n, k => lenK es (n + 1) k
def addK {R : Type} : Nat → Nat → (Nat → R) → R
  | n, 0, k => k n
  | n, m + 1, k => addK (n + 1) m k
theorem lenK_eq {R : Type} (es : List Ent) (k : Nat → R) : ∀ n, lenK es n k = k (n + es.length) := by
  induction es with
  | nil => intro n; rfl
  | cons e es ih => intro n; rw [lenK, ih, List.length_cons]; congr 1; omega
theorem addK_eq {R : Type} (m : Nat) (k : Nat → R) : ∀ n, addK n m k = k (n + m) := by
  induction m with
  | zero => intro n; rfl
  | succ m ih => intro n; rw [addK, ih]; congr 1; omega

def strInts (s : ByteArray) : List Int := s.data.toList.map fun b => (b.toNat : Int)
def inR (k : IntKind) (n : Int) : Bool := decide (k.min ≤ n) && decide (n ≤ k.max)

/-- a number, a string .. that the code has in it -/
def constV : Value → V
  | .bool b => .d .bo b
  | .int k n => if inR k n then .d (.it k) n else .bad
  | .string s => if s.size ≤ 140737488355328 then .d .st (strInts s) else .bad
  | .pointer none => .d .ni ()
  | .slice none 0 0 => .nils
  | _ => .bad
def oneC : Value → Bool | .agg _ | .tuple _ => false | _ => true
def constA : Value → V
  | .agg cs => if cs.toList.all oneC then .agg (cs.toList.map constV) else .bad
  | v => constV v
def opd (sl : List V) : Operand → V
  | .tmp t => look sl t
  | .const v => constA v
  | .func f => .fn f [] []
  | .global _ => .bad

/-- data seen as of a kind -/
def cast? (s t : Ty) (x : s.den) : Option t.den := if h : s = t then some (h ▸ x) else none

/-- the cells of data -/
def flatT : (t : Ty) → t.den → List V
  | .ue, _ => []
  | .co t r, x => flatT t x.1 ++ flatT r x.2
  | .ar n t, xs => (List.range n).flatMap fun i => flatT t (List.getD xs i t.dflt)
  | .bo, x => [.d .bo x] | .it k, x => [.d (.it k) x] | .st, x => [.d .st x] | .ni, x => [.d .ni x] | .li t, x => [.d (.li t) x]
def flatV : V → Option (List V)
  | .agg cs => some cs
  | .d t x => some (flatT t x)
  | .bad | .un | .tup _ => none
  | v => some [v]

/-- a cell seen as data of a kind of one cell -/
def cellT (t : Ty) : V → Option t.den
  | .d s x => cast? s t x
  | .own _ s xs => cast? (.li s) t xs
  | .nn s xs => cast? (.li s) t xs
  | .nils => match t with | .li s => some ([] : List s.den) | _ => none
  | _ => none
/-- cells seen as data of a kind, and those that are left -/
def unflat : (t : Ty) → List V → Option (t.den × List V)
  | .ue, cs => some ((), cs)
  | .co t r, cs => (unflat t cs).bind fun x => (unflat r x.2).map fun y => ((x.1, y.1), y.2)
  | .ar n t, cs => (go (unflat t) n cs).map fun x => (x.1, x.2)
  | .bo, v :: cs => (cellT .bo v).map fun x => (x, cs)
  | .it k, v :: cs => (cellT (.it k) v).map fun x => (x, cs)
  | .st, v :: cs => (cellT .st v).map fun x => (x, cs)
  | .ni, v :: cs => (cellT .ni v).map fun x => (x, cs)
  | .li t, v :: cs => (cellT (.li t) v).map fun x => (x, cs)
  | _, [] => none
where
  go {α : Type} (f : List V → Option (α × List V)) : Nat → List V → Option (List α × List V)
    | 0, cs => some ([], cs)
    | n + 1, cs => (f cs).bind fun x => (go f n x.2).map fun y => (x.1 :: y.1, y.2)
def asT (t : Ty) (v : V) : Option t.den :=
  match v with
  | .d s x => cast? s t x
  | .agg cs => if t.agg then (match unflat t cs with | some (x, []) => some x | _ => none) else none
  | v => cellT t v

/-- field f of data: how many cells lie ahead of it, and it -/
def fieldT : Nat → (t : Ty) → t.den → Nat → Option (Nat × (s : Ty) × s.den)
  | 0, .co t _, x, off => some (off, ⟨t, x.1⟩)
  | n + 1, .co t r, x, off => fieldT n r x.2 (off + t.size)
  | _, _, _, _ => none

def binI [tI : Tst] (op : BinOp) (k : IntKind) (a : Int) (j : IntKind) (b : Int) : Option (Bool × V) :=
  match op with
  | .shl => some (tst (0 ≤ b), .d (.it k) (k.wrap (a * 2 ^ min b.toNat k.bits)))
  | .shr => some (tst (0 ≤ b), .d (.it k) (a.fdiv (2 ^ min b.toNat k.bits)))
  | _ =>
    if k = j then
      match op with
      | .add => some (true, .d (.it k) (k.wrap (a + b)))
      | .sub => some (true, .d (.it k) (k.wrap (a - b)))
      | .mul => some (true, .d (.it k) (k.wrap (a * b)))
      | .quo => some (!tst (b = 0), .d (.it k) (k.wrap (a.tdiv b)))
      | .rem => some (!tst (b = 0), .d (.it k) (a.tmod b))
      | .and | .or | .xor | .andNot => some (true, .d (.it k) (bits op k a b))
      | .eql => some (true, .d .bo (tst (a = b)))
      | .neq => some (true, .d .bo (tst (a ≠ b)))
      | .lss => some (true, .d .bo (tst (a < b)))
      | .leq => some (true, .d .bo (tst (a ≤ b)))
      | .gtr => some (true, .d .bo (tst (a > b)))
      | .geq => some (true, .d .bo (tst (a ≥ b)))
      | _ => none
    else none
def isNil : V → Option Bool
  | .d .ni _ => some true
  | .p _ _ | .ro _ _ | .pr _ _ _ _ => some false
  | _ => none
/-- is it the nil slice? (where that is known) -/
def nilS [tI : Tst] : V → Option (Bool × Bool)
  | .nils => some (true, true)
  | .nn _ _ => some (true, false)
  | .d (.li _) xs => some (tst (0 < List.length xs), false)
  | .own _ _ xs => some (tst (0 < List.length xs), false)
  | _ => none
def nilV [tI : Tst] (td : TD) (op : BinOp) (x y : V) : Option (Bool × V) :=
  match td, y with
  | .slice _, .nils => match op with
    | .eql => (nilS x).map fun r => (r.1, .d .bo r.2)
    | .neq => (nilS x).map fun r => (r.1, .d .bo (!r.2))
    | _ => none
  | _, _ => none
def binV [tI : Tst] (td : TD) (op : BinOp) (x y : V) : Option (Bool × V) :=
  match x, y with
  | .d (.it k) a, .d (.it j) b => binI op k a j b
  | .d .bo a, .d .bo b => match td, op with
    | .bool, .eql => some (true, .d .bo (tst (a = b)))
    | .bool, .neq => some (true, .d .bo (tst (a ≠ b)))
    | _, _ => none
  | .d .st a, .d .st b => match op with
    | .eql => some (true, .d .bo (tst (a = b)))
    | .neq => some (true, .d .bo (tst (a ≠ b)))
    | _ => none
  | x, y => match td, isNil x, isNil y, op with
    | .ptr _, some a, some b, .eql => if a || b then some (true, .d .bo (a && b)) else none
    | .ptr _, some a, some b, .neq => if a || b then some (true, .d .bo (!(a && b))) else none
    | _, _, _, _ => nilV td op x y
/-- a struct of one number -/
def one1 : V → Option (IntKind × Int)
  | .agg [.d (.it k) a] => some (k, a)
  | .d (.co (.it k) .ue) x => some (k, x.1)
  | _ => none
/-- '==' of structs of one number too -/
def binC [tI : Tst] (C : Ctx) (t : TypeId) (op : BinOp) (x y : V) : Option (Bool × V) :=
  match (C.row t).td with
  | .struct [(0, e)] => match one1 x, one1 y, (C.row e).td with
    | some (k, a), some (j, b), .int i => (match op with
      | .eql => if k = i ∧ j = i then some (true, .d .bo (tst (a = b))) else none
      | .neq => if k = i ∧ j = i then some (true, .d .bo (tst (a ≠ b))) else none
      | _ => none)
    | _, _, _ => none
  | _ => binV (C.row t).td op x y
def unV (op : UnOp) (x : V) : Option V :=
  match op, x with
  | .neg, .d (.it k) n => some (.d (.it k) (k.wrap (0 - n)))
  | .xor, .d (.it k) n => some (.d (.it k) (bits .xor k (if k.signed then -1 else k.max) n))
  | .not, .d .bo b => some (.d .bo (!b))
  | _, _ => none

/-- the elements of a slice -/
def listV : V → Option ((t : Ty) × List t.den)
  | .d (.li t) xs => some ⟨t, xs⟩
  | .own _ t xs => some ⟨t, xs⟩
  | _ => none
def convV (C : Ctx) (src dst : TypeId) (x : V) : Option V :=
  match (C.row src).td, (C.row dst).td with
  | .int _, .int k => match x with | .d (.it _) n => some (.d (.it k) (k.wrap n)) | _ => none
  | .str, .str => match x with | .d .st l => some (.d .st l) | _ => none
  | .slice e, .str => match (C.row e).td with
    | .int .u8 => match x with
      | .nils => some (.d .st ([] : List Int))
      | .d (.li (.it .u8)) l => some (.d .st l)
      | .own _ (.it .u8) l => some (.d .st l)
      | _ => none
    | _ => none
  | .str, .slice e => match (C.row e).td with
    | .int .u8 => match x with | .d .st l => some (.d .by l) | _ => none
    | _ => none
  | _, _ => none
/-- a slice of the function's own, converted to its own type: its block is marked, and goes on no more -/
def convS [tI : Tst] (C : Ctx) (src dst : TypeId) (x : V) (S : List Ent) : Option (Bool × V × List (Nat × Ent)) :=
  match Nat.beq src dst, (C.row src).td, x with
  | true, .slice e, .own o (.it .u8) xs => match (C.row e).td, ent S o with
    | .int .u8, .lit n => some (tst (n = List.length xs), .d (.li (.it .u8)) xs, [(o, .gone)])
    | _, _ => none
  | _, _, _ => none
def lenV (td : TD) (x : V) : Option Int :=
  match td with
  | .str => match x with | .d .st l => some (List.length l) | _ => none
  | .slice _ => match x with
    | .d (.li _) xs => some (List.length xs)
    | .own _ _ xs => some (List.length xs)
    | .nils => some 0
    | .sr _ _ _ n _ _ => some n
    | _ => none
  | .arr n _ => if n ≤ 65536 then some n else none
  | _ => none
def minmax (mx : Bool) : List V → Option V
  | [.d (.it k) a, .d (.it j) b] => if k = j then some (.d (.it k) (if mx then (if b > a then b else a) else (if b < a then b else a))) else none
  | _ => none

/-- a slice's bounds: low, high, what is behind -/
def boundsV [tI : Tst] (n : Nat) (lo hi mx : Option V) : Option (Bool × Nat × Nat × Option Nat) :=
  let num : Option V → Int → Option Int := fun v z => match v with | none => some z | some (.d (.it _) a) => some a | _ => none
  (num hi n).bind fun h => (num lo 0).bind fun l =>
    match mx with
    | none => some (tst (0 ≤ l) && tst (l ≤ h) && tst (h ≤ n), l.toNat, h.toNat, none)
    | some m => if hi.isNone then none else (num (some m) 0).map fun m => (tst (0 ≤ l) && tst (l ≤ h) && tst (h ≤ m) && tst (m ≤ n), l.toNat, h.toNat, some m.toNat)

def replV : List V → Nat → List V → List V
  | _ :: cs, 0, v :: vs => v :: replV cs 0 vs
  | cs, 0, [] => cs
  | c :: cs, n + 1, vs => c :: replV cs n vs
  | [], _, _ => []

/-- fresh cells of types: each slice among them gets a frontier of its own, from 'id' on -/
def zeros : List Ty → Nat → List V
  | [], _ => []
  | .li t :: ts, id => .own id t ([] : List t.den) :: zeros ts (id + 1)
  | t :: ts, id => .d t t.dflt :: zeros ts id
def zeroFams : List Ty → Nat → List (Nat × Ent)
  | [], _ => []
  | .li _ :: ts, id => (id, .fam 0) :: zeroFams ts (id + 1)
  | _ :: ts, id => zeroFams ts id
def zerosR : List Ty → Nat → List V
  | [], _ => []
  | .li t :: ts, id => .sr id 0 0 0 t.size .full :: zerosR ts (id + 1)
  | t :: ts, id => .d t t.dflt :: zerosR ts id
def zeroRows : List Ty → Nat → List (Nat × Ent)
  | [], _ => []
  | .li t :: ts, id => (id, .row 0 t ([] : List t.den)) :: zeroRows ts (id + 1)
  | _ :: ts, id => zeroRows ts id
def slices : List Ty → Nat
  | [] => 0
  | .li _ :: ts => slices ts + 1
  | _ :: ts => slices ts

/-- how many entries an operation may make -/
def need (C : Ctx) (o : Oper) : Nat :=
  match o.op with
  | .alloc t => 1 + slices (C.row t).cells
  | .assign _ => (match (C.row o.type).ty with | .li _ => 1 | _ => 0)
  | .store t _ _ => (match (C.row t).ty with | .li _ => 1 | _ => 0)
  | .makeMap _ _ => 1
  | .box _ _ | .buildSlice _ _ _ | .makeSlice _ _ _ | .slice _ _ _ _ (some _) | .call _ => 1
  | _ => 0

abbrev Out := Bool × V × List (Nat × Ent)
def val (v : V) : Option Out := some (true, v, [])

/-- a type is brought to light, as deep as it goes -/
def forceTy {R : Type} : Ty → (Ty → R) → R
  | .bo, k => k .bo | .it i, k => k (.it i) | .st, k => k .st | .ni, k => k .ni | .ue, k => k .ue
  | .li t, k => forceTy t fun t => k (.li t)
  | .co a b, k => forceTy a fun a => forceTy b fun b => k (.co a b)
  | .ar n t, k => forceTy t fun t => k (.ar n t)
theorem forceTy_eq {R : Type} : ∀ (t : Ty) (k : Ty → R), forceTy t k = k t
  | .bo, _ => rfl | .it _, _ => rfl | .st, _ => rfl | .ni, _ => rfl | .ue, _ => rfl
  | .li t, k => by rw [forceTy, forceTy_eq t]
  | .co a b, k => by rw [forceTy, forceTy_eq a, forceTy_eq b]
  | .ar n t, k => by rw [forceTy, forceTy_eq t]
/-- a row that may be read -/
def rowOf : Ent → Option (Nat × (t : Ty) × List t.den)
  | .row k t xs => some (k, ⟨t, xs⟩)
  | .frz k t xs => some (k, ⟨t, xs⟩)
  | .rdo k t xs => some (k, ⟨t, xs⟩)
  | _ => none
/-- what a window shows: whether it is there, and its elements -/
def winV [tI : Tst] (S : List Ent) (t : Ty) (o k a n : Nat) : Option (Bool × List t.den) :=
  match rowOf (ent S o) with
  | some (j, ⟨s, xs⟩) => (cast? (.li s) (.li t) xs).map fun (xs : List t.den) => (tst (k = j) && tst (a + n ≤ List.length xs), (List.drop a xs).take n)
  | none => none
/-- slots whose slices are to be rows that may be written to: told with the live slots -/
def hintKey : Nat := 999999
def hinted (C : Ctx) (o : Oper) : Bool := match o.dst with | some d => (C.live hintKey).1.any (Nat.beq d) | none => false
/-- what is appended: whether it is there, and its elements -/
def newsV [tI : Tst] (S : List Ent) (t : Ty) (td : TD) (x : V) : Option (Bool × List t.den) :=
  match td, x with
  | .int _, .d (.it _) n => some (tst (0 ≤ n) && tst (n ≤ 140737488355328), List.replicate n.toNat t.dflt)
  | .str, .d .st l => (cast? .by (.li t) l).map fun l => (true, l)
  | .slice _, .sr o k a n _ _ => winV S t o k a n
  | .slice _, x => (asT (.li t) x).map fun l => (true, l)
  | _, _ => none
def appendV [tI : Tst] (C : Ctx) (id : Nat) (S : List Ent) (hint : Bool) (st xt : TypeId) (s x : V) : Option Out :=
  match (C.row st).td with
  | .slice e => forceTy (C.row e).ty fun t =>
    (newsV S t (C.row xt).td x).bind fun (g, ys) =>
      match s with
      | .nils => match hint with
        | false => some (g && tst (ys.length * (C.row e).bytes ≤ 140737488355328), .own id t ys, [(id, .fam ys.length)])
        | true => some (g && tst (ys.length * (C.row e).bytes ≤ 140737488355328), .sr id 0 0 ys.length t.size .full, [(id, .row 0 t ys)])
      | .sr o k 0 n _ c => match ent S o with
        | .row j t' xs' => (cast? (.li t') (.li t) xs').bind fun (xs : List t.den) => match c with
          | .full => some (g && tst (k = j) && tst (n ≤ List.length xs) && tst ((n + ys.length) * (C.row e).bytes ≤ 140737488355328), .sr o (k + 1) 0 (n + ys.length) t.size .full, [(o, .row (k + 1) t (List.take n xs ++ ys ++ List.drop (n + ys.length) xs))])
          | .exact => some (g && tst (k = j) && tst (n ≤ List.length xs) && tst ((n + ys.length) * (C.row e).bytes ≤ 140737488355328), .sr o (k + 1) 0 (n + ys.length) t.size .full, [(o, .row (k + 1) t (List.take n xs ++ ys))])
          | .unk => none
        | _ => none
      | .own o t' xs' => (cast? (.li t') (.li t) xs').bind fun xs =>
        match ent S o with
        | .fam n => some (g && tst (n = List.length xs) && tst ((List.length xs + ys.length) * (C.row e).bytes ≤ 140737488355328), .own o t (xs ++ ys), [(o, .fam (List.length (xs ++ ys)))])
        | .lit n => some (g && tst (n = List.length xs) && tst ((List.length xs + ys.length) * (C.row e).bytes ≤ 140737488355328), .own o t (xs ++ ys), [(o, .fam (List.length (xs ++ ys)))])
        | _ => none
      | _ => none
  | _ => none

def copyV [tI : Tst] (C : Ctx) (S : List Ent) (dt : TypeId) (d x : V) : Option Out :=
  match (C.row dt).td, d with
  | .slice e, .sr o k a n z _ => match ent S o with
    | .row j t xs => if (C.row e).size = t.size then
        (match x with
          | .sr o' k' a' n' _ _ => winV S t o' k' a' n'
          | x => (asT (.li t) x).map fun l => (true, l)).map fun (g, ys) =>
        (g && tst (k = j) && tst (a + n ≤ List.length xs), .d (.it .i64) (min (List.length ys : Int) (n : Int)), [(o, .row j t (List.take a xs ++ List.take n ys ++ List.drop (a + min (List.length ys) n) xs))])
      else none
    | _ => none
  | _, _ => none
def clearV [tI : Tst] (C : Ctx) (S : List Ent) (t : TypeId) (x : V) : Option Out :=
  match (C.row t).td, x with
  | .slice e, .sr o k a n z _ => match ent S o with
    | .row j t xs => if (C.row e).ty = t then some (tst (k = j) && tst (a + n ≤ List.length xs), .tup [], [(o, .row j t (List.take a xs ++ List.replicate n t.dflt ++ List.drop (a + n) xs))]) else none
    | _ => none
  | _, _ => none
def loadV [tI : Tst] (C : Ctx) (S : List Ent) (t : TypeId) (a : V) : Option Out :=
  if (C.row t).td.good = false then none else
  match a with
  | .p o off => match ent S o with
    | .obj cs => if off + (C.row t).size ≤ cs.length then (if (C.row t).isAgg then val (.agg ((cs.drop off).take (C.row t).size)) else if (C.row t).size = 1 then val (look cs off) else none) else none
    | _ => none
  | .ro s x => if s.agg = (C.row t).isAgg ∧ s.size = (C.row t).size then val (.d s x) else none
  | .pr o k i _ => match rowOf (ent S o) with
    | some (j, ⟨s, xs⟩) => if s.agg = (C.row t).isAgg ∧ s.size = (C.row t).size then some (tst (k = j) && tst (i < List.length xs), .d s (List.getD xs i s.dflt), []) else none
    | none => none
  | _ => none
def storeV [tI : Tst] (C : Ctx) (id : Nat) (S : List Ent) (t : TypeId) (a v : V) : Option Out :=
  if (C.row t).td.good = false then none else
  match a with
  | .p o off => match ent S o with
    | .obj cs =>
      let w : Option (List V × List (Nat × Ent)) := match v with
        | .nils => match (C.row t).ty with | .li e => some ([.own id e ([] : List e.den)], [(id, .fam 0)]) | _ => none
        | v => (flatV v).map fun vs => (vs, [])
      w.bind fun (vs, us) => if vs.length = (C.row t).size ∧ off + vs.length ≤ cs.length then some (true, .un, (o, .obj (replV cs off vs)) :: us) else none
    | _ => none
  | .pr o k i _ => match ent S o with
    | .row j s xs => if s.size = (C.row t).size then (asT s v).map fun x => (tst (k = j) && tst (i < List.length xs), .un, [(o, .row j s (List.set xs i x))]) else none
    | _ => none
  | _ => none

def sliceV [tI : Tst] (C : Ctx) (id : Nat) (t : TypeId) (x : V) (lo hi mx : Option V) : Option Out :=
  match x with
  | .d .st l => match (C.row t).td with
    | .str => if mx.isNone then (boundsV (List.length l) lo hi none).map fun (g, a, b, _) => (g, .d .st ((List.take b l).drop a), []) else none
    | _ => none
  | .sr o k off n z c => match (C.row t).td with
    | .slice e => if (C.row e).size = z then (boundsV n lo hi mx).map fun (g, a, b, m) => match m with
        | none => (g, .sr o k (off + a) (b - a) z (match lo, c with | none, .full => .full | _, .exact => (match hi with | none => .exact | some _ => .unk) | _, _ => .unk), [])
        | some m => (g && tst (m = b), .sr o k (off + a) (b - a) z .exact, []) else none
    | _ => none
  | .nils => match (C.row t).td with
    | .slice _ => (boundsV 0 lo hi mx).map fun (g, _, _, _) => (g, .nils, [])
    | _ => none
  | x => match (C.row t).td with
    | .slice e => (listV x).bind fun ⟨s, xs⟩ => if (C.row e).size = s.size then (boundsV xs.length lo hi mx).map fun (g, a, b, m) =>
        match m with
        | none => (g, .d (.li s) ((List.take b xs).drop a), [])
        | some m => (g && tst (m = b), .own id s ((List.take b xs).drop a), [(id, .fam (List.length ((List.take b xs).drop a)))])
      else none
    | _ => none

def indexAddrV [tI : Tst] (C : Ctx) (t : TypeId) (x i : V) : Option Out :=
  match i with
  | .d (.it _) n => match (C.row t).td with
    | .slice e => match x with
      | .d (.li s) xs => if (C.row e).size = s.size then some (tst (0 ≤ n) && tst (n < (List.length xs : Int)), .ro s (List.getD xs n.toNat s.dflt), []) else none
      | .own _ s xs => if (C.row e).size = s.size then some (tst (0 ≤ n) && tst (n < (List.length xs : Int)), .ro s (List.getD xs n.toNat s.dflt), []) else none
      | .sr o k off len z _ => if (C.row e).size = z then some (tst (0 ≤ n) && tst (n < (len : Int)), .pr o k (off + n.toNat) z, []) else none
      | _ => none
    | .arr m e => match x with
      | .p o off => some (tst (0 ≤ n) && tst (n < (m : Int)), .p o (off + n.toNat * (C.row e).size), [])
      | .ro (.ar k s) xs => if k = m ∧ (C.row e).size = s.size then some (tst (0 ≤ n) && tst (n < (m : Int)), .ro s (List.getD xs n.toNat s.dflt), []) else none
      | _ => none
    | _ => none
  | _ => none
def indexV [tI : Tst] (C : Ctx) (t : TypeId) (x i : V) : Option Out :=
  match i with
  | .d (.it _) n => match (C.row t).td with
    | .str => match x with
      | .d .st l => some (tst (0 ≤ n) && tst (n < (List.length l : Int)), .d (.it .u8) (List.getD l n.toNat 0), [])
      | _ => none
    | .arr m e => match x with
      | .d (.ar k s) xs => if k = m ∧ (C.row e).size = s.size ∧ (C.row e).isAgg = s.agg then some (tst (0 ≤ n) && tst (n < (m : Int)), .d s (List.getD xs n.toNat s.dflt), []) else none
      | .agg cs => if cs.length = m * (C.row e).size then (if (C.row e).isAgg then some (tst (0 ≤ n) && tst (n < (m : Int)), .agg ((cs.drop (n.toNat * (C.row e).size)).take (C.row e).size), []) else some (tst (0 ≤ n) && tst (n < (m : Int)), look cs (n.toNat * (C.row e).size), [])) else none
      | _ => none
    | _ => none
  | _ => none
def fieldAddrV (C : Ctx) (t : TypeId) (x : V) (f : Nat) : Option Out :=
  match (C.row t).td with
  | .struct fs => match fs[f]? with
    | some (off, _) => match x with
      | .p o a => val (.p o (a + off))
      | .ro s x => match fieldT f s x 0 with
        | some (a, ⟨r, y⟩) => if a = off then val (.ro r y) else none
        | none => none
      | _ => none
    | none => none
  | _ => none
def fieldV (C : Ctx) (t : TypeId) (x : V) (f : Nat) : Option Out :=
  match (C.row t).td with
  | .struct fs => match fs[f]? with
    | some (off, e) => match x with
      | .agg cs => if off + (C.row e).size ≤ cs.length then (if (C.row e).isAgg then val (.agg ((cs.drop off).take (C.row e).size)) else val (look cs off)) else none
      | .d s x => match fieldT f s x 0 with
        | some (a, ⟨r, y⟩) => if a = off ∧ r.agg = (C.row e).isAgg ∧ r.size = (C.row e).size then val (.d r y) else none
        | none => none
      | _ => none
    | none => none
  | _ => none

def buildV (offs : Nat → Option (Nat × Nat)) : List (Nat × V) → List V → Option (List V)
  | [], cs => some cs
  | (i, v) :: ps, cs => match offs i with
    | some (off, size) => (flatV v).bind fun vs => if vs.length = size ∧ off + size ≤ cs.length then buildV offs ps (replV cs off vs) else none
    | none => none
def elemsV (t : Ty) : Nat → List (Nat × V) → Option (List t.den)
  | _, [] => some []
  | n, (i, v) :: ps => if i = n then (asT t v).bind fun x => (elemsV t (n + 1) ps).map fun xs => x :: xs else none

/-- one operation: whether it goes through, what it tells, what it turns -/
def evOp [tI : Tst] (C : Ctx) (o : Oper) (id : Nat) (r : Operand → V) (S : List Ent) : Option Out :=
  match o.op with
  | .move x => val (r x)
  | .assign x => match r x with
    | .nils => (match (C.row o.type).ty with | .li t => (match hinted C o with | false => some (true, .own id t ([] : List t.den), [(id, .fam 0)]) | true => some (true, .sr id 0 0 0 t.size .full, [(id, .row 0 t ([] : List t.den))])) | _ => val .nils)
    | v => val v
  | .pick c a b => match r c with | .d .bo x => val (br x (r a) (r b)) | _ => none
  | .alloc t => if (C.row t).td.good = true then (match hinted C o with
      | false => some (true, .p id 0, (id, .obj (zeros (C.row t).cells (id + 1))) :: zeroFams (C.row t).cells (id + 1))
      | true => some (true, .p id 0, (id, .obj (zerosR (C.row t).cells (id + 1))) :: zeroRows (C.row t).cells (id + 1))) else none
  | .box _ x => (flatV (r x)).map fun vs => (true, .p id 0, [(id, .obj vs)])
  | .build t ps => match (C.row t).td with
    | .struct fs => (buildV (fun i => (fs[i]?).map fun f => (f.1, (C.row f.2).size)) (ps.toList.map fun (i, x) => (i, r x)) ((C.row t).cells.map fun t => .d t t.dflt)).bind fun cs => val (.agg cs)
    | .arr _ e => (buildV (fun i => some (i * (C.row e).size, (C.row e).size)) (ps.toList.map fun (i, x) => (i, r x)) ((C.row t).cells.map fun t => .d t t.dflt)).bind fun cs => val (.agg cs)
    | _ => none
  | .buildSlice t n ps => match (C.row t).td with
    | .slice e => if ps.size = n ∧ n * (C.row e).size ≤ 16777216 then forceTy (C.row e).ty fun t => (elemsV t 0 (ps.toList.map fun (i, x) => (i, r x))).bind fun xs => (match hinted C o with | false => some (true, .own id t xs, [(id, .lit xs.length)]) | true => some (true, .sr id 0 0 xs.length t.size .full, [(id, .row 0 t xs)])) else none
    | _ => none
  | .makeSlice t l c => match (C.row t).td, r l, r c with
    | .slice e, .d (.it .i64) n, .d (.it .i64) m => forceTy (C.row e).ty fun t => some (tst (0 ≤ n) && tst (n ≤ m) && tst (m.toNat * (C.row e).bytes ≤ 140737488355328), .sr id 0 0 n.toNat t.size .full, [(id, .row 0 t (List.replicate m.toNat t.dflt))])
    | _, _, _ => none
  | .load t a => loadV C S t (r a)
  | .store t a x => storeV C id S t (r a) (r x)
  | .nilCheck x => match r x with
    | .p o a => val (.p o a) | .ro t x => val (.ro t x) | .pr o k i s => val (.pr o k i s) | .fn f fs c => val (.fn f fs c) | _ => none
  | .binOp op t x y _ => (binC C t op (r x) (r y)).map fun (g, v) => (g, v, [])
  | .unOp op _ x => (unV op (r x)).bind val
  | .convert src dst x => match convS C src dst (r x) S with | some out => some out | none => (convV C src dst (r x)).bind val
  | .makeInterface t x => if (C.row t).td.good = true then val (.ifc t (r x)) else none
  | .makeFunc (.func f) first cap => val (.fn f (first.toList.map r) (cap.toList.map r))
  | .slice t x lo hi mx => sliceV C id t (r x) (lo.map r) (hi.map r) (mx.map r)
  | .fieldAddr t x f => fieldAddrV C t (r x) f
  | .field t x f => fieldV C t (r x) f
  | .indexAddr t x i => indexAddrV C t (r x) (r i)
  | .index t x i => indexV C t (r x) (r i)
  | .typeAssert x _ t ok => match r x with
    | .ifc s v => if (C.row t).td.good = true ∧ s = t then (if ok then val (.tup [v, .d .bo true]) else val v) else none
    | _ => none
  | .extract x i => match r x with | .tup vs => (match vs[i]? with | some v => val v | none => none) | _ => none
  | .call { callee := .builtin b, args, argTypes } =>
    match b, args.toList, argTypes.toList with
    | .len, [x], [t] => (lenV (C.row t).td (r x)).bind fun n => val (.d (.it .i64) n)
    | .append, [s, x], [st, xt] => appendV C id S (hinted C o) st xt (r s) (r x)
    | .copy, [d, x], [dt, _] => copyV C S dt (r d) (r x)
    | .clear, [x], [t] => clearV C S t (r x)
    | .min, [x, y], _ => (minmax false [r x, r y]).bind val
    | .max, [x, y], _ => (minmax true [r x, r y]).bind val
    | _, _, _ => none
  | _ => none

inductive Ex where
  | normal | exit (id : Nat) | ret

section
variable {R : Type}
/-- a call that the walker goes into: of its arguments, what it may make first, and the memory -/
abbrev CallH (R : Type) := FuncId → List V → Nat → List Ent → (V → List Ent → Option R) → Option R
/-- calls by contract: the kinds of the arguments, and what is told of them -/
abbrev Tab := FuncId → Option (List Ty × (List V → Option (Bool × V)))

/-- what an operation touches of what is there already: nothing; nothing, but it makes something; one entry, reading or turning it; any -/
inductive Touch where
  | no | new | rd (o : Nat) | wr (o : Nat) | all
  deriving DecidableEq

/-- arguments seen as data of their kinds -/
def argsV : List Ty → List V → Option (List V)
  | [], [] => some []
  | t :: ts, v :: vs => (asT t v).bind fun x => (argsV ts vs).map fun ys => .d t x :: ys
  | _, _ => none
/-- what a contract tells, with a family for the first slice of its own -/
def importV (id : Nat) : V → V × Option Nat
  | .own _ t xs => (.own id t xs, some (List.length xs))
  | .tup vs => let r := go id vs; (.tup r.1, r.2)
  | v => (v, none)
where
  go (id : Nat) : List V → List V × Option Nat
    | [] => ([], none)
    | .own _ t xs :: vs => (.own id t xs :: rest vs, some (List.length xs))
    | v :: vs => let r := go id vs; (v :: r.1, r.2)
  rest : List V → List V
    | [] => []
    | .own _ t xs :: vs => .d (.li t) xs :: rest vs
    | v :: vs => v :: rest vs
def tabV (tab : Tab) (g : FuncId) (args : List V) (id : Nat) : Option Out :=
  match tab g with
  | some (ts, F) => (argsV ts args).bind fun xs => (F xs).map fun (g, v) => (g, (importV id v).1, match (importV id v).2 with | some n => [(id, .fam n)] | none => [])
  | none => none

/-- rows among values: windows, and structs that hold some -/
def isRow : V → Bool | .sr .. => true | _ => false
def rowV : V → Bool | .sr .. => true | .agg cs => rowy1 cs | _ => false
where rowy1 : List V → Bool
  | [] => false
  | c :: cs => match isRow c with | true => true | false => rowy1 cs
def rowy : List V → Bool
  | [] => false
  | v :: vs => match rowV v with | true => true | false => rowy vs
def rowR : V → Bool | .tup vs => rowy vs | v => rowV v
def Ty.flat : Ty → Bool
  | .li _ => false | .co t r => t.flat && r.flat | .ar _ t => t.flat | _ => true
/-- does it speak of no memory? -/
def flat1 : V → Bool | .d t _ => t.flat | .un => true | _ => false
def flatR : V → Bool | .tup vs => vs.all flat1 | v => flat1 v

section
variable [tI : Tst] {R : Type} (S : List Ent)
/-- a value as data, read now -/
def dat1 (v : V) (k : V → Option R) : Option R :=
  match v with
  | .sr o j a n _ _ => match rowOf (ent S o) with
    | some (i, ⟨t, xs⟩) => br (tst (j = i) && tst (a + n ≤ List.length xs)) (k (.d (.li t) (List.take n (List.drop a xs)))) none
    | none => none
  | .own _ t xs => k (.d (.li t) xs)
  | .d t x => k (.d t x)
  | .nils => k .nils
  | _ => none
def datC : List V → (List V → Option R) → Option R
  | [], k => k []
  | c :: cs, k => dat1 S c fun c => datC cs fun cs => k (c :: cs)
def datV (v : V) (k : V → Option R) : Option R :=
  match v with
  | .agg cs => datC S cs fun cs => k (.agg cs)
  | v => dat1 S v k
def datA : List V → (List V → Option R) → Option R
  | [], k => k []
  | v :: vs, k => datV S v fun v => datA vs fun vs => k (v :: vs)
end
section
variable [tI : Tst] {R : Type}
/-- rows are written to no more: what a value shows is data -/
def frz1 (S : List Ent) (v : V) (k : V → List Ent → Option R) : Option R :=
  match v with
  | .sr o j a n s c => match ent S o with
    | .row i t xs => br (tst (j = i) && tst (a + n ≤ List.length xs)) (setE S o (.frz i t xs) fun S => k (.d (.li t) (List.take n (List.drop a xs))) S) none
    | .frz i t xs => br (tst (j = i) && tst (a + n ≤ List.length xs)) (k (.d (.li t) (List.take n (List.drop a xs))) S) none
    | _ => none
  | v => k v S
def frzC : List Ent → List V → (List V → List Ent → Option R) → Option R
  | S, [], k => k [] S
  | S, c :: cs, k => frz1 S c fun c S => frzC S cs fun cs S => k (c :: cs) S
def frzV (S : List Ent) (v : V) (k : V → List Ent → Option R) : Option R :=
  match v with
  | .agg cs => frzC S cs fun cs S => k (.agg cs) S
  | v => frz1 S v k
def frzA : List Ent → List V → (List V → List Ent → Option R) → Option R
  | S, [], k => k [] S
  | S, v :: vs, k => frzV S v fun v S => frzA S vs fun vs S => k (v :: vs) S
end
def touch (tab : Tab) (o : Oper) (r : Operand → V) : Touch :=
  match o.op with
  | .alloc _ | .box _ _ | .makeSlice _ _ _ => .new
  | .buildSlice _ _ ps => match rowy (ps.toList.map fun (_, x) => r x) with | false => .new | true => .all
  | .assign x => match r x with | .nils => .new | _ => .no
  | .slice _ _ _ _ (some _) => .new
  | .load _ a => match r a with | .p o _ => .rd o | .pr o _ _ _ => .rd o | _ => .no
  | .convert s d x => match Nat.beq s d, r x with | true, .own o _ _ => .wr o | _, _ => .no
  | .store _ a _ => match r a with | .p o _ => .wr o | .pr o _ _ _ => .wr o | _ => .no
  | .call { callee := .builtin .append, args, .. } => match (args.toList[1]?).map r with
    | some (.sr ..) => .all
    | _ => match (args.toList[0]?).map r with | some (.own o _ _) => .wr o | some (.sr o ..) => .wr o | _ => .new
  | .call { callee := .builtin .copy, .. } => .all
  | .call { callee := .builtin .clear, .. } => .all
  | .call { callee := .builtin .len, args, .. } => match (args.toList[0]?).map r with | some (.mp _) => .all | _ => .no
  | .call { callee := .builtin _, .. } => .no
  | .makeMap _ _ => .all
  | .mapUpdate _ _ _ _ => .all
  | .call { callee := .value f, args, .. } => match r f with | .fn g fi cap => (match tab g with | some _ => (match rowy (fi ++ args.toList.map r ++ cap) with | false => .new | true => .all) | none => .all) | _ => .all
  | .call _ => .all
  | _ => .no

def forceT (t : Touch) (k : Touch → Option R) : Option R := match t with | .no => k .no | .new => k .new | .rd o => k (.rd o) | .wr o => k (.wr o) | .all => k .all
theorem forceT_eq (t : Touch) (k : Touch → Option R) : forceT t k = k t := by cases t <;> rfl
def dstK (dst : Option Tmp) (sl : List V) (v : V) (k : List V → Option R) : Option R :=
  match dst with
  | some d => forceV v fun v => setK sl d v k
  | none => k sl

/-- a call by contract where rows are among the arguments: they are read, and stand where nothing that is told speaks of memory; else they are written to no more -/
def rowCall [tI : Tst] (tab : Tab) (g : FuncId) (args : List V) (id : Nat) (S : List Ent) (k : V → List Ent → Option R) : Option R :=
  datA S args fun xs => match tabV tab g xs id with
    | some (b, v, us) => match flatR v with
      | true => br b (k v S) none
      | false => frzA S args fun args S => match tabV tab g args id with
        | some (b, v, us) => br b (setsE S us fun S => k v S) none
        | none => none
    | none => none
/-- a slice built of parts that hold rows -/
def rowBuild [tI : Tst] (C : Ctx) (o : Oper) (id : Nat) (r : Operand → V) (S : List Ent) (k : V → List Ent → Option R) : Option R :=
  match o.op with
  | .buildSlice t n ps => match (C.row t).td with
    | .slice e => if ps.size = n ∧ n * (C.row e).size ≤ 16777216 then forceTy (C.row e).ty fun t => frzA S (ps.toList.map fun (_, x) => r x) fun vs S =>
        match elemsV t 0 ((ps.toList.map (·.1)).zip vs) with
        | some xs => setE S id (.lit xs.length) fun S => k (.own id t xs) S
        | none => none
      else none
    | _ => none
  | _ => none

/-- a call, by contract or gone into -/
def callK [tI : Tst] (tab : Tab) (call : CallH R) (g : FuncId) (args : List V) (id : Nat) (S : List Ent) (k : V → List Ent → Option R) : Option R :=
  match tab g with
  | some _ => match rowy args with
    | false => (match tabV tab g args id with
      | some (b, v, us) => br b (setsE S us fun S => k v S) none
      | none => none)
    | true => rowCall tab g args id S k
  | none => call g args id S k
def methL : List (String × FuncId × Bool) → String → Option (FuncId × Bool)
  | [], _ => none
  | (n, g, b) :: ms, name => match n == name with | true => some (g, b) | false => methL ms name
/-- a call through an interface: the method, the receiver -/
def invK [tI : Tst] (C : Ctx) (tab : Tab) (call : CallH R) (x : V) (name : String) (args : List V) (id : Nat) (S : List Ent) (k : V → List Ent → Option R) : Option R :=
  match x with
  | .ifc t v => match methL (C.row t).meths name with
    | some (g, true) => callK tab call g (v :: args) id S k
    | some (g, false) => match (C.row t).td with
      | .ptr e => match v with
        | .p o off => (match loadV C S e (.p o off) with
          | some (true, v, _) => callK tab call g (v :: args) id S k
          | _ => none)
        | _ => none
      | _ => none
    | none => none
  | _ => none
def addKey (ks : List Int) (x : Int) : List Int := match ks.contains x with | true => ks | false => ks ++ [x]
/-- maps: made, laid into, their length -/
def mapK (C : Ctx) (o : Oper) (id : Nat) (r : Operand → V) (S : List Ent) (k : V → List Ent → Option R) : Option R :=
  match o.op with
  | .makeMap t none => match (C.row t).mapk with
    | some (_, j) => setE S id (.keys j []) fun S => k (.mp id) S
    | none => none
  | .mapUpdate t m key _ => match (C.row t).mapk, r m, r key with
    | some (_, j), .mp p, .d (.it i) x => match ent S p with
      | .keys h ks => if j = i ∧ h = i then setE S p (.keys h (addKey ks x)) fun S => k .un S else none
      | _ => none
    | _, _, _ => none
  | .call { callee := .builtin .len, args, argTypes } => match (args.toList[0]?).map r, argTypes.toList[0]? with
    | some (.mp p), some t => match (C.row t).mapk, ent S p with
      | some _, .keys _ ks => if ks.length ≤ 140737488355328 then k (.d (.it .i64) (List.length ks : Int)) S else none
      | _, _ => none
    | _, _ => none
  | _ => none
/-- is it of a map? -/
def isMap (o : Oper) (r : Operand → V) : Bool :=
  match o.op with
  | .makeMap _ _ => true
  | .mapUpdate _ _ _ _ => true
  | .call { callee := .builtin .len, args, .. } => match (args.toList[0]?).map r with | some (.mp _) => true | _ => false
  | _ => false

/-- one operation, with what comes behind -/
def evOper [tI : Tst] (C : Ctx) (tab : Tab) (call : CallH R) (o : Oper) (id : Nat) (sl : List V) (S : List Ent) (k : List V → List Ent → Option R) : Option R :=
  match o.op with
  | .call { callee := .value f, args, .. } =>
    match opd sl f with
    | .fn g fi cap => match tab g with
      | some _ => match rowy (fi ++ args.toList.map (opd sl) ++ cap) with
        | false => (match tabV tab g (fi ++ args.toList.map (opd sl) ++ cap) id with
          | some (g, v, us) => br g (setsE S us fun S => dstK o.dst sl v fun sl => k sl S) none
          | none => none)
        | true => rowCall tab g (fi ++ args.toList.map (opd sl) ++ cap) id S fun v S => dstK o.dst sl v fun sl => k sl S
      | none => call g (fi ++ args.toList.map (opd sl) ++ cap) id S fun v S => dstK o.dst sl v fun sl => k sl S
    | _ => none
  | .call { callee := .invoke x name, args, .. } => invK C tab call (opd sl x) name (args.toList.map (opd sl)) id S fun v S => dstK o.dst sl v fun sl => k sl S
  | .buildSlice _ _ ps => match rowy (ps.toList.map fun (_, x) => opd sl x) with
    | false => (match evOp C o id (opd sl) S with
      | some (g, v, us) => br g (setsE S us fun S => dstK o.dst sl v fun sl => k sl S) none
      | none => none)
    | true => rowBuild C o id (opd sl) S fun v S => dstK o.dst sl v fun sl => k sl S
  | _ => match isMap o (opd sl) with
    | true => mapK C o id (opd sl) S fun v S => dstK o.dst sl v fun sl => k sl S
    | false => match evOp C o id (opd sl) S with
      | some (g, v, us) => br g (setsE S us fun S => dstK o.dst sl v fun sl => k sl S) none
      | none => none

/-- one operation that is done, or left out, and what comes behind (which stands once) -/
def runK [tI : Tst] (C : Ctx) (tab : Tab) (call : CallH R) (o : Oper) (id : Nat) (sl : List V) (S : List Ent) (ts : List Touch) (rest : Nat → List V → List Ent → List Touch → Option R) : Option R :=
  evOper C tab call o id sl S fun sl' S => addK id (need C o) fun id => forceT (touch tab o (opd sl)) fun t => rest id sl' S (t :: ts)
def skipK (C : Ctx) (o : Oper) (id : Nat) (sl : List V) (S : List Ent) (ts : List Touch) (rest : Nat → List V → List Ent → List Touch → Option R) : Option R :=
  dstK o.dst sl .un fun sl => addK id (need C o) fun id => rest id sl S (.no :: ts)
def stepK [tI : Tst] (C : Ctx) (tab : Tab) (call : CallH R) (all : Array Oper) (o : Oper) (id : Nat) (sl : List V) (S : List Ent) (ts : List Touch) (rest : Nat → List V → List Ent → List Touch → Option R) : Option R :=
  match o.guard with
  | none => runK C tab call o id sl S ts rest
  | some (j, want) => match (all[j]?).bind (·.dst) with
    | some d => match look sl d with
      | .d .bo x => match want with
        | true => br x (setK sl d (.d .bo true) fun sl => runK C tab call o id sl S ts rest) (setK sl d (.d .bo false) fun sl => skipK C o id sl S ts rest)
        | false => br x (setK sl d (.d .bo true) fun sl => skipK C o id sl S ts rest) (setK sl d (.d .bo false) fun sl => runK C tab call o id sl S ts rest)
      | .un => skipK C o id sl S ts rest
      | _ => none
    | none => none
def evOps [tI : Tst] (C : Ctx) (tab : Tab) (call : CallH R) (all : Array Oper) : List Oper → Nat → List V → List Ent → List Touch → (List V → List Ent → List Touch → Option R) → Option R
  | [], _, sl, S, ts, k => k sl S ts
  | o :: os, id, sl, S, ts, k => stepK C tab call all o id sl S ts fun id sl S ts => evOps C tab call all os id sl S ts k

/-- behind a round what it made is let go: no slot speaks of it any more -/
def scrub (n : Nat) : V → V
  | .own o t xs => if o < n then .own o t xs else .d (.li t) xs
  | .p o a => if o < n then .p o a else .bad
  | .sr o k a l s c => if o < n then .sr o k a l s c else .bad
  | .pr o k i s => if o < n then .pr o k i s else .bad
  | .agg cs => .agg (scrubs n cs)
  | .fn f fs cs => .fn f (scrubs n fs) (scrubs n cs)
  | .tup _ => .bad
  | .ifc t (.d s x) => .ifc t (.d s x)
  | .ifc t (.p o a) => if o < n then .ifc t (.p o a) else .bad
  | .ifc _ _ => .bad
  | .mp o => if o < n then .mp o else .bad
  | v => v
where
  scrubs (n : Nat) : List V → List V
    | [] => []
    | c :: cs => (match c with
      | .own o t xs => if o < n then .own o t xs else .d (.li t) xs
      | .p o a => if o < n then .p o a else .bad
      | .sr o k a l s c => if o < n then .sr o k a l s c else .bad
      | .d t x => .d t x
      | _ => .bad) :: scrubs n cs
def pickK (n : Nat) (live : List Nat) : Nat → List V → (List V → Option R) → Option R
  | _, [], k => k []
  | i, v :: vs, k => if live.contains i then pickK n live (i + 1) vs fun vs => forceV (scrub n v) fun v => k (v :: vs) else pickK n live (i + 1) vs fun vs => k (.bad :: vs)
def scrubsK (n : Nat) : List V → (List V → Option R) → Option R
  | [], k => k []
  | v :: vs, k => scrubsK n vs fun vs => forceV (scrub n v) fun v => k (v :: vs)
def truncK (n : Nat) : List Ent → (List Ent → Option R) → Option R := go n n
where
  go (m : Nat) : Nat → List Ent → (List Ent → Option R) → Option R
    | 0, _, k => k []
    | _ + 1, [], k => k []
    | j + 1, e :: es, k => go m j es fun es => match e with
      | .obj cs => scrubsK m cs fun cs => k (.obj cs :: es)
      | .gone => k (.gone :: es) | .row j t xs => k (.row j t xs :: es) | .frz j t xs => k (.frz j t xs :: es) | .rdo j t xs => k (.rdo j t xs :: es) | .fam l => k (.fam l :: es) | .lit l => k (.lit l :: es) | .keys j ks => k (.keys j ks :: es)

def loopN (n : Nat) (live : List Nat) (body : List V → List Ent → (Ex → List V → List Ent → Option R) → Option R) :
    Nat → List V → List Ent → (Ex → List V → List Ent → Option R) → Option R
  | 0, _, _, _ => none
  | f + 1, sl, S, k => body sl S fun e sl S => match e with
    | .normal => pickK n live 0 sl fun sl => truncK n S fun S => loopN n live body f sl S k
    | e => k e sl S

/-- may the order be left open? pairs that are not ordered touch nothing alike -/
def Touch.apart : Touch → Touch → Bool
  | .no, _ | _, .no => true
  | .all, _ | _, .all => false
  | .new, _ | _, .new => true
  | .rd _, .rd _ => true
  | .rd a, .wr b | .wr a, .rd b | .wr a, .wr b => a != b
def reads (all : Array Oper) (o : Oper) : List Nat :=
  (o.op.operands.toList.filterMap fun | .tmp t => some t | _ => none) ++ (match o.guard with | some (j, _) => (((all[j]?).bind (·.dst)).toList) | none => [])
def ancs : List Oper → List (List Nat) → List (List Nat)
  | [], acc => acc
  | o :: os, acc => ancs os (acc ++ [o.after.toList.foldl (fun s e => if Region.binds .any e then e.on :: (acc.getD e.on [] ++ s) else s) []])
def apartAt (all : Array Oper) (o p : Oper) : Bool :=
  (match o.dst with | some d => !(reads all p).contains d && p.dst != some d | none => true) && (match p.dst with | some d => !(reads all o).contains d | none => true)
def Touch.off : Touch → Nat → Nat → Bool
  | .rd n, a, b | .wr n, a, b => decide (n < a) || decide (b ≤ n)
  | _, _, _ => true
def idAt (C : Ctx) (all : Array Oper) (n : Nat) : Nat → Nat
  | 0 => n
  | i + 1 => idAt C all n i + (match all[i]? with | some o => need C o | none => 0)
def ordOK (C : Ctx) (all : Array Oper) (n0 : Nat) (ts : List Touch) : Bool :=
  let an := ancs all.toList []
  let n := all.size
  ts.length == n && (List.range n).all fun j => (all[j]?).any fun p => p.after.toList.all (fun e => !Region.binds .any e || decide (e.on < j)) && (List.range j).all fun i => (an.getD j []).contains i ||
    (all[i]?).any fun o => apartAt all o p && (ts.getD i .all).apart (ts.getD j .all) && (ts.getD i .all).off (idAt C all n0 j) (idAt C all n0 (j + 1)) && (ts.getD j .all).off (idAt C all n0 i) (idAt C all n0 (i + 1))
/-- kept as it stands while the walker goes -/
def ordB [tI : Tst] (C : Ctx) (all : Array Oper) (n0 : Nat) (ts : List Touch) : Bool := tst (ordOK C all n0 ts = true)
theorem ordB_of [tI : Tst] {C : Ctx} {all : Array Oper} {n0 : Nat} {ts : List Touch} (h : ordOK C all n0 ts = true) : ordB C all n0 ts = true := tst_iff.2 h

/-- of a region's text alone: pairs that are not ordered name nothing alike -/
def staticOK (all : Array Oper) : Bool :=
  let an := ancs all.toList []
  (List.range all.size).all fun j => (all[j]?).any fun p => p.after.toList.all (fun e => !Region.binds .any e || decide (e.on < j)) && (List.range j).all fun i => (an.getD j []).contains i || (all[i]?).any fun o => apartAt all o p
class StOK (all : Array Oper) : Prop where
  ok : staticOK all = true
def Touch.calm (n0 : Nat) : Touch → Bool
  | .no | .new => true
  | .rd n => decide (n < n0)
  | _ => false
def calmB (n0 : Nat) (all : Array Oper) (ts : List Touch) : Bool := ts.length == all.size && ts.all (Touch.calm n0)
theorem idAt_ge (C : Ctx) (all : Array Oper) (n : Nat) : ∀ i, n ≤ idAt C all n i
  | 0 => Nat.le_refl _
  | i + 1 => Nat.le_trans (idAt_ge C all n i) (Nat.le_add_right _ _)
theorem calm_apart {n0 : Nat} {s t : Touch} (hs : s.calm n0 = true) (ht : t.calm n0 = true) : s.apart t = true := by
  cases s <;> cases t <;> simp_all [Touch.calm, Touch.apart]
theorem calm_off {n0 : Nat} {s : Touch} (hs : s.calm n0 = true) {a b : Nat} (h : n0 ≤ a) : s.off a b = true := by
  cases s <;> simp_all [Touch.calm, Touch.off]
  omega
theorem ordB_st [tI : Tst] {C : Ctx} {all : Array Oper} {n0 : Nat} {ts : List Touch} [h : StOK all] (hc : calmB n0 all ts = true) : ordB C all n0 ts = true := by
  refine ordB_of ?_
  have hs := h.ok
  unfold staticOK at hs
  unfold calmB at hc
  rw [Bool.and_eq_true] at hc
  unfold ordOK
  simp only
  rw [Bool.and_eq_true]
  refine ⟨hc.1, ?_⟩
  have hl : ts.length = all.size := by simpa using hc.1
  have hq : ∀ i, i < all.size → (ts.getD i .all).calm n0 = true := by
    intro i hi
    rw [List.getD_eq_getElem?_getD, List.getElem?_eq_getElem (by omega)]
    exact List.all_eq_true.1 hc.2 _ (List.getElem_mem _)
  rw [List.all_eq_true] at hs ⊢
  intro j hj
  have hj' := List.mem_range.1 hj
  have := hs j hj
  revert this
  cases hp : all[j]? with
  | none => simp
  | some p =>
    simp only [Option.any_some, Bool.and_eq_true]
    rintro ⟨h1, h2⟩
    refine ⟨h1, ?_⟩
    rw [List.all_eq_true] at h2 ⊢
    intro i hi
    have hi' := List.mem_range.1 hi
    have := h2 i hi
    rw [Bool.or_eq_true] at this ⊢
    refine this.imp id ?_
    cases ho : all[i]? with
    | none => simp
    | some o =>
      simp only [Option.any_some]
      intro ha
      rw [ha, calm_apart (hq i (by omega)) (hq j hj'), calm_off (hq i (by omega)) (idAt_ge C all n0 j), calm_off (hq j hj') (idAt_ge C all n0 i)]
      rfl
def reserve (C : Ctx) (ops : List Oper) : Nat := (ops.map (need C)).foldl (· + ·) 0

/-- what comes behind, as a word: it stands once -/
def seqK (go : List V → List Ent → (Ex → List V → List Ent → Option R) → Option R) (k : Ex → List V → List Ent → Option R) : Ex → List V → List Ent → Option R
  | .normal, sl, S => go sl S k
  | .exit id, sl, S => k (.exit id) sl S
  | .ret, sl, S => k .ret sl S
def blockK (C : Ctx) (n id : Nat) (k : Ex → List V → List Ent → Option R) : Ex → List V → List Ent → Option R
  | .exit j, sl', S' => if j = id then pickK n (C.live id).2 0 sl' fun sl => truncK n S' fun S => k .normal sl S else k (.exit j) sl' S'
  | .normal, sl', S' => pickK n (C.live id).2 0 sl' fun sl => truncK n S' fun S => k .normal sl S
  | .ret, sl', S' => k .ret sl' S'
def evC [tI : Tst] (C : Ctx) (tab : Tab) (call : CallH R) (fuel : Nat) : Nat → Code → List V → List Ent → (Ex → List V → List Ent → Option R) → Option R
  | _, .skip, sl, S, k => k .normal sl S
  | _, .label _, sl, S, k => k .normal sl S
  | _, .region _ ops draw, sl, S, k =>
    lenK S 0 fun n => growK S (reserve C ops.toList) fun S' => evOps C tab call ops ops.toList n sl S' [] fun sl S ts =>
      match draw with
      | true => br (ordB C ops n ts.reverse) (k .normal sl S) none
      | false => k .normal sl S
  | cur, .seq a b, sl, S, k => evC C tab call fuel cur a sl S (seqK (fun sl S k => evC C tab call fuel cur b sl S k) k)
  | cur, .cond c t e, sl, S, k => match opd sl c with
    | .d .bo x => br x (evC C tab call fuel cur t sl S k) (evC C tab call fuel cur e sl S k)
    | _ => none
  | _, .block id body, sl, S, k => lenK S 0 fun n => evC C tab call fuel id body sl S (blockK C n id k)
  | cur, .loop body, sl, S, k => lenK S 0 fun n => pickK n (C.live cur).1 0 sl fun sl =>
      loopN n (C.live cur).1 (fun sl S k => evC C tab call fuel cur body sl S k) fuel sl S k
  | cur, .scope body, sl, S, k => evC C tab call fuel cur body sl S k
  | _, .exit id, sl, S, k => k (.exit id) sl S
  | _, .ret, sl, S, k => k .ret sl S
  | _, _, _, _, _ => none

/-- a struct whose cells are data is handed out as data -/
def dataV (C : Ctx) (t : TypeId) (v : V) : V :=
  match v with
  | .agg cs => forceTy (C.row t).ty fun ty => match asT ty (.agg cs) with
    | some x => .d ty x
    | none => .agg cs
  | v => v
/-- the results -/
def resV [tI : Tst] (C : Ctx) (S : List Ent) (sl : List V) : List TypeId → List ResultVar → Option (List V)
  | _, [] => some []
  | ts, .tmp t :: rs => (resV C S sl (ts.drop 1) rs).map fun vs => dataV C (ts.headD 0) (look sl t) :: vs
  | ts, .cell a t :: rs => match look sl a with
    | .p o off => match loadV C S t (.p o off) with
      | some (true, v, _) => (resV C S sl (ts.drop 1) rs).map fun vs => dataV C t v :: vs
      | _ => none
    | _ => none
def evFn [tI : Tst] (C : Ctx) (tab : Tab) (call : CallH R) (fuel : Nat) (fn : Func) (args : List V) (S : List Ent) (k : V → List Ent → Option R) : Option R :=
  match fn.body with
  | none => none
  | some c => evC C tab call fuel 0 c (args ++ List.replicate (fn.ntmps - args.length) .un) S fun e sl S =>
    match e with
    | .exit _ => none
    | _ => match resV C S sl fn.resultTypes.toList fn.results.toList with
      | some [v] => k v S
      | some vs => k (.tup vs) S
      | none => none
end
end Go.Proofs.Ytmpmmfbgdpfnpaa.Ev
/- What it means that a value of the walker's stands for one of the machine's: by cells that are known to lie in memory. -/
namespace Go.Proofs.Ytmpmmfbgdpfnpaa.Ev
open Go Go.RowKit

/-- cells that are known -/
abbrev Mem := Nat → Nat → Option Value
def Mem.le (m m' : Mem) : Prop := ∀ b o v, m b o = some v → m' b o = some v
def Mem.lies (m : Mem) (w : World) : Prop := ∀ b o v, m b o = some v → w.cell? ⟨b, o, none⟩ = some v
theorem Mem.le.refl (m : Mem) : m.le m := fun _ _ _ h => h
theorem Mem.le.trans {a b c : Mem} (h : a.le b) (k : b.le c) : a.le c := fun x y v e => k x y v (h x y v e)
def Lies (m : Mem) (b off : Nat) (us : List Value) : Prop := ∀ i u, us[i]? = some u → m b (off + i) = some u
theorem Lies.mono {m m' : Mem} (hm : m.le m') {b off : Nat} {us : List Value} (h : Lies m b off us) : Lies m' b off us := fun i u hu => hm _ _ _ (h i u hu)

def maxL : Nat := 140737488355328

def RepL (m : Mem) : (t : Ty) → t.den → List Value → Prop
  | .bo, x, us => us = [.bool x]
  | .it k, n, us => us = [.int k n] ∧ k.min ≤ n ∧ n ≤ k.max
  | .st, l, us => ∃ s : ByteArray, us = [.string s] ∧ strInts s = l ∧ s.size ≤ maxL
  | .ni, _, us => us = [.pointer none]
  | .li t, xs, us => ∃ a c, us = [.slice a (List.length xs) c] ∧ List.length xs ≤ c ∧ List.length xs ≤ maxL ∧ c ≤ maxLen ∧
      match a with
      | none => List.length xs = 0 ∧ c = 0
      | some ad => (0 < c → ad.spot = none) ∧ ∀ i (h : i < List.length xs), ∃ vs, Lies m ad.block (ad.off + i * t.size) vs ∧ RepL m t xs[i] vs
  | .ue, _, us => us = []
  | .co t r, x, us => ∃ u1 u2, us = u1 ++ u2 ∧ RepL m t x.1 u1 ∧ RepL m r x.2 u2
  | .ar n t, xs, us => List.length xs = n ∧ us.length = n * t.size ∧ ∀ i (h : i < List.length xs), RepL m t xs[i] ((us.drop (i * t.size)).take t.size)

theorem RepL.mono [tI : Tst] {m m' : Mem} (hm : m.le m') : ∀ (t : Ty) (x : t.den) (us : List Value), RepL m t x us → RepL m' t x us
  | .bo, _, _, h => h
  | .it _, _, _, h => h
  | .st, _, _, h => h
  | .ni, _, _, h => h
  | .li t, xs, us, h => by
    obtain ⟨a, c, h1, h2, h3, h4, h5⟩ := h
    refine ⟨a, c, h1, h2, h3, h4, ?_⟩
    cases a with
    | none => exact h5
    | some ad =>
      refine ⟨h5.1, fun i hi => ?_⟩
      obtain ⟨vs, hv, hr⟩ := h5.2 i hi
      exact ⟨vs, hv.mono hm, RepL.mono hm t _ _ hr⟩
  | .ue, _, _, h => h
  | .co t r, _, _, h => by
    obtain ⟨u1, u2, h1, h2, h3⟩ := h
    exact ⟨u1, u2, h1, RepL.mono hm t _ _ h2, RepL.mono hm r _ _ h3⟩
  | .ar n t, _, _, h => ⟨h.1, h.2.1, fun i hi => RepL.mono hm t _ _ (h.2.2 i hi)⟩

theorem RepL.len {m : Mem} : ∀ (t : Ty) (x : t.den) (us : List Value), RepL m t x us → us.length = t.size
  | .bo, _, _, h => by rw [show _ = _ from h]; rfl
  | .it _, _, _, h => by rw [h.1]; rfl
  | .st, _, _, h => by obtain ⟨s, rfl, _⟩ := h; rfl
  | .ni, _, _, h => by rw [show _ = _ from h]; rfl
  | .li _, _, _, h => by obtain ⟨a, c, rfl, _⟩ := h; rfl
  | .ue, _, _, h => by rw [show _ = _ from h]; rfl
  | .co t r, _, _, h => by
    obtain ⟨u1, u2, rfl, h2, h3⟩ := h
    rw [List.length_append, RepL.len t _ _ h2, RepL.len r _ _ h3]; rfl
  | .ar n t, _, _, h => h.2.1

theorem mem_of_arr {us : List Value} {n s : Nat} (hl : us.length = n * s) {u : Value} (hu : u ∈ us) : ∃ i, i < n ∧ u ∈ (us.drop (i * s)).take s := by
  obtain ⟨j, hj, rfl⟩ := List.getElem_of_mem hu
  have hs : 0 < s := by
    rcases Nat.eq_zero_or_pos s with h | h
    · subst h; rw [Nat.mul_zero] at hl; omega
    · exact h
  refine ⟨j / s, ?_, ?_⟩
  · exact Nat.div_lt_of_lt_mul (by rw [Nat.mul_comm]; omega)
  · have e : j / s * s + j % s = j := by rw [Nat.mul_comm]; exact Nat.div_add_mod j s
    have hm : j % s < s := Nat.mod_lt _ hs
    have hlt : j % s < ((us.drop (j / s * s)).take s).length := by simp only [List.length_take, List.length_drop]; omega
    have : ((us.drop (j / s * s)).take s)[j % s] = us[j] := by simp only [List.getElem_take, List.getElem_drop]; congr 1
    rw [← this]
    exact List.getElem_mem hlt

theorem RepL.one [tI : Tst] {m : Mem} : ∀ (t : Ty) (x : t.den) (us : List Value), RepL m t x us → ∀ u ∈ us, u.oneCell' = true
  | .bo, _, _, h => by rw [show _ = _ from h]; simp [Value.oneCell']
  | .it _, _, _, h => by rw [h.1]; simp [Value.oneCell']
  | .st, _, _, h => by obtain ⟨s, rfl, _⟩ := h; simp [Value.oneCell']
  | .ni, _, _, h => by rw [show _ = _ from h]; simp [Value.oneCell']
  | .li _, _, _, h => by obtain ⟨a, c, rfl, _⟩ := h; simp [Value.oneCell']
  | .ue, _, _, h => by rw [show _ = _ from h]; simp
  | .co t r, _, _, h => by
    obtain ⟨u1, u2, rfl, h2, h3⟩ := h
    intro u hu
    rcases List.mem_append.1 hu with hu | hu
    · exact RepL.one t _ _ h2 u hu
    · exact RepL.one r _ _ h3 u hu
  | .ar n t, _, _, h => by
    intro u hu
    obtain ⟨i, hi, hm⟩ := mem_of_arr h.2.1 hu
    exact RepL.one t _ _ (h.2.2 i (by rw [h.1]; exact hi)) u hm

/-- a value's cells, as the machine holds them together -/
def toV (g : Bool) (us : List Value) : Value := if g then .agg us.toArray else us.headD undef
def RepD (m : Mem) (t : Ty) (x : t.den) (v : Value) : Prop := ∃ us, RepL m t x us ∧ v = toV t.agg us
theorem RepD.mono [tI : Tst] {m m' : Mem} (hm : m.le m') {t : Ty} {x : t.den} {v : Value} (h : RepD m t x v) : RepD m' t x v := by
  obtain ⟨us, h1, h2⟩ := h; exact ⟨us, RepL.mono hm _ _ _ h1, h2⟩
theorem size_one {t : Ty} (h : t.agg = false) : t.size = 1 := by cases t <;> first | rfl | simp [Ty.agg] at h
theorem RepL.single [tI : Tst] {m : Mem} {t : Ty} {x : t.den} {us : List Value} (h : RepL m t x us) (hg : t.agg = false) : ∃ u, us = [u] := by
  have := RepL.len _ _ _ h
  rw [size_one hg] at this
  exact List.length_eq_one_iff.1 this
theorem toV_cells {us : List Value} {g : Bool} (h1 : ∀ u ∈ us, u.oneCell' = true) (hg : g = false → ∃ u, us = [u]) : (toV g us).cells = us.toArray := by
  cases g with
  | true => simp [toV, Value.cells]
  | false =>
    obtain ⟨u, rfl⟩ := hg rfl
    have := h1 u (by simp)
    simp only [toV, List.headD, Bool.false_eq_true, if_false]
    cases u <;> simp_all [Value.cells, Value.oneCell']
theorem RepD.cells [tI : Tst] {m : Mem} {t : Ty} {x : t.den} {v : Value} (h : RepD m t x v) : ∃ us, RepL m t x us ∧ v = toV t.agg us ∧ v.cells = us.toArray := by
  obtain ⟨us, h1, rfl⟩ := h
  exact ⟨us, h1, rfl, toV_cells (RepL.one _ _ _ h1) fun hg => h1.single hg⟩

/-- where things of the function's own lie -/
structure Env where
  m : Mem
  blk : Nat → Nat
  sz : Nat → Nat
  plc : Nat → Value
  len : Nat → Nat
  ex : Nat → Option Nat
  live : Nat → Prop
  /-- what was known at first -/
  m0 : Mem
  /-- blocks from below that are lent, to be written to -/
  lent : Nat → Prop
  /-- cells from below that are read alone, and that nothing which is told may lean on -/
  rm : Mem

/-- a window of a row's slice -/
def Win (plc : Value) (a s : Nat) (c : SCap) (ad : Option Addr) (n cp : Nat) : Prop :=
  match plc with
  | .slice (some p) _ cap => ∃ ad0, ad = some ad0 ∧ (0 < cp → ad0 = ⟨p.block, p.off + a * s, none⟩) ∧ a + cp ≤ cap ∧
      match c with
      | .full => a = 0 ∧ cp = cap ∧ ad0 = p
      | .exact => cp = n
      | .unk => True
  | .slice none _ _ => ad = none ∧ n = 0 ∧ cp = 0 ∧ a = 0
  | _ => False

theorem Win.sub {plc : Value} {a s : Nat} {c : SCap} {ad : Option Addr} {n cp l b m : Nat} (h : Win plc a s c ad n cp) (h1 : l ≤ b) (h2 : b ≤ m) (h3 : m ≤ cp) :
    ∀ c', (c' = SCap.unk ∨ (c' = .exact ∧ b = m) ∨ (c' = .full ∧ c = .full ∧ l = 0 ∧ m = cp)) → Win plc (a + l) s c' (if m = l then ad else ad.map (·.add (l * s))) (b - l) (m - l) := by
  intro c' hc'
  unfold Win at h ⊢
  split at h
  · obtain ⟨ad0, rfl, g1, g2, g3⟩ := h
    by_cases hm : m = l
    · rw [if_pos hm]
      refine ⟨ad0, rfl, fun h => by omega, by omega, ?_⟩
      rcases hc' with rfl | ⟨rfl, e⟩ | ⟨rfl, rfl, rfl, e⟩
      · trivial
      · show m - l = b - l; omega
      · simp only [] at g3 ⊢; obtain ⟨g3, g4, g5⟩ := g3; exact ⟨by omega, by omega, g5⟩
    · rw [if_neg hm]
      have ge := g1 (by omega)
      refine ⟨_, rfl, fun _ => by show Addr.add _ _ = _; rw [ge, Addr.add_lit, Nat.add_mul, Nat.add_assoc], by omega, ?_⟩
      rcases hc' with rfl | ⟨rfl, e⟩ | ⟨rfl, rfl, rfl, e⟩
      · trivial
      · show m - l = b - l; omega
      · simp only [] at g3 ⊢
        obtain ⟨g3, g4, g5⟩ := g3
        refine ⟨by omega, by omega, ?_⟩
        show Addr.add _ _ = _
        rw [Nat.zero_mul]
        subst g5
        rw [ge, Addr.add_lit, Nat.add_zero]
  · obtain ⟨rfl, rfl, rfl, rfl⟩ := h
    have : m = l := by omega
    rw [if_pos this]
    exact ⟨rfl, by omega, by omega, by omega⟩
  · exact h.elim

mutual
def RepV (E : Env) : V → Value → Prop
  | .bad, _ => True
  | .un, v => v = undef
  | .nils, v => v = .slice none 0 0
  | .d t x, v => RepD E.m t x v
  | .own o t xs, v => RepD E.m (.li t) xs v ∧ E.live o ∧ E.sz o = t.size ∧ List.length xs ≤ E.len o ∧ (List.length xs = E.len o → v = E.plc o)
  | .p o a, v => E.live o ∧ v = .pointer (some ⟨E.blk o, a, none⟩)
  | .ro t x, v => ∃ b off us, v = .pointer (some ⟨b, off, none⟩) ∧ RepL E.m t x us ∧ Lies E.m b off us
  | .sr o k a n s c, v => E.live o ∧ E.sz o = s ∧ k ≤ E.len o ∧ n ≤ maxL ∧ ∃ ad cp, v = .slice ad n cp ∧ n ≤ cp ∧ cp ≤ maxLen ∧ (0 < cp → ∃ p, ad = some p ∧ p.spot = none) ∧ (k = E.len o → Win (E.plc o) a s c ad n cp)
  | .pr o k i s, v => E.live o ∧ E.sz o = s ∧ k ≤ E.len o ∧ ∃ ad, v = .pointer (some ad) ∧ (k = E.len o → ∃ p l c, E.plc o = .slice (some p) l c ∧ ad = ⟨p.block, p.off + i * s, none⟩)
  | .agg cs, v => ∃ us : List Value, v = .agg us.toArray ∧ RepVs E cs us ∧ ∀ u ∈ us, u.oneCell' = true
  | .tup vs, v => ∃ us : List Value, v = .tuple us.toArray ∧ RepVs E vs us
  | .fn f fs cs, v => ∃ zs us : List Value, v = .func (.func f) zs.toArray us.toArray ∧ RepVs E fs zs ∧ RepVs E cs us
  | .ifc t x, v => ∃ u, v = .iface t u ∧ RepV E x u
  | .nn t xs, v => RepD E.m (.li t) xs v ∧ ∃ ad l c, v = .slice (some ad) l c
  | .mp o, v => E.live o ∧ v = .map (some (E.blk o))
def RepVs (E : Env) : List V → List Value → Prop
  | [], [] => True
  | c :: cs, u :: us => RepV E c u ∧ RepVs E cs us
  | _, _ => False
end

structure Env.Le (E E' : Env) : Prop where
  m : E.m.le E'.m
  live : ∀ o, E.live o → E'.live o
  blk : ∀ o, E.live o → E'.blk o = E.blk o
  sz : ∀ o, E.live o → E'.sz o = E.sz o
  len : ∀ o, E.live o → E.len o ≤ E'.len o
  plc : ∀ o, E.live o → E'.len o = E.len o → E'.plc o = E.plc o
  m0 : E'.m0 = E.m0
  lent : E'.lent = E.lent
  rm : E'.rm = E.rm
theorem Env.Le.refl [tI : Tst] (E : Env) : E.Le E := ⟨Mem.le.refl _, fun _ h => h, fun _ _ => rfl, fun _ _ => rfl, fun _ _ => Nat.le_refl _, fun _ _ _ => rfl, rfl, rfl, rfl⟩
theorem Env.Le.trans [tI : Tst] {A B C : Env} (h : A.Le B) (k : B.Le C) : A.Le C where
  m := h.m.trans k.m
  live o l := k.live o (h.live o l)
  blk o l := (k.blk o (h.live o l)).trans (h.blk o l)
  sz o l := (k.sz o (h.live o l)).trans (h.sz o l)
  len o l := Nat.le_trans (h.len o l) (k.len o (h.live o l))
  plc o l e := by
    have h1 := h.len o l
    have h2 := k.len o (h.live o l)
    exact (k.plc o (h.live o l) (by omega)).trans (h.plc o l (by omega))
  m0 := k.m0.trans h.m0
  lent := k.lent.trans h.lent
  rm := k.rm.trans h.rm

mutual
theorem RepV.mono [tI : Tst] {E E' : Env} (h : E.Le E') : ∀ (v : V) (u : Value), RepV E v u → RepV E' v u
  | .bad, _, _ => by simp [RepV]
  | .un, _, k => by simpa [RepV] using k
  | .nils, _, k => by simpa [RepV] using k
  | .d t x, _, k => by simp only [RepV] at k ⊢; exact k.mono h.m
  | .own o t xs, u, k => by
    simp only [RepV] at k ⊢
    obtain ⟨k1, k2, k3, k4, k5⟩ := k
    refine ⟨k1.mono h.m, h.live o k2, (h.sz o k2).trans k3, Nat.le_trans k4 (h.len o k2), fun e => ?_⟩
    have := h.len o k2
    rw [h.plc o k2 (by omega)]
    exact k5 (by omega)
  | .p o a, _, k => by simp only [RepV] at k ⊢; exact ⟨h.live o k.1, by rw [h.blk o k.1]; exact k.2⟩
  | .ro t x, _, k => by
    simp only [RepV] at k ⊢
    obtain ⟨b, off, us, k1, k2, k3⟩ := k
    exact ⟨b, off, us, k1, RepL.mono h.m _ _ _ k2, k3.mono h.m⟩
  | .sr o j a n s c, _, k => by
    simp only [RepV] at k ⊢
    obtain ⟨k1, k2, k3, k4, ad, cp, k5, k6, k7, k9, k8⟩ := k
    have := h.len o k1
    refine ⟨h.live o k1, (h.sz o k1).trans k2, by omega, k4, ad, cp, k5, k6, k7, k9, fun e => ?_⟩
    rw [h.plc o k1 (by omega)]
    exact k8 (by omega)
  | .pr o j i s, _, k => by
    simp only [RepV] at k ⊢
    obtain ⟨k1, k2, k3, ad, k4, k5⟩ := k
    have := h.len o k1
    refine ⟨h.live o k1, (h.sz o k1).trans k2, by omega, ad, k4, fun e => ?_⟩
    rw [h.plc o k1 (by omega)]
    exact k5 (by omega)
  | .agg cs, _, k => by
    simp only [RepV] at k ⊢
    obtain ⟨us, k1, k2, k3⟩ := k
    exact ⟨us, k1, RepVs.mono h cs us k2, k3⟩
  | .tup cs, _, k => by
    simp only [RepV] at k ⊢
    obtain ⟨us, k1, k2⟩ := k
    exact ⟨us, k1, RepVs.mono h cs us k2⟩
  | .fn f fs cs, _, k => by
    simp only [RepV] at k ⊢
    obtain ⟨zs, us, k1, k2, k3⟩ := k
    exact ⟨zs, us, k1, RepVs.mono h fs zs k2, RepVs.mono h cs us k3⟩
  | .ifc t x, _, k => by
    simp only [RepV] at k ⊢
    obtain ⟨us, k1, k2⟩ := k
    exact ⟨us, k1, RepV.mono h x us k2⟩
  | .nn t xs, _, k => by simp only [RepV] at k ⊢; exact ⟨k.1.mono h.m, k.2⟩
  | .mp o, _, k => by simp only [RepV] at k ⊢; exact ⟨h.live o k.1, by rw [h.blk o k.1]; exact k.2⟩
theorem RepVs.mono [tI : Tst] {E E' : Env} (h : E.Le E') : ∀ (vs : List V) (us : List Value), RepVs E vs us → RepVs E' vs us
  | [], [], _ => by simp [RepVs]
  | c :: cs, u :: us, k => by
    simp only [RepVs] at k ⊢
    exact ⟨RepV.mono h c u k.1, RepVs.mono h cs us k.2⟩
  | [], _ :: _, k => by simp [RepVs] at k
  | _ :: _, [], k => by simp [RepVs] at k
end

theorem RepVs.length {E : Env} : ∀ {vs : List V} {us : List Value}, RepVs E vs us → vs.length = us.length
  | [], [], _ => rfl
  | c :: cs, u :: us, k => by simp only [RepVs] at k; simp [RepVs.length k.2]
  | [], _ :: _, k => by simp [RepVs] at k
  | _ :: _, [], k => by simp [RepVs] at k
theorem look_eq : ∀ (vs : List V) (n : Nat), look vs n = vs.getD n .bad
  | [], n => by simp [look]
  | v :: vs, 0 => by simp [look]
  | v :: vs, n + 1 => by simp [look, look_eq vs n]
theorem RepVs.get {E : Env} : ∀ {vs : List V} {us : List Value} (n : Nat) {u : Value}, RepVs E vs us → us[n]? = some u → RepV E (look vs n) u
  | [], [], n, u, _, h => by simp at h
  | c :: cs, v :: us, 0, u, k, h => by simp only [RepVs] at k; simp at h; subst h; exact k.1
  | c :: cs, v :: us, n + 1, u, k, h => by simp only [RepVs] at k; simp at h; exact RepVs.get n k.2 h
  | [], _ :: _, _, _, k, _ => by simp [RepVs] at k
  | _ :: _, [], _, _, k, _ => by simp [RepVs] at k
theorem RepVs.append {E : Env} : ∀ {vs vs' : List V} {us us' : List Value}, RepVs E vs us → RepVs E vs' us' → RepVs E (vs ++ vs') (us ++ us')
  | [], _, [], _, _, h => h
  | c :: cs, _, u :: us, _, k, h => by simp only [RepVs, List.cons_append] at k ⊢; exact ⟨k.1, RepVs.append k.2 h⟩
  | [], _, _ :: _, _, k, _ => by simp [RepVs] at k
  | _ :: _, _, [], _, k, _ => by simp [RepVs] at k
theorem RepVs.drop {E : Env} : ∀ {vs : List V} {us : List Value} (n : Nat), RepVs E vs us → RepVs E (vs.drop n) (us.drop n)
  | _, _, 0, h => by simpa using h
  | [], [], n + 1, _ => by simp [RepVs]
  | c :: cs, u :: us, n + 1, k => by simp only [RepVs, List.drop_succ_cons] at k ⊢; exact RepVs.drop n k.2
  | [], _ :: _, _ + 1, k => by simp [RepVs] at k
  | _ :: _, [], _ + 1, k => by simp [RepVs] at k
theorem RepVs.take {E : Env} : ∀ {vs : List V} {us : List Value} (n : Nat), RepVs E vs us → RepVs E (vs.take n) (us.take n)
  | _, _, 0, h => by simp [RepVs]
  | [], [], n + 1, _ => by simp [RepVs]
  | c :: cs, u :: us, n + 1, k => by simp only [RepVs, List.take_succ_cons] at k ⊢; exact ⟨k.1, RepVs.take n k.2⟩
  | [], _ :: _, _ + 1, k => by simp [RepVs] at k
  | _ :: _, [], _ + 1, k => by simp [RepVs] at k
theorem RepVs.repl {E : Env} : ∀ {vs ws : List V} {us zs : List Value} (n : Nat), RepVs E vs us → RepVs E ws zs → n + ws.length ≤ vs.length →
    RepVs E (replV vs n ws) (us.take n ++ zs ++ us.drop (n + zs.length))
  | c :: cs, [], u :: us, [], 0, k, _, _ => by simpa [replV] using k
  | [], [], [], [], 0, _, _, _ => by simp [replV, RepVs]
  | c :: cs, w :: ws, u :: us, z :: zs, 0, k, h, hl => by
    simp only [RepVs] at k h
    simp only [List.length_cons, Nat.zero_add, Nat.add_le_add_iff_right] at hl
    have := RepVs.repl 0 k.2 h.2 (by omega)
    simp only [replV, RepVs, List.take_zero, List.nil_append, List.cons_append, Nat.zero_add, List.length_cons, List.drop_succ_cons] at this ⊢
    exact ⟨h.1, this⟩
  | c :: cs, ws, u :: us, zs, n + 1, k, h, hl => by
    simp only [RepVs] at k
    simp only [List.length_cons] at hl
    have := RepVs.repl n k.2 h (by omega)
    have e : n + 1 + zs.length = (n + zs.length) + 1 := by omega
    cases ws <;> simpa only [replV, RepVs, List.take_succ_cons, List.cons_append, e, List.drop_succ_cons] using ⟨k.1, this⟩
  | [], w :: ws, _, _, 0, _, _, hl => by simp at hl
  | [], _, _, _, n + 1, _, _, hl => by simp at hl
  | _ :: _, _, [], _, _, k, _, _ => by simp [RepVs] at k
  | [], _, _ :: _, _, _, k, _, _ => by simp [RepVs] at k
  | _, [], _, _ :: _, _, _, h, _ => by simp [RepVs] at h
  | _, _ :: _, _, [], _, _, h, _ => by simp [RepVs] at h
theorem length_repl : ∀ (vs ws : List V) (n : Nat), n + ws.length ≤ vs.length → (replV vs n ws).length = vs.length
  | [], [], 0, _ => rfl
  | c :: cs, [], 0, _ => rfl
  | c :: cs, w :: ws, 0, h => by simp only [replV, List.length_cons] at h ⊢; rw [length_repl cs ws 0 (by omega)]
  | c :: cs, ws, n + 1, h => by
    simp only [List.length_cons] at h
    cases ws <;> simp only [replV, List.length_cons] <;> rw [length_repl cs _ n (by simp only [List.length_cons, List.length_nil] at h ⊢; omega)]
  | [], w :: ws, 0, h => by simp at h
  | [], _, n + 1, h => by simp at h

/-- the cells of data, one by one -/
theorem flatT_rep [tI : Tst] {E : Env} : ∀ (t : Ty) (x : t.den) (us : List Value), RepL E.m t x us → RepVs E (flatT t x) us
  | .bo, x, us, h => by rw [show us = _ from h]; simp only [flatT, RepVs, and_true, RepV]; exact ⟨_, (rfl : RepL E.m .bo x [.bool x]), rfl⟩
  | .it k, x, us, h => by obtain ⟨rfl, h2⟩ := h; simp only [flatT, RepVs, and_true, RepV]; exact ⟨_, ⟨rfl, h2⟩, rfl⟩
  | .st, x, us, h => by obtain ⟨s, rfl, h2⟩ := h; simp only [flatT, RepVs, and_true, RepV]; exact ⟨_, ⟨s, rfl, h2⟩, rfl⟩
  | .ni, x, us, h => by rw [show us = _ from h]; simp only [flatT, RepVs, and_true, RepV]; exact ⟨_, (rfl : RepL E.m .ni x [.pointer none]), rfl⟩
  | .li t, x, us, h => by obtain ⟨a, c, rfl, h2⟩ := h; simp only [flatT, RepVs, and_true, RepV]; exact ⟨_, ⟨a, c, rfl, h2⟩, rfl⟩
  | .ue, x, us, h => by rw [show us = _ from h]; simp only [flatT, RepVs]
  | .co t r, x, us, h => by
    obtain ⟨u1, u2, rfl, h2, h3⟩ := h
    exact RepVs.append (flatT_rep t _ _ h2) (flatT_rep r _ _ h3)
  | .ar n t, xs, us, h => by
    obtain ⟨h1, h2, h3⟩ := h
    have key : ∀ k, k ≤ n → RepVs E ((List.range k).flatMap fun i => flatT t (List.getD xs i t.dflt)) (us.take (k * t.size)) := by
      intro k
      induction k with
      | zero => intro _; simp [RepVs]
      | succ k ih =>
        intro hk
        have hx : k < List.length xs := by rw [h1]; omega
        have := flatT_rep t _ _ (h3 k hx)
        rw [List.range_succ, List.flatMap_append, show (k + 1) * t.size = k * t.size + t.size from by rw [Nat.add_mul, Nat.one_mul], List.take_add]
        refine RepVs.append (ih (by omega)) ?_
        simpa only [List.flatMap_cons, List.flatMap_nil, List.append_nil, List.getD_eq_getElem?_getD, List.getElem?_eq_getElem hx, Option.getD_some] using this
    have := key n (Nat.le_refl _)
    rwa [List.take_of_length_le (by omega)] at this
end Go.Proofs.Ytmpmmfbgdpfnpaa.Ev
/- The walker's memory against the machine's: what holds of both, and how it is kept. -/
namespace Go.Proofs.Ytmpmmfbgdpfnpaa.Ev
open Go Go.RowKit
set_option linter.unusedVariables false
set_option linter.unusedSimpArgs false

/-! ### the table of types -/
def zeroB : Ty → Value → Bool
  | .bo, .bool false => true
  | .it k, .int j n => j == k && n == 0
  | .st, .string s => s.size == 0
  | .ni, .pointer none => true
  | .li _, .slice none 0 0 => true
  | _, _ => false
def zerosB : List Ty → List Value → Bool
  | [], [] => true
  | t :: ts, u :: us => zeroB t u && zerosB ts us
  | _, _ => false
def compOf : Nat → Ty → Nat → Option (Nat × Ty)
  | 0, .co t _, off => some (off, t)
  | n + 1, .co t r, off => compOf n r (off + t.size)
  | _, _, _ => none
def fieldsB (C : Ctx) (y : Ty) : Nat → List (Nat × TypeId) → List Field → Bool
  | _, [], [] => true
  | n, (off, e) :: fs, g :: gs => g.offset == off && g.type == e && (C.row e).td.good && decide (0 < (C.row e).size) && compOf n y 0 == some (off, (C.row e).ty) && fieldsB C y (n + 1) fs gs
  | _, _, _ => false
def descB (C : Ctx) (r : TRow) : TypeDesc → Bool := fun d =>
  match r.td, d with
  | .int k, .int j => j == k && r.ty == .it k && r.size == 1
  | .bool, .bool => r.ty == .bo && r.size == 1
  | .str, .string => r.ty == .st && r.size == 1
  | .ptr e, .pointer f => e == f && r.ty == .ni && r.size == 1
  | .slice e, .slice f => e == f && r.ty == .li (C.row e).ty && r.size == 1 && (C.row e).td.good && decide (0 < (C.row e).size)
  | .arr n e, .array m f => n == m && e == f && r.ty == .ar n (C.row e).ty && r.size == n * (C.row e).size && (C.row e).td.good && decide (0 < (C.row e).size)
  | .struct fs, .struct gs => fieldsB C r.ty 0 fs gs.toList
  | _, _ => false
def flatTys : Ty → List Ty
  | .ue => []
  | .co t r => flatTys t ++ flatTys r
  | .ar n t => (List.replicate n (flatTys t)).flatten
  | t => [t]
/-- structs of one number may be held against one another -/
def eqB (P : Program) (C : Ctx) (t : TypeId) : Bool :=
  match (C.row t).td with
  | .struct [(0, e)] => match (C.row e).td with
    | .int _ => !P.stoodInHeld t && !P.eqGuardType P.depth t && (match P.underlying t with | some (.struct gs) => gs.toList.all (fun f => !(f.name == "_")) | _ => true)
    | _ => true
  | _ => true
/-- a type's methods, its keys' kind -/
def methB (P : Program) (C : Ctx) (t : TypeId) : Bool :=
  (C.row t).meths.all fun (n, g, b) => match P.info? t with
    | some i => match i.methods.find? (·.name == n) with
      | some m => m.path.isEmpty && (match m.func, P.underlying t, b with
        | some (f, true), some (.pointer _), true => f == g
        | some (f, false), some (.pointer e), false => f == g && (match (C.row t).td with | .ptr e' => e == e' | _ => false)
        | some (f, false), some (.slice _), true => f == g
        | some (f, false), some (.struct _), true => f == g
        | some (f, false), some (.int _), true => f == g
        | _, _, _ => false)
      | none => false
    | none => false
def mapB (P : Program) (C : Ctx) (t : TypeId) : Bool :=
  match (C.row t).mapk with
  | none => true
  | some (e, k) => match P.underlying t with
    | some (.map e' _) => e == e' && (match P.underlying e with | some (.int j) => j == k | _ => false)
    | _ => false
def rowB (P : Program) (C : Ctx) (t : TypeId) : Bool :=
  methB P C t && mapB P C t && (!(C.row t).td.good ||
  ((match P.info? t with
    | some i => i.size == (C.row t).size && i.bytes == (C.row t).bytes && (match i.zero with | some z => zerosB (C.row t).cells z.cells.toList | none => false)
    | none => false) &&
   (match P.underlying t with | some d => descB C (C.row t) d | none => false) &&
   (C.row t).ty.size == (C.row t).size && (C.row t).ty.agg == (C.row t).isAgg && decide ((C.row t).cells.length = (C.row t).size) && decide ((C.row t).bytes ≤ 1048576) && decide (flatTys (C.row t).ty = (C.row t).cells) && decide ((C.row t).size = 0 ∨ 0 < (C.row t).bytes) && eqB P C t))
def RowsOK (P : Program) (C : Ctx) : Prop := ∀ t, rowB P C t = true
theorem rowsOK_of {P : Program} {C : Ctx} (h : (List.range C.rows.length).all (rowB P C) = true) : RowsOK P C := by
  intro t
  by_cases ht : t < C.rows.length
  · exact List.all_eq_true.1 h t (List.mem_range.2 ht)
  · have : C.row t = ⟨.other, 0, 0, .ue, [], [], none⟩ := by simp [Ctx.row, List.getD_eq_getElem?_getD, List.getElem?_eq_none (Nat.le_of_not_lt ht)]
    simp [rowB, methB, mapB, this, TD.good]

structure RowOK (P : Program) (C : Ctx) (t : TypeId) : Prop where
  info : ∃ i z, P.info? t = some i ∧ i.size = (C.row t).size ∧ i.bytes = (C.row t).bytes ∧ i.zero = some z ∧ zerosB (C.row t).cells z.cells.toList = true
  desc : ∃ d, P.underlying t = some d ∧ descB C (C.row t) d = true
  size : (C.row t).ty.size = (C.row t).size
  agg : (C.row t).ty.agg = (C.row t).isAgg
  cells : (C.row t).cells.length = (C.row t).size
  bytes : (C.row t).bytes ≤ 1048576
  flat : flatTys (C.row t).ty = (C.row t).cells
  byte : (C.row t).size = 0 ∨ 0 < (C.row t).bytes
  eq : eqB P C t = true
theorem RowsOK.row {P : Program} {C : Ctx} (h : RowsOK P C) {t : TypeId} (hg : (C.row t).td.good = true) : RowOK P C t := by
  have := h t
  simp only [rowB, hg, Bool.not_true, Bool.false_or, Bool.and_eq_true, beq_iff_eq, decide_eq_true_eq] at this
  obtain ⟨-, ⟨⟨⟨⟨⟨⟨⟨h1, h2⟩, h3⟩, h4⟩, h5⟩, h6⟩, h7⟩, h8⟩, h9⟩ := this
  refine ⟨?_, ?_, h3, h4, h5, h6, h7, h8, h9⟩
  · split at h1
    · rename_i i hi
      simp only [Bool.and_eq_true, beq_iff_eq] at h1
      obtain ⟨⟨a, b⟩, c⟩ := h1
      split at c
      · rename_i z hz; exact ⟨i, z, hi, a, b, hz, c⟩
      · exact absurd c (by simp)
    · exact absurd h1 (by simp)
  · split at h2
    · rename_i d hd; exact ⟨d, hd, h2⟩
    · exact absurd h2 (by simp)

section
variable {P : Program} {C : Ctx} {t : TypeId} (h : RowsOK P C)
include h
theorem RowsOK.slice [tI : Tst] {e : TypeId} (ht : (C.row t).td = .slice e) : P.underlying t = some (.slice e) ∧ (C.row t).ty = .li (C.row e).ty ∧ (C.row t).size = 1 ∧ (C.row e).td.good = true ∧ 0 < (C.row e).size := by
  obtain ⟨d, hd, hb⟩ := (h.row (t := t) (by rw [ht]; rfl)).desc
  cases d <;> simp [descB, ht] at hb
  obtain ⟨⟨⟨⟨rfl, a⟩, b⟩, c⟩, f⟩ := hb
  exact ⟨hd, a, b, c, f⟩
theorem RowsOK.int [tI : Tst] {k : IntKind} (ht : (C.row t).td = .int k) : P.underlying t = some (.int k) ∧ (C.row t).ty = .it k := by
  obtain ⟨d, hd, hb⟩ := (h.row (t := t) (by rw [ht]; rfl)).desc
  simp only [descB, ht] at hb
  split at hb <;> simp_all
theorem RowsOK.bool [tI : Tst] (ht : (C.row t).td = .bool) : P.underlying t = some .bool := by
  obtain ⟨d, hd, hb⟩ := (h.row (t := t) (by rw [ht]; rfl)).desc
  simp only [descB, ht] at hb
  split at hb <;> simp_all
theorem RowsOK.ptr [tI : Tst] {e : TypeId} (ht : (C.row t).td = .ptr e) : P.underlying t = some (.pointer e) := by
  obtain ⟨d, hd, hb⟩ := (h.row (t := t) (by rw [ht]; rfl)).desc
  simp only [descB, ht] at hb
  split at hb <;> simp_all
theorem RowsOK.str [tI : Tst] (ht : (C.row t).td = .str) : P.underlying t = some .string := by
  obtain ⟨d, hd, hb⟩ := (h.row (t := t) (by rw [ht]; rfl)).desc
  simp only [descB, ht] at hb
  split at hb <;> simp_all
theorem RowsOK.arr [tI : Tst] {n : Nat} {e : TypeId} (ht : (C.row t).td = .arr n e) : P.underlying t = some (.array n e) ∧ (C.row t).ty = .ar n (C.row e).ty ∧ (C.row t).size = n * (C.row e).size ∧ (C.row e).td.good = true ∧ 0 < (C.row e).size := by
  obtain ⟨d, hd, hb⟩ := (h.row (t := t) (by rw [ht]; rfl)).desc
  cases d <;> simp [descB, ht] at hb
  obtain ⟨⟨⟨⟨⟨rfl, rfl⟩, a⟩, b⟩, c⟩, f⟩ := hb
  exact ⟨hd, a, b, c, f⟩
omit h in
theorem fieldsB_get {y : Ty} : ∀ {fs : List (Nat × TypeId)} {gs : List Field} {n i : Nat} {off : Nat} {e : TypeId}, fieldsB C y n fs gs = true → fs[i]? = some (off, e) →
    ∃ g, gs[i]? = some g ∧ g.offset = off ∧ g.type = e ∧ (C.row e).td.good = true ∧ 0 < (C.row e).size ∧ compOf (n + i) y 0 = some (off, (C.row e).ty)
  | [], [], _, _, _, _, _, hg => by simp at hg
  | (o, f) :: fs, g :: gs, n, 0, off, e, hb, hg => by
    simp only [fieldsB, Bool.and_eq_true, beq_iff_eq, decide_eq_true_eq] at hb
    simp only [List.getElem?_cons_zero, Option.some.injEq, Prod.mk.injEq] at hg
    obtain ⟨rfl, rfl⟩ := hg
    exact ⟨g, by simp, hb.1.1.1.1.1, hb.1.1.1.1.2, hb.1.1.1.2, hb.1.1.2, hb.1.2⟩
  | (o, f) :: fs, g :: gs, n, i + 1, off, e, hb, hg => by
    simp only [fieldsB, Bool.and_eq_true] at hb
    obtain ⟨g', h1, h2⟩ := fieldsB_get hb.2 (by simpa using hg)
    exact ⟨g', by simpa using h1, by rw [show n + (i + 1) = n + 1 + i from by omega]; exact h2⟩
  | [], _ :: _, _, _, _, _, hb, _ => by simp [fieldsB] at hb
  | _ :: _, [], _, _, _, _, hb, _ => by simp [fieldsB] at hb
theorem RowsOK.struct [tI : Tst] {fs : List (Nat × TypeId)} (ht : (C.row t).td = .struct fs) : ∃ gs : Array Field, P.underlying t = some (.struct gs) ∧ fieldsB C (C.row t).ty 0 fs gs.toList = true := by
  obtain ⟨d, hd, hb⟩ := (h.row (t := t) (by rw [ht]; rfl)).desc
  simp only [descB, ht] at hb
  split at hb <;> simp_all
end

/-! ### memory -/
def owns (E : Env) (o : Nat) : Ent → Option Nat
  | .gone => none
  | .obj _ => some (E.blk o)
  | .frz _ _ _ | .rdo _ _ _ => none
  | .row _ _ _ => E.ex o
  | .fam _ => E.ex o
  | .lit _ => E.ex o
  | .keys _ _ => some (E.blk o)

def FamOK (E : Env) (base : Nat) (w : World) (o : Nat) : Prop :=
  match E.ex o with
  | some g => ∃ cap cur e, E.plc o = .slice (some ⟨g, 0, none⟩) (E.len o) cap ∧ base ≤ g ∧ w.heap[g]? = some (.cells cur e (0, 0)) ∧ E.len o ≤ cap ∧ cap ≤ maxLen ∧ cur.size = cap * E.sz o ∧ ∀ j, E.len o * E.sz o ≤ j → E.m g j = none
  | none => ∃ a, E.plc o = .slice a (E.len o) (E.len o)

/-- a row's cells, where they lie -/
def RowAt (E : Env) (base : Nat) (w : World) (o : Nat) (t : Ty) (xs : List t.den) : Prop :=
  match E.ex o with
  | none => xs = [] ∧ ∃ a, E.plc o = .slice a 0 0
  | some g => ∃ cap l cur e, E.plc o = .slice (some ⟨g, 0, none⟩) l cap ∧ base ≤ g ∧ w.heap[g]? = some (.cells cur e (0, 0)) ∧ List.length xs ≤ cap ∧ cap ≤ maxLen ∧ cap * t.size ≤ cur.size ∧
      (∀ i (h : i < List.length xs), RepL E.m t xs[i] ((cur.toList.drop (i * t.size)).take t.size)) ∧ ∀ j, E.m g j = none
/-- a row that is read alone, in some memory -/
def ReadAt (E : Env) (M : Mem) (o : Nat) (t : Ty) (xs : List t.den) : Prop :=
  match E.plc o with
  | .slice (some p) _ cap => (0 < cap → p.spot = none) ∧ List.length xs ≤ cap ∧ ∀ i (h : i < List.length xs), ∃ vs, Lies M p.block (p.off + i * t.size) vs ∧ RepL E.m t xs[i] vs
  | .slice none _ _ => xs = []
  | _ => False
def EntOK (E : Env) (base : Nat) (w : World) (o : Nat) : Ent → Prop
  | .gone => True
  | .obj cs => E.live o ∧ (base ≤ E.blk o ∨ E.lent (E.blk o)) ∧ ∃ (us : List Value) (t : TypeId), w.heap[E.blk o]? = some (.cells us.toArray t (0, 0)) ∧ RepVs E cs us ∧ (∀ u ∈ us, u.oneCell' = true) ∧ ∀ j, E.m (E.blk o) j = none
  | .row k t xs => E.live o ∧ k = E.len o ∧ E.sz o = t.size ∧ RowAt E base w o t xs
  | .frz k t xs => E.live o ∧ k = E.len o ∧ E.sz o = t.size ∧ ReadAt E E.m o t xs
  | .rdo k t xs => E.live o ∧ k = E.len o ∧ E.sz o = t.size ∧ t.flat = true ∧ ReadAt E E.rm o t xs
  | .fam n => E.live o ∧ n = E.len o ∧ FamOK E base w o
  | .lit n => (E.live o ∧ n = E.len o ∧ FamOK E base w o) ∧ ∃ g, E.ex o = some g
  | .keys k ks => E.live o ∧ base ≤ E.blk o ∧ ∃ (es : Array MapEntry) (c : Nat), w.heap[E.blk o]? = some (.map es c) ∧ es.toList.map (fun e => e.key) = ks.map (Value.int k)

/-- what lies below stays, but what is lent -/
structure BelowX (X : Nat → Prop) (B : Nat) (w w' : World) : Prop where
  os : w'.os = w.os
  tape : w'.tape = w.tape
  output : w'.output = w.output
  size : w.heap.size ≤ w'.heap.size
  block : ∀ k, k < B → ¬ X k → w'.heap[k]? = w.heap[k]?
theorem BelowX.trans {X : Nat → Prop} {B : Nat} {a b c : World} (h : BelowX X B a b) (k : BelowX X B b c) : BelowX X B a c :=
  ⟨k.os.trans h.os, k.tape.trans h.tape, k.output.trans h.output, Nat.le_trans h.size k.size, fun i hi hx => (k.block i hi hx).trans (h.block i hi hx)⟩
theorem below_toX {X : Nat → Prop} {B : Nat} {a b : World} (h : Below B a b) : BelowX X B a b := ⟨h.os, h.tape, h.output, h.size, fun i hi _ => h.block i hi⟩
theorem BelowX.to {B : Nat} {a b : World} (h : BelowX (fun _ => False) B a b) : Below B a b := ⟨h.os, h.tape, h.output, h.size, fun i hi => h.block i hi (fun x => x)⟩
structure Sim (base : Nat) (w0 : World) (E : Env) (S : List Ent) (w : World) : Prop where
  below : BelowX E.lent base w0 w
  base_le : base ≤ w.heap.size
  mem : E.m.lies w
  ents : ∀ o, EntOK E base w o (ent S o)
  apart : ∀ o o' B, o ≠ o' → owns E o (ent S o) = some B → owns E o' (ent S o') = some B → False
  lt : ∀ o, E.live o → o < S.length
  /-- nothing new is known of what lies below -/
  old : ∀ b, b < base → ∀ j, E.m b j = E.m0 b j
  rmem : ∀ b j v, E.rm b j = some v → b < base ∧ ¬ E.lent b ∧ w.cell? ⟨b, j, none⟩ = some v

theorem ent_eq : ∀ (S : List Ent) (n : Nat), ent S n = S.getD n .gone
  | [], n => by simp [ent]
  | _ :: _, 0 => by simp [ent]
  | _ :: S, n + 1 => by simp [ent, ent_eq S n]
theorem ent_set [tI : Tst] (S : List Ent) (n o : Nat) (e : Ent) : ent (S.set n e) o = if o = n ∧ n < S.length then e else ent S o := by
  simp only [ent_eq, List.getD_eq_getElem?_getD, List.getElem?_set]
  by_cases h : n = o
  · subst h
    by_cases h' : n < S.length
    · simp [h']
    · simp [h', List.getElem?_eq_none (Nat.le_of_not_lt h')]
  · rw [if_neg h, if_neg (fun k => h k.1.symm)]
theorem ent_set_same [tI : Tst] {S : List Ent} {n : Nat} (e : Ent) (h : n < S.length) : ent (S.set n e) n = e := by rw [ent_set, if_pos ⟨rfl, h⟩]
theorem ent_set_ne [tI : Tst] {S : List Ent} {n o : Nat} (e : Ent) (h : o ≠ n) : ent (S.set n e) o = ent S o := by rw [ent_set, if_neg (fun k => h k.1)]
theorem ent_app [tI : Tst] (S T : List Ent) (o : Nat) (hT : ∀ e ∈ T, e = .gone) : ent (S ++ T) o = ent S o := by
  simp only [ent_eq, List.getD_eq_getElem?_getD, List.getElem?_append]
  split
  · rfl
  · rename_i h
    rw [List.getElem?_eq_none (Nat.le_of_not_lt h)]
    cases hg : T[o - S.length]? with
    | none => rfl
    | some e => simp [hT e (List.mem_of_getElem? hg)]

def sets (S : List Ent) : List (Nat × Ent) → List Ent
  | [] => S
  | (n, e) :: us => sets (S.set n e) us
theorem length_sets : ∀ (us : List (Nat × Ent)) (S : List Ent), (sets S us).length = S.length
  | [], _ => rfl
  | (n, e) :: us, S => by simp [sets, length_sets us]
theorem ent_sets_other [tI : Tst] : ∀ (us : List (Nat × Ent)) (S : List Ent) (o : Nat), (∀ x ∈ us, x.1 ≠ o) → ent (sets S us) o = ent S o
  | [], _, _, _ => rfl
  | (n, e) :: us, S, o, h => by
    rw [sets, ent_sets_other us _ o (fun x hx => h x (List.mem_cons_of_mem _ hx)), ent_set, if_neg]
    exact fun k => h (n, e) (List.mem_cons_self ..) k.1.symm

/-- an entry that nothing has turned stands as it stood -/
theorem EntOK.keep' [tI : Tst] {E E' : Env} {base : Nat} {w w' : World} {o : Nat} {e : Ent} (h : EntOK E base w o e) (hlit : ∀ n, e ≠ .lit n) (hle : E.Le E')
    (hs : E.live o → E'.ex o = E.ex o ∧ E'.len o = E.len o)
    (hb : ∀ B, owns E o e = some B → w'.heap[B]? = w.heap[B]? ∧ ∀ j, E'.m B j = E.m B j) : EntOK E' base w' o e := by
  cases e with
  | lit n => exact absurd rfl (hlit n)
  | gone => trivial
  | obj cs =>
    obtain ⟨h1, h2, us, t, h3, h4, h5, h6⟩ := h
    obtain ⟨b1, b2⟩ := hb _ rfl
    refine ⟨hle.live o h1, by rw [hle.blk o h1, hle.lent]; exact h2, us, t, by rw [hle.blk o h1, b1]; exact h3, RepVs.mono hle _ _ h4, h5, fun j => ?_⟩
    rw [hle.blk o h1, b2]; exact h6 j
  | row k t xs =>
    obtain ⟨h1, h2, h3, h4⟩ := h
    obtain ⟨s1, s2⟩ := hs h1
    refine ⟨hle.live o h1, h2.trans s2.symm, (hle.sz o h1).trans h3, ?_⟩
    have hp := hle.plc o h1 s2
    unfold RowAt at h4 ⊢
    rw [s1, hp]
    cases hx : E.ex o with
    | none => rw [hx] at h4; exact h4
    | some g =>
      rw [hx] at h4
      obtain ⟨cap, l, cur, e, k1, k2, k3, k4, k5, k6, k7, k8⟩ := h4
      obtain ⟨b1, b2⟩ := hb g hx
      exact ⟨cap, l, cur, e, k1, k2, by rw [b1]; exact k3, k4, k5, k6, fun i hi => RepL.mono hle.m _ _ _ (k7 i hi), fun j => by rw [b2]; exact k8 j⟩
  | frz k t xs =>
    obtain ⟨h1, h2, h3, h4⟩ := h
    obtain ⟨s1, s2⟩ := hs h1
    refine ⟨hle.live o h1, h2.trans s2.symm, (hle.sz o h1).trans h3, ?_⟩
    unfold ReadAt at h4 ⊢
    rw [hle.plc o h1 s2]
    generalize E.plc o = pl at h4 ⊢
    split at h4
    · exact ⟨h4.1, h4.2.1, fun i hi => by obtain ⟨vs, v1, v2⟩ := h4.2.2 i hi; exact ⟨vs, v1.mono hle.m, RepL.mono hle.m _ _ _ v2⟩⟩
    · exact h4
    · exact h4.elim
  | rdo k t xs =>
    obtain ⟨h1, h2, h3, hf, h4⟩ := h
    obtain ⟨s1, s2⟩ := hs h1
    refine ⟨hle.live o h1, h2.trans s2.symm, (hle.sz o h1).trans h3, hf, ?_⟩
    unfold ReadAt at h4 ⊢
    rw [hle.plc o h1 s2, hle.rm]
    generalize E.plc o = pl at h4 ⊢
    split at h4
    · exact ⟨h4.1, h4.2.1, fun i hi => by obtain ⟨vs, v1, v2⟩ := h4.2.2 i hi; exact ⟨vs, v1, RepL.mono hle.m _ _ _ v2⟩⟩
    · exact h4
    · exact h4.elim
  | fam n =>
    obtain ⟨h1, h2, h3⟩ := h
    obtain ⟨s1, s2⟩ := hs h1
    refine ⟨hle.live o h1, h2.trans s2.symm, ?_⟩
    have hp := hle.plc o h1 s2
    have hz := hle.sz o h1
    unfold FamOK at h3 ⊢
    rw [s1, s2, hp, hz]
    cases hx : E.ex o with
    | none => rw [hx] at h3; exact h3
    | some g =>
      rw [hx] at h3
      obtain ⟨cap, cur, e, k1, k2, k3, k4, k5, k6, k7⟩ := h3
      obtain ⟨b1, b2⟩ := hb g hx
      exact ⟨cap, cur, e, k1, k2, by rw [b1]; exact k3, k4, k5, k6, fun j hj => by rw [b2]; exact k7 j hj⟩
  | keys k ks =>
    obtain ⟨h1, h2, es, c, h3, h4⟩ := h
    have hb' := (hb _ rfl).1
    exact ⟨hle.live o h1, by rw [hle.blk o h1]; exact h2, es, c, by rw [hle.blk o h1, hb']; exact h3, h4⟩
theorem EntOK.keep [tI : Tst] {E E' : Env} {base : Nat} {w w' : World} {o : Nat} {e : Ent} (h : EntOK E base w o e) (hle : E.Le E')
    (hs : E.live o → E'.ex o = E.ex o ∧ E'.len o = E.len o)
    (hb : ∀ B, owns E o e = some B → w'.heap[B]? = w.heap[B]? ∧ ∀ j, E'.m B j = E.m B j) : EntOK E' base w' o e := by
  cases e with
  | lit n =>
    obtain ⟨h1, g, h2⟩ := h
    exact ⟨EntOK.keep' (e := .fam n) h1 (by intro n; simp) hle hs hb, g, by rw [(hs h1.1).1]; exact h2⟩
  | _ => exact h.keep' (by intro n; simp) hle hs hb
theorem owns_keep {E E' : Env} {base : Nat} {w : World} {o : Nat} {e : Ent} (h : EntOK E base w o e) (hle : E.Le E') (hs : E.live o → E'.ex o = E.ex o) : owns E' o e = owns E o e := by
  cases e with
  | gone => rfl
  | obj cs => exact congrArg some (hle.blk o h.1)
  | row k t xs => exact hs h.1
  | frz k t xs => rfl
  | rdo k t xs => rfl
  | fam n => exact hs h.1
  | lit n => exact hs h.1.1
  | keys k ks => exact congrArg some (hle.blk o h.1)

/-- a step: all that isn't among what is turned stays -/
theorem Sim.step [tI : Tst] {base : Nat} {w0 w w' : World} {E E' : Env} {S S' : List Ent} (sim : Sim base w0 E S w) (hle : E.Le E') (hbel : BelowX E.lent base w w') (ch : Nat → Prop)
    (hsame : ∀ o, ¬ ch o → ent S' o = ent S o ∧ (E.live o → E'.ex o = E.ex o ∧ E'.len o = E.len o))
    (hblk : ∀ o B, ¬ ch o → owns E o (ent S o) = some B → w'.heap[B]? = w.heap[B]? ∧ ∀ j, E'.m B j = E.m B j)
    (hm : E'.m.lies w') (hnew : ∀ o, ch o → EntOK E' base w' o (ent S' o))
    (hap : ∀ o B, ch o → owns E' o (ent S' o) = some B → ∀ o', ¬ ch o' → owns E o' (ent S o') ≠ some B)
    (hch : ∀ o o' B, ch o → ch o' → o ≠ o' → owns E' o (ent S' o) = some B → owns E' o' (ent S' o') = some B → False)
    (hlt : ∀ o, E'.live o → o < S'.length) (hold : ∀ b, b < base → ∀ j, E'.m b j = E.m b j) : Sim base w0 E' S' w' where
  old b hb j := by rw [hold b hb j, hle.m0]; exact sim.old b hb j
  rmem b j v h := by
    rw [hle.rm] at h
    obtain ⟨r1, r2, r3⟩ := sim.rmem b j v h
    rw [hle.lent]
    refine ⟨r1, r2, ?_⟩
    rw [World.cell?_of_block (w := w) (hbel.block b r1 r2)]
    exact r3
  below := by rw [hle.lent]; exact sim.below.trans hbel
  base_le := Nat.le_trans sim.base_le hbel.size
  mem := hm
  ents o := by
    by_cases h : ch o
    · exact hnew o h
    · rw [(hsame o h).1]
      exact (sim.ents o).keep hle (hsame o h).2 (fun B hB => hblk o B h hB)
  apart o o' B hne h1 h2 := by
    have key : ∀ o, ¬ ch o → owns E' o (ent S' o) = owns E o (ent S o) := fun o h => by
      rw [(hsame o h).1]; exact owns_keep (sim.ents o) hle (fun l => ((hsame o h).2 l).1)
    by_cases a : ch o <;> by_cases b : ch o'
    · exact hch o o' B a b hne h1 h2
    · rw [key o' b] at h2; exact hap o B a h1 o' b h2
    · rw [key o a] at h1; exact hap o' B b h2 o a h1
    · rw [key o a] at h1; rw [key o' b] at h2; exact sim.apart o o' B hne h1 h2
  lt := hlt

/-- what one operation comes to -/
def Done (base : Nat) (w0 : World) (E : Env) (S : List Ent) (w : World) (id n : Nat) (res : Result Next) (v : V) (us : List (Nat × Ent)) : Prop :=
  ∃ u w' E', (res = .ok (.value u) w' ∨ (res = .ok .skip w' ∧ u = undef)) ∧ E.Le E' ∧ Sim base w0 E' (sets S us) w' ∧ RepV E' v u ∧ ∀ o, E'.live o → E.live o ∨ (id ≤ o ∧ o < id + n)
theorem Done.pure [tI : Tst] {base : Nat} {w0 : World} {E : Env} {S : List Ent} {w : World} {id n : Nat} {v : V} {u : Value} (sim : Sim base w0 E S w) (h : RepV E v u) : Done base w0 E S w id n (.ok (.value u) w) v [] :=
  ⟨u, w, E, .inl rfl, Env.Le.refl E, sim, h, fun _ l => .inl l⟩
end Go.Proofs.Ytmpmmfbgdpfnpaa.Ev
/- One operation after the other: what the walker tells of it is what the machine does. (First: those that make and turn nothing.) -/
namespace Go.Proofs.Ytmpmmfbgdpfnpaa.Ev
open Go Go.RowKit
set_option linter.unusedVariables false
set_option linter.unusedSimpArgs false

theorem inR_iff {k : IntKind} {n : Int} : inR k n = true ↔ k.min ≤ n ∧ n ≤ k.max := by simp [inR]
theorem rep_int {E : Env} {k : IntKind} {n : Int} (h : k.min ≤ n ∧ n ≤ k.max) : RepV E (.d (.it k) n) (.int k n) := by
  simp only [RepV]; exact ⟨_, ⟨rfl, h⟩, rfl⟩
theorem rep_int_iff {E : Env} {k : IntKind} {n : Int} {u : Value} : RepV E (.d (.it k) n) u ↔ u = .int k n ∧ k.min ≤ n ∧ n ≤ k.max := by
  simp only [RepV]
  constructor
  · rintro ⟨us, ⟨rfl, h⟩, rfl⟩; exact ⟨rfl, h⟩
  · rintro ⟨rfl, h⟩; exact ⟨_, ⟨rfl, h⟩, rfl⟩
theorem rep_bool {E : Env} (b : Bool) : RepV E (.d .bo b) (.bool b) := by
  simp only [RepV]; exact ⟨[.bool b], rfl, rfl⟩
theorem rep_bool_iff {E : Env} {b : Bool} {u : Value} : RepV E (.d .bo b) u ↔ u = .bool b := by
  simp only [RepV]
  constructor
  · rintro ⟨us, h, rfl⟩; rw [show us = _ from h]; rfl
  · rintro rfl; exact ⟨[.bool b], rfl, rfl⟩
theorem rep_nil_iff {E : Env} {x : Unit} {u : Value} : RepV E (.d .ni x) u ↔ u = .pointer none := by
  simp only [RepV]
  constructor
  · rintro ⟨us, h, rfl⟩; rw [show us = _ from h]; rfl
  · rintro rfl; exact ⟨[.pointer none], rfl, rfl⟩
theorem rep_str_iff {E : Env} {l : List Int} {u : Value} : RepV E (.d .st l) u ↔ ∃ s : ByteArray, u = .string s ∧ strInts s = l ∧ s.size ≤ maxL := by
  simp only [RepV]
  constructor
  · rintro ⟨us, ⟨s, rfl, h⟩, rfl⟩; exact ⟨s, rfl, h⟩
  · rintro ⟨s, rfl, h⟩; exact ⟨_, ⟨s, rfl, h⟩, rfl⟩
theorem rep_li_iff {E : Env} {t : Ty} {xs : List t.den} {u : Value} : RepV E (.d (.li t) xs) u ↔ RepL E.m (.li t) xs [u] := by
  simp only [RepV]
  constructor
  · rintro ⟨us, ⟨a, c, rfl, h⟩, rfl⟩; exact ⟨a, c, rfl, h⟩
  · intro h; exact ⟨[u], h, rfl⟩
theorem repl_sub {m : Mem} {t : Ty} {xs : List t.den} {u : Value} : RepL m (.li t) xs [u] ↔ RepD m (.li t) xs u := by
  constructor
  · intro h; exact ⟨[u], h, rfl⟩
  · rintro ⟨us, ⟨a, c, rfl, h⟩, rfl⟩; exact ⟨a, c, rfl, h⟩

theorem const_rep [tI : Tst] (E : Env) (v : Value) : RepV E (constV v) v := by
  unfold constV
  split
  · exact rep_bool _
  · split
    · rename_i h; exact rep_int (inR_iff.1 h)
    · simp [RepV]
  · split
    · rename_i h; exact rep_str_iff.2 ⟨_, rfl, rfl, h⟩
    · simp [RepV]
  · exact rep_nil_iff.2 rfl
  · simp [RepV]
  · simp [RepV]
theorem oneC_iff (v : Value) (h : oneC v = true) : v.oneCell' = true := by cases v <;> simp_all [oneC, Value.oneCell']
theorem constA_rep [tI : Tst] (E : Env) (v : Value) : RepV E (constA v) v := by
  unfold constA
  split
  · rename_i cs
    split
    · rename_i h
      simp only [RepV]
      refine ⟨cs.toList, by simp, ?_, fun u hu => oneC_iff u (List.all_eq_true.1 h u hu)⟩
      clear h
      induction cs.toList with
      | nil => simp [RepVs]
      | cons c l ih => simp only [List.map_cons, RepVs]; exact ⟨const_rep E c, ih⟩
    · simp [RepV]
  · exact const_rep E v

/-- the slots -/
structure SimA (E : Env) (sl : List V) (a : Act) : Prop where
  defers : a.defers = []
  rep : RepVs E sl a.tmps.toList
theorem SimA.mono [tI : Tst] {E E' : Env} {sl : List V} {a : Act} (h : SimA E sl a) (hle : E.Le E') : SimA E' sl a := ⟨h.defers, RepVs.mono hle _ _ h.rep⟩
theorem SimA.opd [tI : Tst] {E : Env} {sl : List V} {a : Act} (h : SimA E sl a) (x : Operand) : RepV E (opd sl x) (a.eval x) := by
  cases x with
  | tmp t =>
    simp only [Ev.opd, Act.eval]
    by_cases ht : t < a.tmps.size
    · refine RepVs.get t h.rep ?_
      simp [ht, Array.getD]
    · have : look sl t = .bad := by
        rw [look_eq, List.getD_eq_getElem?_getD, List.getElem?_eq_none (by rw [h.rep.length]; simpa using ht)]; rfl
      rw [this]; simp [RepV]
  | const v => exact constA_rep E v
  | global g => simp [Ev.opd, RepV]
  | func f => simp only [Ev.opd, RepV, Act.eval]; exact ⟨[], [], rfl, by simp [RepVs], by simp [RepVs]⟩

theorem wrap_range (k : IntKind) (n : Int) : k.min ≤ k.wrap n ∧ k.wrap n ≤ k.max := by
  cases k <;> simp [IntKind.wrap, IntKind.min, IntKind.max, IntKind.bits, IntKind.signed] <;> (try split) <;> omega
theorem range_neg (k : IntKind) : k.min ≤ 0 ∧ 0 ≤ k.max ∧ (k.min = 0 ∨ k.min = - k.max - 1) := by
  cases k <;> simp [IntKind.min, IntKind.max, IntKind.bits, IntKind.signed]
theorem fdiv_range [tI : Tst] {k : IntKind} {a : Int} (m : Nat) (h : k.min ≤ a ∧ a ≤ k.max) : k.min ≤ a.fdiv (2 ^ m) ∧ a.fdiv (2 ^ m) ≤ k.max := by
  have hp : (0 : Int) < 2 ^ m := Int.pow_pos (by omega)
  rw [Int.fdiv_eq_ediv_of_nonneg _ (Int.le_of_lt hp)]
  have hr := range_neg k
  by_cases ha : 0 ≤ a
  · have h1 : 0 ≤ a / 2 ^ m := Int.ediv_nonneg ha (Int.le_of_lt hp)
    have h2 : a / 2 ^ m ≤ a := Int.ediv_le_self _ ha
    omega
  · have h1 : a / 2 ^ m < 0 := Int.ediv_neg_of_neg_of_pos (by omega) hp
    have h2 : a ≤ a / 2 ^ m := by
      rw [Int.le_ediv_iff_mul_le hp]
      have : (1 : Int) ≤ 2 ^ m := hp
      have := Int.mul_nonneg (a := -a) (b := 2 ^ m - 1) (by omega) (by omega)
      rw [Int.mul_sub, Int.neg_mul] at this
      omega
    omega
theorem tmod_range [tI : Tst] {k : IntKind} {a b : Int} (h : k.min ≤ a ∧ a ≤ k.max) : k.min ≤ a.tmod b ∧ a.tmod b ≤ k.max := by
  have hr := range_neg k
  have h1 := Int.natAbs_tmod a b
  have h2 := Nat.mod_le a.natAbs b.natAbs
  by_cases ha : 0 ≤ a
  · have h3 := Int.tmod_nonneg b ha
    omega
  · have e : a.tmod b = -((-a).tmod b) := by rw [Int.neg_tmod]; omega
    have h3 := Int.tmod_nonneg b (a := -a) (by omega)
    omega
end Go.Proofs.Ytmpmmfbgdpfnpaa.Ev
/- One operation after the other, continued: numbers, fields, elements, interfaces. -/
namespace Go.Proofs.Ytmpmmfbgdpfnpaa.Ev
open Go Go.RowKit
set_option linter.unusedVariables false
set_option linter.unusedSimpArgs false

section
variable {P : Program} {E : Env} {w : World}
theorem eqGuard_pure (op : BinOp) (t : TypeId) (x y : Operand) (a b : Value) (h : oneC a = true ∧ (∀ z, a = z → z ≠ .nilIface)) : (eqGuard op t x y a b).run P w = .ok () w := by
  unfold eqGuard
  cases op <;> (try rfl) <;> (cases a <;> simp_all [oneC])

theorem binI_ok [tI : Tst] {op : BinOp} {k j : IntKind} {a b : Int} {g : Bool} {v : V} {t : TypeId} (h : binI op k a j b = some (g, v)) (hg : g = true)
    (ha : k.min ≤ a ∧ a ≤ k.max) : ∃ u, (binOp op t (.int k a) (.int j b)).run P w = .ok u w ∧ RepV E v u := by
  unfold binI at h
  cases op <;> simp only [] at h
  case shl =>
    simp only [Option.some.injEq, Prod.mk.injEq] at h
    obtain ⟨rfl, rfl⟩ := h
    have hb := tst_iff.1 hg
    refine ⟨_, ?_, rep_int (wrap_range _ _)⟩
    simp [binOp, Op.shift, show ¬ b < 0 by omega]
  case shr =>
    simp only [Option.some.injEq, Prod.mk.injEq] at h
    obtain ⟨rfl, rfl⟩ := h
    have hb := tst_iff.1 hg
    refine ⟨_, ?_, rep_int (fdiv_range _ ha)⟩
    simp [binOp, Op.shift, show ¬ b < 0 by omega]
  all_goals
    split at h
    case isFalse => simp at h
    rename_i hk
    subst hk
    simp only [Option.some.injEq, Prod.mk.injEq] at h
  case add => obtain ⟨rfl, rfl⟩ := h; exact ⟨_, by simp [binOp, Op.intArith], rep_int (wrap_range _ _)⟩
  case sub => obtain ⟨rfl, rfl⟩ := h; exact ⟨_, by simp [binOp, Op.intArith], rep_int (wrap_range _ _)⟩
  case mul => obtain ⟨rfl, rfl⟩ := h; exact ⟨_, by simp [binOp, Op.intArith], rep_int (wrap_range _ _)⟩
  case quo =>
    obtain ⟨rfl, rfl⟩ := h
    have hb : ¬ b = 0 := tst_not.1 (by simpa using hg)
    exact ⟨_, by simp [binOp, Op.intDiv, hb], rep_int (wrap_range _ _)⟩
  case rem =>
    obtain ⟨rfl, rfl⟩ := h
    have hb : ¬ b = 0 := tst_not.1 (by simpa using hg)
    exact ⟨_, by simp [binOp, Op.intDiv, hb], rep_int (tmod_range ha)⟩
  case and => obtain ⟨rfl, rfl⟩ := h; exact ⟨_, by simp [binOp]; rfl, rep_int (wrap_range _ _)⟩
  case or => obtain ⟨rfl, rfl⟩ := h; exact ⟨_, by simp [binOp]; rfl, rep_int (wrap_range _ _)⟩
  case xor => obtain ⟨rfl, rfl⟩ := h; exact ⟨_, by simp [binOp]; rfl, rep_int (wrap_range _ _)⟩
  case andNot => obtain ⟨rfl, rfl⟩ := h; exact ⟨_, by simp [binOp]; rfl, rep_int (wrap_range _ _)⟩
  case eql => obtain ⟨rfl, rfl⟩ := h; rw [tst_eq]; exact ⟨_, by simp [binOp, Op.intCmp]; rfl, rep_bool _⟩
  case neq =>
    obtain ⟨rfl, rfl⟩ := h
    rw [tst_eq, show decide (a ≠ b) = (a != b) from by by_cases e : a = b <;> simp [e]]
    exact ⟨_, by simp [binOp, Op.intCmp], rep_bool _⟩
  case lss => obtain ⟨rfl, rfl⟩ := h; rw [tst_eq]; exact ⟨_, by simp [binOp, Op.intCmp], rep_bool _⟩
  case leq => obtain ⟨rfl, rfl⟩ := h; rw [tst_eq]; exact ⟨_, by simp [binOp, Op.intCmp], rep_bool _⟩
  case gtr => obtain ⟨rfl, rfl⟩ := h; rw [tst_eq]; exact ⟨_, by simp [binOp, Op.intCmp], rep_bool _⟩
  case geq => obtain ⟨rfl, rfl⟩ := h; rw [tst_eq]; exact ⟨_, by simp [binOp, Op.intCmp], rep_bool _⟩

theorem strInts_inj {a b : ByteArray} (h : strInts a = strInts b) : a.toList = b.toList := by
  rw [ByteArray.toList_eq, ByteArray.toList_eq]
  unfold strInts at h
  refine (List.map_inj_right (f := fun b : UInt8 => (b.toNat : Int)) (fun x y e => ?_)).1 h
  have : x.toNat = y.toNat := by exact_mod_cast e
  exact UInt8.toNat_inj.1 this
theorem strInts_eq [tI : Tst] (a b : ByteArray) : (a.toList == b.toList) = decide (strInts a = strInts b) := by
  by_cases e : strInts a = strInts b
  · simp [e, strInts_inj e]
  · have : ¬ a.toList = b.toList := fun k => e (by unfold strInts; rw [← ByteArray.toList_eq, ← ByteArray.toList_eq, k])
    simp [e, this]

theorem isNil_rep [tI : Tst] {v : V} {u : Value} {b : Bool} (h : isNil v = some b) (r : RepV E v u) : ∃ a, u = .pointer a ∧ a.isNone = b := by
  cases v with
  | d t x =>
    cases t <;> simp [isNil] at h
    subst h
    exact ⟨none, rep_nil_iff.1 r, rfl⟩
  | p o a => simp [isNil] at h; subst h; simp only [RepV] at r; exact ⟨_, r.2, rfl⟩
  | ro t x => simp [isNil] at h; subst h; simp only [RepV] at r; obtain ⟨b, off, us, h1, _⟩ := r; exact ⟨_, h1, rfl⟩
  | pr o k i s => simp [isNil] at h; subst h; simp only [RepV] at r; obtain ⟨_, _, _, ad, rfl, _⟩ := r; exact ⟨_, rfl, rfl⟩
  | _ => simp [isNil] at h

theorem equal_bool {t : TypeId} (h : P.underlying t = some .bool) (p q : Bool) : (Op.equal t (.bool p) (.bool q)).run P w = .ok (p == q) w := by
  have key : ∀ d, (Op.equalIn (d + 1) t (.bool p) (.bool q)).run P w = .ok (p == q) w := by intro d; simp [Op.equalIn, run_underlying h]
  exact key 9999
theorem equal_nil {t e : TypeId} (h : P.underlying t = some (.pointer e)) (c d : Option Addr) (hor : (c.isNone || d.isNone) = true) : (Op.equal t (.pointer c) (.pointer d)).run P w = .ok (c.isNone && d.isNone) w := by
  have key : ∀ n, (Op.equalIn (n + 1) t (.pointer c) (.pointer d)).run P w = .ok (c.isNone && d.isNone) w := by
    intro n
    cases c with
    | none => simp [Op.equalIn, run_underlying h]
    | some c =>
      cases d with
      | none => simp [Op.equalIn, run_underlying h]
      | some d => simp at hor
  exact key 9999
theorem nilS_rep [tI : Tst] {x : V} {a : Value} {g b : Bool} (h : nilS x = some (g, b)) (hg : g = true) (r : RepV E x a) : ∃ ad l c, a = .slice ad l c ∧ ad.isNone = b := by
  have li : ∀ {t : Ty} {xs : List t.den}, RepL E.m (.li t) xs [a] → 0 < List.length xs → ∃ ad l c, a = .slice ad l c ∧ ad.isNone = false := by
    intro t xs r hl
    obtain ⟨ad, c, hu, h1, h2, h3, h4⟩ := r
    simp only [List.cons.injEq, and_true] at hu
    subst hu
    cases ad with
    | none => have : List.length xs = 0 := h4.1; omega
    | some ad => exact ⟨_, _, _, rfl, rfl⟩
  cases x with
  | nils => simp only [nilS, Option.some.injEq, Prod.mk.injEq] at h; obtain ⟨-, rfl⟩ := h; simp only [RepV] at r; exact ⟨_, _, _, r, rfl⟩
  | nn t xs => simp only [nilS, Option.some.injEq, Prod.mk.injEq] at h; obtain ⟨-, rfl⟩ := h; simp only [RepV] at r; obtain ⟨-, ad, l, c, r⟩ := r; exact ⟨_, _, _, r, rfl⟩
  | d t xs =>
    cases t <;> simp [nilS] at h
    obtain ⟨rfl, rfl⟩ := h
    exact li (rep_li_iff.1 r) (tst_iff.1 hg)
  | own o t xs =>
    simp only [nilS, Option.some.injEq, Prod.mk.injEq] at h
    obtain ⟨rfl, rfl⟩ := h
    simp only [RepV] at r
    exact li (repl_sub.2 r.1) (tst_iff.1 hg)
  | _ => simp [nilS] at h
theorem equal_slice {t e : TypeId} (h : P.underlying t = some (.slice e)) (ad : Option Addr) (l c : Nat) : (Op.equal t (.slice ad l c) (.slice none 0 0)).run P w = .ok ad.isNone w := by
  have key : ∀ n, (Op.equalIn (n + 1) t (.slice ad l c) (.slice none 0 0)).run P w = .ok ad.isNone w := by
    intro n
    cases ad with
    | none => simp [Op.equalIn, run_underlying h]
    | some ad => simp [Op.equalIn, run_underlying h]
  exact key 9999
theorem nilV_ok [tI : Tst] {C : Ctx} (hC : RowsOK P C) {t : TypeId} {op : BinOp} {x y : V} {a b : Value} {g : Bool} {v : V} (h : nilV (C.row t).td op x y = some (g, v)) (hg : g = true)
    (hx : RepV E x a) (hy : RepV E y b) (ox oy : Operand) :
    ∃ u, (do eqGuard op t ox oy a b; binOp op t a b : Sem Value).run P w = .ok u w ∧ RepV E v u := by
  unfold nilV at h
  split at h
  · rename_i e htd
    simp only [RepV] at hy
    subst hy
    have hu := (hC.slice htd).1
    split at h
    · simp only [Option.map_eq_some_iff, Prod.mk.injEq] at h
      obtain ⟨⟨g', r⟩, h1, h2, rfl⟩ := h
      subst h2
      obtain ⟨ad, l, c, rfl, rfl⟩ := nilS_rep h1 hg hx
      refine ⟨.bool ad.isNone, ?_, rep_bool _⟩
      rw [Sem.run_bind, eqGuard_pure _ _ _ _ _ _ ⟨rfl, by rintro z rfl; simp⟩]
      simp [binOp, equal_slice hu]
    · simp only [Option.map_eq_some_iff, Prod.mk.injEq] at h
      obtain ⟨⟨g', r⟩, h1, h2, rfl⟩ := h
      subst h2
      obtain ⟨ad, l, c, rfl, rfl⟩ := nilS_rep h1 hg hx
      refine ⟨.bool (!ad.isNone), ?_, rep_bool _⟩
      rw [Sem.run_bind, eqGuard_pure _ _ _ _ _ _ ⟨rfl, by rintro z rfl; simp⟩]
      simp [binOp, equal_slice hu]
    · simp at h
  · simp at h
theorem binV_ok [tI : Tst] {C : Ctx} (hC : RowsOK P C) {t : TypeId} {op : BinOp} {x y : V} {a b : Value} {g : Bool} {v : V} (h : binV (C.row t).td op x y = some (g, v)) (hg : g = true)
    (hx : RepV E x a) (hy : RepV E y b) (ox oy : Operand) :
    ∃ u, (do eqGuard op t ox oy a b; binOp op t a b : Sem Value).run P w = .ok u w ∧ RepV E v u := by
  unfold binV at h
  split at h
  · obtain ⟨rfl, ha⟩ := rep_int_iff.1 hx
    obtain ⟨rfl, hb⟩ := rep_int_iff.1 hy
    obtain ⟨u, h1, h2⟩ := binI_ok (P := P) (w := w) (t := t) h hg ha
    exact ⟨u, by rw [Sem.run_bind, eqGuard_pure _ _ _ _ _ _ ⟨rfl, by rintro z rfl; simp⟩]; exact h1, h2⟩
  · obtain rfl := rep_bool_iff.1 hx
    obtain rfl := rep_bool_iff.1 hy
    split at h
    · rename_i p q _ _ htd
      simp only [Option.some.injEq, Prod.mk.injEq] at h
      obtain ⟨rfl, rfl⟩ := h
      refine ⟨.bool (p == q), ?_, ?_⟩
      · rw [Sem.run_bind, eqGuard_pure _ _ _ _ _ _ ⟨rfl, by rintro z rfl; simp⟩]
        simp [binOp, equal_bool (hC.bool htd)]
      · rw [tst_eq]; exact rep_bool _
    · rename_i p q _ _ htd
      simp only [Option.some.injEq, Prod.mk.injEq] at h
      obtain ⟨rfl, rfl⟩ := h
      refine ⟨.bool (!(p == q)), ?_, ?_⟩
      · rw [Sem.run_bind, eqGuard_pure _ _ _ _ _ _ ⟨rfl, by rintro z rfl; simp⟩]
        simp [binOp, equal_bool (hC.bool htd)]
      · rw [show (!(p == q)) = decide (p ≠ q) from by cases p <;> cases q <;> rfl, ← tst_eq]; exact rep_bool _
    · simp at h
  · obtain ⟨s, rfl, hs, hs'⟩ := rep_str_iff.1 hx
    obtain ⟨s2, rfl, hs2, hs2'⟩ := rep_str_iff.1 hy
    subst hs; subst hs2
    split at h
    · simp only [Option.some.injEq, Prod.mk.injEq] at h
      obtain ⟨rfl, rfl⟩ := h
      refine ⟨.bool (s.toList == s2.toList), ?_, ?_⟩
      · rw [Sem.run_bind, eqGuard_pure _ _ _ _ _ _ ⟨rfl, by rintro z rfl; simp⟩]; rfl
      · rw [strInts_eq, ← tst_eq]; exact rep_bool _
    · simp only [Option.some.injEq, Prod.mk.injEq] at h
      obtain ⟨rfl, rfl⟩ := h
      refine ⟨.bool (!(s.toList == s2.toList)), ?_, ?_⟩
      · rw [Sem.run_bind, eqGuard_pure _ _ _ _ _ _ ⟨rfl, by rintro z rfl; simp⟩]; rfl
      · rw [strInts_eq, show (!decide (strInts s = strInts s2)) = decide (strInts s ≠ strInts s2) from by simp, ← tst_eq]; exact rep_bool _
    · simp at h
  · split at h
    · rename_i p q htd hp hq
      split at h
      · rename_i hor
        simp only [Option.some.injEq, Prod.mk.injEq] at h
        obtain ⟨rfl, rfl⟩ := h
        obtain ⟨c, rfl, rfl⟩ := isNil_rep hp hx
        obtain ⟨d, rfl, rfl⟩ := isNil_rep hq hy
        refine ⟨.bool (c.isNone && d.isNone), ?_, rep_bool _⟩
        rw [Sem.run_bind, eqGuard_pure _ _ _ _ _ _ ⟨rfl, by rintro z rfl; simp⟩]
        simp [binOp, equal_nil (hC.ptr htd) c d hor]
      · simp at h
    · rename_i p q htd hp hq
      split at h
      · rename_i hor
        simp only [Option.some.injEq, Prod.mk.injEq] at h
        obtain ⟨rfl, rfl⟩ := h
        obtain ⟨c, rfl, rfl⟩ := isNil_rep hp hx
        obtain ⟨d, rfl, rfl⟩ := isNil_rep hq hy
        refine ⟨.bool (!(c.isNone && d.isNone)), ?_, rep_bool _⟩
        rw [Sem.run_bind, eqGuard_pure _ _ _ _ _ _ ⟨rfl, by rintro z rfl; simp⟩]
        simp [binOp, equal_nil (hC.ptr htd) c d hor]
      · simp at h
    · exact nilV_ok hC h hg hx hy ox oy

theorem one1_rep [tI : Tst] {x : V} {u : Value} {k : IntKind} {a : Int} (h : one1 x = some (k, a)) (hx : RepV E x u) : u = .agg #[.int k a] := by
  unfold one1 at h
  split at h
  · simp only [Option.some.injEq, Prod.mk.injEq] at h
    obtain ⟨rfl, rfl⟩ := h
    simp only [RepV] at hx
    obtain ⟨us, rfl, hr, _⟩ := hx
    cases us with
    | nil => simp [RepVs] at hr
    | cons v us =>
      simp only [RepVs] at hr
      cases us with
      | nil => obtain ⟨rfl, _⟩ := rep_int_iff.1 hr.1; rfl
      | cons w us => simp [RepVs] at hr
  · simp only [Option.some.injEq, Prod.mk.injEq] at h
    obtain ⟨rfl, rfl⟩ := h
    simp only [RepV] at hx
    obtain ⟨us, h1, rfl⟩ := hx
    obtain ⟨u1, u2, rfl, h2, h3⟩ := h1
    obtain ⟨rfl, _⟩ := h2
    obtain rfl : u2 = [] := h3
    rfl
  · simp at h
theorem equal_one {t : TypeId} {f : Field} {k : IntKind} (hu : P.underlying t = some (.struct #[f])) (hs : P.stoodInHeld t = false) (hn : (f.name == "_") = false) (ho : f.offset = 0) (he : P.underlying f.type = some (.int k)) (a b : Int) :
    (Op.equal t (.agg #[.int k a]) (.agg #[.int k b])).run P w = .ok (a == b) w := by
  have hf : P.fieldsOf t = #[f] := by simp [Program.fieldsOf, hu]
  have hp : ∀ v, (part f.type #[v] f.offset).run P w = .ok v w := fun v => by
    rw [ho]; simp [part, isAgg, run_underlying he]
  show (Op.equalIn (9999 + 1) t (.agg #[.int k a]) (.agg #[.int k b])).run P w = _
  rw [run_equalIn_struct (P := P) w 9999 t _ _ (by rw [hf]; exact hu) hs, hf]
  have hn' : f.name ≠ "_" := by simpa using hn
  have hq := run_equalIn_int (P := P) (w := w) 9998 f.type k k a b he
  show (Op.eqFields 9999 #[.int k a] #[.int k b] [f]).run P w = _
  simp only [Op.eqFields, if_pos hn', Sem.run_bind, hp, hq, Result.andThen_ok]
  cases (a == b) <;> simp
theorem binC_ok [tI : Tst] {C : Ctx} (hC : RowsOK P C) {t : TypeId} {op : BinOp} {x y : V} {a b : Value} {g : Bool} {v : V} (h : binC C t op x y = some (g, v)) (hg : g = true)
    (hx : RepV E x a) (hy : RepV E y b) (ox oy : Operand) :
    ∃ u, (do eqGuard op t ox oy a b; binOp op t a b : Sem Value).run P w = .ok u w ∧ RepV E v u := by
  unfold binC at h
  split at h
  · rename_i e htd
    split at h
    · rename_i k p j q i hk hj hi
      have hrow := hC.row (t := t) (by rw [htd]; rfl)
      have heq := hrow.eq
      obtain ⟨gs, hu, hb⟩ := hC.struct htd
      obtain ⟨f, hf⟩ : ∃ f, gs.toList = [f] := by
        cases hgs : gs.toList with
        | nil => rw [hgs] at hb; simp [fieldsB] at hb
        | cons f l =>
          cases l with
          | nil => exact ⟨f, rfl⟩
          | cons f2 l => rw [hgs] at hb; simp [fieldsB] at hb
      obtain rfl : gs = #[f] := by cases gs; simp_all
      simp only [fieldsB, Bool.and_eq_true, beq_iff_eq, decide_eq_true_eq] at hb
      obtain ⟨⟨⟨⟨⟨ho, hft⟩, _⟩, _⟩, _⟩, _⟩ := hb
      unfold eqB at heq
      rw [htd] at heq
      simp only [hi, hu, Bool.and_eq_true, Bool.not_eq_true', List.all_cons, List.all_nil, Bool.and_true] at heq
      obtain ⟨⟨hs, hgd⟩, hn⟩ := heq
      have hei := (hC.int hi).1
      rw [← hft] at hei
      obtain rfl := one1_rep hk hx
      obtain rfl := one1_rep hj hy
      split at h
      · split at h
        · rename_i hkj
          obtain ⟨rfl, rfl⟩ := hkj
          simp only [Option.some.injEq, Prod.mk.injEq] at h
          obtain ⟨rfl, rfl⟩ := h
          refine ⟨.bool (p == q), ?_, ?_⟩
          · rw [Sem.run_bind, run_eqGuard_agg _ _ _ _ _ _ _ hgd]
            have hq := equal_one (P := P) (w := w) hu hs hn ho hei p q
            show (Sem.run P (binOp _ t (Value.agg #[Value.int _ p]) (Value.agg #[Value.int _ q])) w) = _
            simp [binOp, hq]
          · rw [tst_eq]; exact rep_bool _
        · simp at h
      · split at h
        · rename_i hkj
          obtain ⟨rfl, rfl⟩ := hkj
          simp only [Option.some.injEq, Prod.mk.injEq] at h
          obtain ⟨rfl, rfl⟩ := h
          refine ⟨.bool (!(p == q)), ?_, ?_⟩
          · rw [Sem.run_bind, run_eqGuard_agg _ _ _ _ _ _ _ hgd]
            have hq := equal_one (P := P) (w := w) hu hs hn ho hei p q
            show (Sem.run P (binOp _ t (Value.agg #[Value.int _ p]) (Value.agg #[Value.int _ q])) w) = _
            simp [binOp, hq]
          · rw [show (!(p == q)) = decide (p ≠ q) from by by_cases hpq : p = q <;> simp [hpq], ← tst_eq]; exact rep_bool _
        · simp at h
      · simp at h
    · simp at h
  · exact binV_ok hC h hg hx hy ox oy
theorem unV_ok [tI : Tst] {op : UnOp} {x v : V} {a : Value} (h : unV op x = some v) (hx : RepV E x a) : ∃ u, (Op.unary op a).run P w = .ok u w ∧ RepV E v u := by
  unfold unV at h
  split at h
  · obtain ⟨rfl, ha⟩ := rep_int_iff.1 hx
    simp only [Option.some.injEq] at h; subst h
    exact ⟨_, by simp [Op.unary, Op.intArith], rep_int (wrap_range _ _)⟩
  · obtain ⟨rfl, ha⟩ := rep_int_iff.1 hx
    simp only [Option.some.injEq] at h; subst h
    exact ⟨_, by simp only [Op.unary]; rfl, rep_int (wrap_range _ _)⟩
  · obtain rfl := rep_bool_iff.1 hx
    simp only [Option.some.injEq] at h; subst h
    exact ⟨_, by simp [Op.unary], rep_bool _⟩
  · simp at h
end
end Go.Proofs.Ytmpmmfbgdpfnpaa.Ev
/- One operation after the other, continued: conversions, lengths, fields, elements. -/
namespace Go.Proofs.Ytmpmmfbgdpfnpaa.Ev
open Go Go.RowKit
set_option linter.unusedVariables false
set_option linter.unusedSimpArgs false

section
variable {P : Program} {C : Ctx} {E : Env} {w : World}

/-- the cells of a slice's elements, one behind the other -/
theorem lies_cell {m : Mem} (hm : m.lies w) {b off : Nat} {us : List Value} (h : Lies m b off us) : ∀ j u, us[j]? = some u → w.cell? ((⟨b, off, none⟩ : Addr).add j) = some u := by
  intro j u hu
  rw [Addr.add_lit]
  exact hm _ _ _ (h j u hu)
theorem lies_cell' [tI : Tst] {m : Mem} (hm : m.lies w) {ad : Addr} {us : List Value} (hs : 0 < us.length → ad.spot = none) (h : Lies m ad.block ad.off us) : ∀ j u, us[j]? = some u → w.cell? (ad.add j) = some u := by
  intro j u hu
  have hj := (List.getElem?_eq_some_iff.1 hu).1
  obtain ⟨b, o, s⟩ := ad
  have hs := hs (by omega)
  simp only at hs
  subst hs
  exact lies_cell hm h j u hu
theorem elem_cells [tI : Tst] {m : Mem} {t : Ty} {xs : List t.den} {ad : Addr} (h : ∀ i (h : i < List.length xs), ∃ vs, Lies m ad.block (ad.off + i * t.size) vs ∧ RepL m t xs[i] vs) :
    ∀ n, n ≤ List.length xs → ∃ us : List Value, us.length = n * t.size ∧ Lies m ad.block ad.off us ∧ (∀ u ∈ us, u.oneCell' = true) ∧ ∀ i (hi : i < n) (hx : i < List.length xs), RepL m t xs[i] ((us.drop (i * t.size)).take t.size) := by
  intro n
  induction n with
  | zero => intro _; exact ⟨[], by simp, by intro i u hu; simp at hu, by simp, by intro i hi; omega⟩
  | succ n ih =>
    intro hn
    obtain ⟨us, h1, h2, h3, h4⟩ := ih (by omega)
    obtain ⟨vs, h5, h6⟩ := h n (by omega)
    have hl := RepL.len _ _ _ h6
    refine ⟨us ++ vs, by rw [List.length_append, h1, hl, Nat.add_mul, Nat.one_mul], ?_, ?_, ?_⟩
    · intro i u hu
      rw [List.getElem?_append] at hu
      split at hu
      · exact h2 i u hu
      · rename_i hi
        have := h5 _ u hu
        rw [show ad.off + n * t.size + (i - us.length) = ad.off + i from by omega] at this
        exact this
    · intro u hu
      rcases List.mem_append.1 hu with hu | hu
      · exact h3 u hu
      · exact RepL.one _ _ _ h6 u hu
    · intro i hi hx
      by_cases e : i = n
      · subst e
        rw [← h1, List.drop_left, List.take_of_length_le (by omega)]
        exact h6
      · have : i * t.size + t.size ≤ us.length := by rw [h1, ← Nat.succ_mul]; exact Nat.mul_le_mul_right _ (by omega)
        rw [List.drop_append_of_le_length (by omega), List.take_append_of_le_length (by rw [List.length_drop]; omega)]
        exact h4 i (by omega) hx

theorem strInts_push (l : List Int) (hl : ∀ x ∈ l, 0 ≤ x ∧ x ≤ 255) : ∀ s : ByteArray, strInts (l.foldl (fun r n => r.push (UInt8.ofNat n.toNat)) s) = strInts s ++ l ∧ (l.foldl (fun r n => r.push (UInt8.ofNat n.toNat)) s).size = s.size + l.length := by
  induction l with
  | nil => intro s; simp
  | cons x l ih =>
    intro s
    obtain ⟨h1, h2⟩ := ih (fun y hy => hl y (List.mem_cons_of_mem _ hy)) (s.push (UInt8.ofNat x.toNat))
    have hx := hl x (List.mem_cons_self ..)
    rw [List.foldl_cons, h1, h2]
    refine ⟨?_, by simp [ByteArray.size_push]; omega⟩
    have : strInts (s.push (UInt8.ofNat x.toNat)) = strInts s ++ [x] := by
      simp only [strInts, ByteArray.data_push, Array.toList_push, List.map_append, List.map_cons, List.map_nil]
      congr 2
      rw [UInt8.toNat_ofNat']
      omega
    rw [this, List.append_assoc]; rfl

theorem rep_bytes_cells [tI : Tst] {m : Mem} (hm : m.lies w) {l : List Int} {u : Value} (h : RepL m .by l [u]) :
    (∃ a c, u = .slice a l.length c ∧ (a = none → l = []) ∧ ∀ ad, a = some ad → (loadCells ad l.length).run P w = .ok (l.map (Value.int .u8)).toArray w) ∧ (∀ x ∈ l, 0 ≤ x ∧ x ≤ 255) ∧ l.length ≤ maxL := by
  obtain ⟨a, c, hu, h1, h2, h3, h4⟩ := h
  simp only [List.cons.injEq, and_true] at hu
  subst hu
  cases a with
  | none =>
    have hl : l = [] := List.eq_nil_of_length_eq_zero h4.1
    subst hl
    exact ⟨⟨none, c, rfl, fun _ => rfl, fun ad h => by simp at h⟩, by simp, h2⟩
  | some ad =>
    obtain ⟨h5, h6⟩ := h4
    have key : ∀ i (hi : i < l.length), m ad.block (ad.off + i) = some (.int .u8 l[i]) ∧ 0 ≤ l[i] ∧ l[i] ≤ 255 := by
      intro i hi
      obtain ⟨vs, h7, h8, h9⟩ := h6 i hi
      subst h8
      have := h7 0 _ rfl
      simp only [Ty.size, Nat.mul_one, Nat.add_zero] at this
      exact ⟨this, by simpa [IntKind.min, IntKind.max, IntKind.bits, IntKind.signed] using h9⟩
    refine ⟨⟨some ad, c, rfl, by simp, fun ad' e => ?_⟩, ?_, h2⟩
    · simp only [Option.some.injEq] at e
      subst e
      have := run_loadCells_list (P := P) w ad (l.map (Value.int .u8)) (lies_cell' hm (fun hl => h5 (by simp at hl; omega)) (by
        intro j v hv
        simp only [List.getElem?_map, Option.map_eq_some_iff] at hv
        obtain ⟨x, hx, rfl⟩ := hv
        obtain ⟨hj, rfl⟩ := List.getElem?_eq_some_iff.1 hx
        exact (key j hj).1))
      simpa using this
    · intro x hx
      obtain ⟨i, hi, rfl⟩ := List.getElem_of_mem hx
      exact (key i hi).2

theorem listRep [tI : Tst] {x : V} {u : Value} {t : Ty} {xs : List t.den} (h : listV x = some ⟨t, xs⟩) (r : RepV E x u) : RepL E.m (.li t) xs [u] := by
  cases x with
  | d s y =>
    cases s <;> simp [listV] at h
    obtain ⟨rfl, h⟩ := h
    simp only [heq_eq_eq] at h
    subst h
    exact rep_li_iff.1 r
  | own o s y =>
    simp [listV] at h
    obtain ⟨rfl, h⟩ := h
    simp only [heq_eq_eq] at h
    subst h
    simp only [RepV] at r
    exact repl_sub.2 r.1
  | _ => simp [listV] at h

theorem bytes_str [tI : Tst] (hC : RowsOK P C) (hm : E.m.lies w) {src dst e : TypeId} (hs : (C.row src).td = .slice e) (he : (C.row e).td = .int .u8) (hd : (C.row dst).td = .str) {l : List Int} {u : Value}
    (r : RepL E.m .by l [u]) : ∃ v, (convert src dst u).run P w = .ok v w ∧ RepV E (.d .st l) v := by
  obtain ⟨⟨a, c, rfl, h1, h2⟩, h3, h4⟩ := rep_bytes_cells (P := P) hm r
  rw [run_convert_bytes_string w src dst e a _ c (hC.slice hs).1 (hC.int he).1 (hC.str hd)]
  cases a with
  | none =>
    obtain rfl := h1 rfl
    exact ⟨.string .empty, by simp [Conv.bytesToString], rep_str_iff.2 ⟨_, rfl, rfl, by simp [maxL]⟩⟩
  | some ad =>
    refine ⟨_, run_bytesToString w ad _ c l (h2 ad rfl), rep_str_iff.2 ⟨_, rfl, ?_, ?_⟩⟩
    · rw [(strInts_push l h3 _).1]; rfl
    · rw [(strInts_push l h3 _).2]; simpa using h4

/-- a conversion that makes nothing -/
theorem conv_ok [tI : Tst] (hC : RowsOK P C) (hm : E.m.lies w) {src dst : TypeId} {x v : V} {u : Value} (h : convV C src dst x = some v) (hx : RepV E x u) (hno : ∀ e, (C.row dst).td ≠ .slice e) :
    ∃ z, (convert src dst u).run P w = .ok z w ∧ RepV E v z := by
  unfold convV at h
  split at h
  · rename_i k' k hs hd
    split at h
    · obtain ⟨rfl, hr⟩ := rep_int_iff.1 hx
      simp only [Option.some.injEq] at h; subst h
      exact ⟨_, by simp [convert, run_underlying (hC.int hs).1, run_underlying (hC.int hd).1, Conv.intToInt], rep_int (wrap_range _ _)⟩
    · simp at h
  · rename_i hs hd
    split at h
    · simp only [Option.some.injEq] at h; subst h
      obtain ⟨s, rfl, h2⟩ := rep_str_iff.1 hx
      exact ⟨_, by simp [convert, run_underlying (hC.str hs), run_underlying (hC.str hd)], hx⟩
    · simp at h
  · rename_i e hs hd
    split at h
    · rename_i he
      split at h
      · simp only [Option.some.injEq] at h; subst h
        simp only [RepV] at hx; subst hx
        exact bytes_str hC hm hs he hd ⟨none, 0, rfl, Nat.le_refl _, Nat.zero_le _, Nat.zero_le _, rfl, rfl⟩
      · simp only [Option.some.injEq] at h; subst h
        exact bytes_str hC hm hs he hd (rep_li_iff.1 hx)
      · simp only [Option.some.injEq] at h; subst h
        simp only [RepV] at hx
        exact bytes_str hC hm hs he hd (repl_sub.2 hx.1)
      · simp at h
    · simp at h
  · rename_i e hs hd
    exact absurd hd (hno e)
  · simp at h

theorem len_ok [tI : Tst] (hC : RowsOK P C) {t ty : TypeId} {x : V} {u : Value} {n : Int} (h : lenV (C.row t).td x = some n) (hx : RepV E x u) :
    ∃ z, (Builtin.len_ #[t] ty #[u]).run P w = .ok z w ∧ RepV E (.d (.it .i64) n) z := by
  have small : ∀ k : Nat, k ≤ maxL → RepV E (.d (.it .i64) (k : Int)) (goInt k) := by
    intro k hk
    refine rep_int ?_
    simp only [IntKind.min, IntKind.max, IntKind.bits, IntKind.signed, maxL] at hk ⊢
    simp
    omega
  unfold lenV at h
  split at h
  · rename_i ht
    split at h
    · simp only [Option.some.injEq] at h; subst h
      obtain ⟨s, rfl, rfl, h3⟩ := rep_str_iff.1 hx
      refine ⟨goInt s.size, by simp [Builtin.len_, run_underlying (hC.str ht)], ?_⟩
      have : (strInts s).length = s.size := by simp [strInts]
      rw [this]
      exact small _ h3
    · simp at h
  · rename_i e ht
    have hs := run_underlying (P := P) (hC.slice ht).1
    split at h
    · simp only [Option.some.injEq] at h; subst h
      obtain ⟨a, c, hu, h1, h2, _⟩ := rep_li_iff.1 hx
      simp only [List.cons.injEq, and_true] at hu; subst hu
      exact ⟨_, by simp [Builtin.len_, hs], small _ h2⟩
    · simp only [Option.some.injEq] at h; subst h
      simp only [RepV] at hx
      obtain ⟨a, c, hu, h1, h2, _⟩ := repl_sub.2 hx.1
      simp only [List.cons.injEq, and_true] at hu; subst hu
      exact ⟨_, by simp [Builtin.len_, hs], small _ h2⟩
    · simp only [Option.some.injEq] at h; subst h
      simp only [RepV] at hx; subst hx
      exact ⟨goInt 0, by simp [Builtin.len_, hs], small 0 (Nat.zero_le _)⟩
    · simp only [Option.some.injEq] at h; subst h
      simp only [RepV] at hx
      obtain ⟨_, _, _, h4, _, _, rfl, _⟩ := hx
      exact ⟨_, by simp [Builtin.len_, hs], small _ h4⟩
    · simp at h
  · rename_i m e ht
    split at h
    · rename_i hm
      simp only [Option.some.injEq] at h; subst h
      exact ⟨goInt m, by simp [Builtin.len_, run_underlying (hC.arr ht).1], small m (by simp only [maxL]; omega)⟩
    · simp at h
  · simp at h
end
end Go.Proofs.Ytmpmmfbgdpfnpaa.Ev
/- One operation after the other, continued: fields and elements, by address and by value. -/
namespace Go.Proofs.Ytmpmmfbgdpfnpaa.Ev
open Go Go.RowKit
set_option linter.unusedVariables false
set_option linter.unusedSimpArgs false

section
variable {P : Program} {C : Ctx} {E : Env} {w : World}

theorem fieldT_lies [tI : Tst] {m : Mem} : ∀ (f : Nat) (t : Ty) (x : t.den) (off a : Nat) (r : Ty) (y : r.den) (us : List Value), fieldT f t x off = some (a, ⟨r, y⟩) → RepL m t x us →
    off ≤ a ∧ a - off + r.size ≤ us.length ∧ RepL m r y ((us.drop (a - off)).take r.size) := by
  intro f
  induction f with
  | zero =>
    intro t x off a r y us h hr
    cases t <;> simp [fieldT] at h
    rename_i t s
    obtain ⟨rfl, rfl, h⟩ := h
    simp only [heq_eq_eq] at h
    subst h
    obtain ⟨u1, u2, rfl, h2, h3⟩ := hr
    have := RepL.len _ _ _ h2
    refine ⟨Nat.le_refl _, by rw [List.length_append]; omega, ?_⟩
    rw [Nat.sub_self, List.drop_zero, ← this, List.take_left]
    exact h2
  | succ f ih =>
    intro t x off a r y us h hr
    cases t <;> simp [fieldT] at h
    rename_i t s
    obtain ⟨u1, u2, rfl, h2, h3⟩ := hr
    have hl := RepL.len _ _ _ h2
    obtain ⟨h4, h5, h6⟩ := ih s x.2 (off + t.size) a r y u2 h h3
    refine ⟨by omega, by rw [List.length_append]; omega, ?_⟩
    rw [show a - off = u1.length + (a - (off + t.size)) from by omega, ← List.drop_drop, List.drop_left]
    exact h6
theorem lies_sub {m : Mem} {b off a n : Nat} {us : List Value} (h : Lies m b off us) : Lies m b (off + a) ((us.drop a).take n) := by
  intro i u hu
  rw [List.getElem?_take] at hu
  split at hu
  · rw [List.getElem?_drop] at hu
    have := h _ u hu
    rwa [← Nat.add_assoc] at this
  · simp at hu

theorem size_pos_info [tI : Tst] (hC : RowsOK P C) {e : TypeId} (hg : (C.row e).td.good = true) : (sizeOf e).run P w = .ok (C.row e).size w := by
  obtain ⟨i, z, h1, h2, _⟩ := (hC.row hg).info
  simp [sizeOf, typeInfo, h1, h2]

theorem fieldAddr_ok [tI : Tst] (hC : RowsOK P C) {t : TypeId} {x v : V} {u : Value} {f : Nat} {us : List (Nat × Ent)} {g : Bool} (h : fieldAddrV C t x f = some (g, v, us)) (hx : RepV E x u) :
    us = [] ∧ ∃ z, (Instr.fieldAt t u f).run P w = .ok z w ∧ RepV E v z := by
  unfold fieldAddrV at h
  split at h
  case h_2 => simp at h
  rename_i fs ht
  obtain ⟨gs, hu, hb⟩ := hC.struct ht
  split at h
  case h_2 => simp at h
  rename_i off e hf
  obtain ⟨fl, h1, h2, h3, h4, h5, h6⟩ := fieldsB_get hb hf
  have hgs : gs[f]? = some fl := by simpa using h1
  have hsz : (sizeOf fl.type).run P w = .ok (C.row e).size w := by rw [h3]; exact size_pos_info hC h4
  have run : ∀ b o, (Instr.fieldAt t (.pointer (some ⟨b, o, none⟩)) f).run P w = .ok (.pointer (some ⟨b, o + off, none⟩)) w := by
    intro b o
    simp [Instr.fieldAt, run_underlying hu, hgs, Instr.sureAddr, fieldPlace, hsz, show (C.row e).size ≠ 0 from by omega, h2, Addr.add_lit]
  split at h
  · simp only [val, Option.some.injEq, Prod.mk.injEq] at h
    obtain ⟨-, rfl, rfl⟩ := h
    simp only [RepV] at hx
    obtain ⟨hx, rfl⟩ := hx
    exact ⟨rfl, _, run _ _, by simp only [RepV]; exact ⟨hx, trivial⟩⟩
  · split at h
    · split at h
      · simp only [val, Option.some.injEq, Prod.mk.injEq] at h
        obtain ⟨-, rfl, rfl⟩ := h
        simp only [RepV] at hx
        obtain ⟨b, o, us, rfl, hr, hl⟩ := hx
        rename_i s x a r y hft ha
        subst ha
        obtain ⟨k1, k2, k3⟩ := fieldT_lies _ _ _ _ _ _ _ _ hft hr
        refine ⟨rfl, _, run _ _, ?_⟩
        simp only [RepV]
        exact ⟨b, o + a, _, rfl, k3, lies_sub hl⟩
      · simp at h
    · simp at h
  · simp at h

theorem toNat_lt {n : Int} {m : Nat} (h0 : 0 ≤ n) (h1 : n < (m : Int)) : n.toNat < m := by omega
theorem list_elem {m : Mem} {s : Ty} {xs : List s.den} {u : Value} (h : RepL m (.li s) xs [u]) {n : Int} (h0 : 0 ≤ n) (h1 : n < (List.length xs : Int)) :
    ∃ ad c vs, u = .slice (some ad) (List.length xs) c ∧ ad.spot = none ∧ RepL m s (List.getD xs n.toNat s.dflt) vs ∧ Lies m ad.block (ad.off + n.toNat * s.size) vs := by
  obtain ⟨a, c, hu, k1, k2, k3, k4⟩ := h
  simp only [List.cons.injEq, and_true] at hu
  subst hu
  have hn : n.toNat < List.length xs := by omega
  cases a with
  | none => omega
  | some ad =>
    obtain ⟨vs, h2, h3⟩ := k4.2 n.toNat hn
    refine ⟨ad, c, vs, rfl, k4.1 (by omega), ?_, h2⟩
    rw [List.getD_eq_getElem?_getD, List.getElem?_eq_getElem hn]
    exact h3
theorem indexAddr_ok [tI : Tst] (hC : RowsOK P C) {t : TypeId} {x i v : V} {u j : Value} {us : List (Nat × Ent)} {g : Bool} (h : indexAddrV C t x i = some (g, v, us)) (hg : g = true) (hx : RepV E x u) (hi : RepV E i j) :
    us = [] ∧ ∃ z, (Instr.indexAt t u j).run P w = .ok z w ∧ RepV E v z := by
  unfold indexAddrV at h
  split at h
  case h_2 => simp at h
  rename_i k n
  obtain ⟨rfl, hk⟩ := rep_int_iff.1 hi
  split at h
  · rename_i e ht
    obtain ⟨hu, -, -, he, hpos⟩ := hC.slice ht
    have hsz := size_pos_info (w := w) hC he
    have run : ∀ (ad : Addr) (l c : Nat), ad.spot = none → 0 ≤ n → n < (l : Int) → (Instr.indexAt t (.slice (some ad) l c) (.int k n)).run P w = .ok (.pointer (some ⟨ad.block, ad.off + n.toNat * (C.row e).size, none⟩)) w := by
      intro ad l c hs h0 h1
      obtain ⟨b, o, s⟩ := ad
      simp only at hs; subst hs
      simp [Instr.indexAt, asIntOf, run_underlying hu, h0, h1, hsz, Addr.add_lit]
    have list : ∀ (s : Ty) (xs : List s.den), RepL E.m (.li s) xs [u] → (C.row e).size = s.size → (tst (0 ≤ n) && tst (n < (List.length xs : Int))) = true →
        ∃ z, (Instr.indexAt t u (.int k n)).run P w = .ok z w ∧ RepV E (.ro s (List.getD xs n.toNat s.dflt)) z := by
      intro s xs hr hs hb
      simp only [Bool.and_eq_true, tst_iff] at hb
      obtain ⟨ad, c, vs, rfl, h2, h3, h4⟩ := list_elem hr hb.1 hb.2
      refine ⟨_, run ad _ c h2 hb.1 hb.2, ?_⟩
      simp only [RepV]
      exact ⟨_, _, vs, rfl, h3, by rw [hs]; exact h4⟩
    split at h
    · split at h
      · rename_i hs
        simp only [Option.some.injEq, Prod.mk.injEq] at h
        obtain ⟨rfl, rfl, rfl⟩ := h
        exact ⟨rfl, list _ _ (rep_li_iff.1 hx) hs hg⟩
      · simp at h
    · split at h
      · rename_i hs
        simp only [Option.some.injEq, Prod.mk.injEq] at h
        obtain ⟨rfl, rfl, rfl⟩ := h
        simp only [RepV] at hx
        exact ⟨rfl, list _ _ (repl_sub.2 hx.1) hs hg⟩
      · simp at h
    · split at h
      · rename_i hs
        simp only [Option.some.injEq, Prod.mk.injEq] at h
        obtain ⟨rfl, rfl, rfl⟩ := h
        simp only [RepV] at hx
        obtain ⟨h1, h2, h3, h4, ad, cp, rfl, h5, h6, h7, h8⟩ := hx
        simp only [Bool.and_eq_true, tst_iff] at hg
        have hlt := toNat_lt hg.1 hg.2
        obtain ⟨p, rfl, hp⟩ := h7 (by omega)
        refine ⟨rfl, _, run _ _ _ hp hg.1 hg.2, ?_⟩
        simp only [RepV]
        refine ⟨h1, h2, h3, _, rfl, fun e => ?_⟩
        have hw := h8 e
        unfold Win at hw
        split at hw <;> rename_i hq
        · obtain ⟨ad0, w1, w2, w3, w4⟩ := hw
          simp only [Option.some.injEq] at w1
          subst w1
          have w5 := w2 (by omega)
          subst w5
          exact ⟨_, _, _, hq, by rw [hs, Nat.add_mul, Nat.add_assoc]⟩
        · obtain ⟨w1, w2, w3, w4⟩ := hw; omega
        · exact hw.elim
      · simp at h
    · simp at h
  · rename_i m e ht
    obtain ⟨hu, -, -, he, hpos⟩ := hC.arr ht
    have hsz := size_pos_info (w := w) hC he
    have run : ∀ (b o : Nat), 0 ≤ n → n < (m : Int) → (Instr.indexAt t (.pointer (some ⟨b, o, none⟩)) (.int k n)).run P w = .ok (.pointer (some ⟨b, o + n.toNat * (C.row e).size, none⟩)) w := by
      intro b o h0 h1
      simp [Instr.indexAt, asIntOf, run_underlying hu, Instr.sureAddr, h0, h1, hsz, Addr.add_lit]
    split at h
    · simp only [Option.some.injEq, Prod.mk.injEq] at h
      obtain ⟨rfl, rfl, rfl⟩ := h
      simp only [RepV] at hx
      obtain ⟨h1, rfl⟩ := hx
      simp only [Bool.and_eq_true, tst_iff] at hg
      refine ⟨rfl, _, run _ _ hg.1 hg.2, ?_⟩
      simp only [RepV]
      exact ⟨h1, trivial⟩
    · rename_i kk s xs
      split at h
      · rename_i hs
        obtain ⟨rfl, hs⟩ := hs
        simp only [Option.some.injEq, Prod.mk.injEq] at h
        obtain ⟨rfl, rfl, rfl⟩ := h
        simp only [RepV] at hx
        obtain ⟨b, o, vs, rfl, hr, hl⟩ := hx
        simp only [Bool.and_eq_true, tst_iff] at hg
        obtain ⟨hr1, hr2, hr3⟩ := hr
        refine ⟨rfl, _, run _ _ hg.1 hg.2, ?_⟩
        simp only [RepV]
        have hn : Int.toNat n < List.length xs := by rw [hr1]; exact toNat_lt hg.1 hg.2
        refine ⟨b, _, (vs.drop (Int.toNat n * s.size)).take s.size, rfl, ?_, by rw [hs]; exact lies_sub hl⟩
        rw [List.getD_eq_getElem?_getD, List.getElem?_eq_getElem hn]
        exact hr3 _ hn
      · simp at h
    · simp at h
  · simp at h

theorem isAgg_run [tI : Tst] (hC : RowsOK P C) {e : TypeId} (hg : (C.row e).td.good = true) : (isAgg e).run P w = .ok (C.row e).isAgg w := by
  obtain ⟨d, hd, hb⟩ := (hC.row hg).desc
  unfold descB at hb
  unfold isAgg TRow.isAgg
  split at hb <;> simp_all [run_underlying]
theorem part_agg [tI : Tst] (hC : RowsOK P C) {e : TypeId} (hg : (C.row e).td.good = true) (ha : (C.row e).isAgg = true) (cs : List Value) (off : Nat) :
    (part e cs.toArray off).run P w = .ok (.agg ((cs.drop off).take (C.row e).size).toArray) w := by
  simp [part, isAgg_run hC hg, ha, size_pos_info hC hg, List.extract_toArray, List.extract_eq_take_drop]
theorem part_one [tI : Tst] (hC : RowsOK P C) {e : TypeId} (hg : (C.row e).td.good = true) (ha : (C.row e).isAgg = false) {cs : List Value} {off : Nat} {u : Value} (h : cs[off]? = some u) :
    (part e cs.toArray off).run P w = .ok u w := by
  simp [part, isAgg_run hC hg, ha, h]
/-- a part of data -/
theorem part_data [tI : Tst] (hC : RowsOK P C) {e : TypeId} (hg : (C.row e).td.good = true) {r : Ty} {y : r.den} (ha : r.agg = (C.row e).isAgg) (hs : r.size = (C.row e).size) {cs : List Value} {off : Nat}
    (h : RepL E.m r y ((cs.drop off).take r.size)) (hl : off + r.size ≤ cs.length) : ∃ z, (part e cs.toArray off).run P w = .ok z w ∧ RepV E (.d r y) z := by
  cases hr : r.agg with
  | true =>
    refine ⟨_, part_agg hC hg (by rw [← ha, hr]) cs off, ?_⟩
    simp only [RepV]
    exact ⟨_, h, by rw [hr, ← hs]; rfl⟩
  | false =>
    have h1 := size_one hr
    rw [h1] at h hl
    have hlt : off < cs.length := by omega
    have he : (cs.drop off).take 1 = [cs[off]] := by rw [List.drop_eq_getElem_cons hlt, List.take_succ_cons, List.take_zero]
    refine ⟨_, part_one hC hg (by rw [← ha, hr]) (List.getElem?_eq_getElem hlt), ?_⟩
    simp only [RepV]
    exact ⟨_, h, by rw [hr, he]; rfl⟩
/-- a part of cells -/
theorem part_cells [tI : Tst] (hC : RowsOK P C) {e : TypeId} (hg : (C.row e).td.good = true) {vs : List V} {cs : List Value} {off : Nat} (h : RepVs E vs cs) (h1 : ∀ u ∈ cs, u.oneCell' = true) (hpos : 0 < (C.row e).size) (hl : off + (C.row e).size ≤ vs.length) :
    ∃ z, (part e cs.toArray off).run P w = .ok z w ∧ RepV E (if (C.row e).isAgg then .agg ((vs.drop off).take (C.row e).size) else look vs off) z := by
  have hlen := h.length
  cases ha : (C.row e).isAgg with
  | true =>
    refine ⟨_, part_agg hC hg ha cs off, ?_⟩
    simp only [if_true, RepV]
    exact ⟨_, rfl, RepVs.take _ (RepVs.drop _ h), fun u hu => h1 u (List.mem_of_mem_drop (List.mem_of_mem_take hu))⟩
  | false =>
    have hlt : off < cs.length := by omega
    exact ⟨_, part_one hC hg ha (List.getElem?_eq_getElem hlt), RepVs.get off h (List.getElem?_eq_getElem hlt)⟩

theorem field_ok [tI : Tst] (hC : RowsOK P C) {t : TypeId} {x v : V} {u : Value} {f : Nat} {us : List (Nat × Ent)} {g : Bool} (h : fieldV C t x f = some (g, v, us)) (hx : RepV E x u) :
    us = [] ∧ ∃ z, (Instr.field t u f).run P w = .ok z w ∧ RepV E v z := by
  unfold fieldV at h
  split at h
  case h_2 => simp at h
  rename_i fs ht
  obtain ⟨gs, hu, hb⟩ := hC.struct ht
  split at h
  case h_2 => simp at h
  rename_i off e hf
  obtain ⟨fl, h1, h2, h3, h4, h5, h6⟩ := fieldsB_get hb hf
  have hgs : gs[f]? = some fl := by simpa using h1
  have run : ∀ cs : List Value, ∀ z, (part e cs.toArray off).run P w = .ok z w → (Instr.field t (.agg cs.toArray) f).run P w = .ok z w := by
    intro cs z hz
    simp [Instr.field, run_underlying hu, hgs, asAgg, h2, h3, hz]
  split at h
  · split at h
    · rename_i hl
      simp only [RepV] at hx
      obtain ⟨cs, rfl, hr, h1⟩ := hx
      obtain ⟨z, hz, hv⟩ := part_cells (w := w) hC h4 hr h1 h5 hl
      split at h
      · rename_i ha
        simp only [val, Option.some.injEq, Prod.mk.injEq] at h
        obtain ⟨-, rfl, rfl⟩ := h
        rw [if_pos ha] at hv
        exact ⟨rfl, z, run _ _ hz, hv⟩
      · rename_i ha
        simp only [val, Option.some.injEq, Prod.mk.injEq] at h
        obtain ⟨-, rfl, rfl⟩ := h
        rw [if_neg ha] at hv
        exact ⟨rfl, z, run _ _ hz, hv⟩
    · simp at h
  · rename_i s x
    split at h
    · rename_i a r y hft
      split at h
      · rename_i hc
        obtain ⟨rfl, hc1, hc2⟩ := hc
        simp only [val, Option.some.injEq, Prod.mk.injEq] at h
        obtain ⟨-, rfl, rfl⟩ := h
        simp only [RepV] at hx
        obtain ⟨cs, hr, rfl⟩ := hx
        obtain ⟨k1, k2, k3⟩ := fieldT_lies _ _ _ _ _ _ _ _ hft hr
        have hs : s.agg = true := by cases f <;> cases s <;> simp [fieldT] at hft <;> rfl
        obtain ⟨z, hz, hv⟩ := part_data (E := E) (w := w) hC h4 hc1 hc2 (cs := cs) (off := a) (by simpa using k3) (by simpa using k2)
        exact ⟨rfl, z, by rw [hs]; exact run _ _ hz, hv⟩
      · simp at h
    · simp at h
  · simp at h
theorem index_ok [tI : Tst] (hC : RowsOK P C) {t : TypeId} {x i v : V} {u j : Value} {us : List (Nat × Ent)} {g : Bool} (h : indexV C t x i = some (g, v, us)) (hg : g = true) (hx : RepV E x u) (hi : RepV E i j) :
    us = [] ∧ ∃ z, (Instr.index t u j).run P w = .ok z w ∧ RepV E v z := by
  unfold indexV at h
  split at h
  case h_2 => simp at h
  rename_i k n
  obtain ⟨rfl, hk⟩ := rep_int_iff.1 hi
  split at h
  · rename_i ht
    split at h
    · simp only [Option.some.injEq, Prod.mk.injEq] at h
      obtain ⟨rfl, rfl, rfl⟩ := h
      simp only [Bool.and_eq_true, tst_iff] at hg
      obtain ⟨s, rfl, rfl, hs⟩ := rep_str_iff.1 hx
      have hlen : (strInts s).length = s.size := by simp [strInts]
      have hn : Int.toNat n < s.size := by rw [← hlen]; exact toNat_lt hg.1 hg.2
      have hget : (strInts s).getD n.toNat 0 = (s[n.toNat].toNat : Int) := by
        rw [List.getD_eq_getElem?_getD, List.getElem?_eq_getElem (by omega)]
        simp only [strInts, List.getElem_map, Option.getD_some]
        rfl
      refine ⟨rfl, .int .u8 (s[n.toNat].toNat : Int), ?_, ?_⟩
      · have : s[n.toNat]? = some s[n.toNat] := by simp [hn]
        simp [Instr.index, asIntOf, run_underlying (hC.str ht), hg.1, this]
      · rw [hget]
        refine rep_int ?_
        have := s[n.toNat].toNat_lt
        simp [IntKind.min, IntKind.max, IntKind.bits, IntKind.signed]
        omega
    · simp at h
  · rename_i m e ht
    obtain ⟨hu, -, hsz, he, hpos⟩ := hC.arr ht
    have hes := size_pos_info (w := w) hC he
    have run : ∀ cs : List Value, ∀ z, 0 ≤ n → n < (m : Int) → (part e cs.toArray (n.toNat * (C.row e).size)).run P w = .ok z w → (Instr.index t (.agg cs.toArray) (.int k n)).run P w = .ok z w := by
      intro cs z h0 h1 hz
      simp [Instr.index, asIntOf, run_underlying hu, h0, h1, hes, hz]
    split at h
    · rename_i kk s xs
      split at h
      · rename_i hc
        obtain ⟨rfl, hc1, hc2⟩ := hc
        simp only [Option.some.injEq, Prod.mk.injEq] at h
        obtain ⟨rfl, rfl, rfl⟩ := h
        simp only [Bool.and_eq_true, tst_iff] at hg
        simp only [RepV] at hx
        obtain ⟨cs, ⟨hr1, hr2, hr3⟩, rfl⟩ := hx
        have hn : Int.toNat n < List.length xs := by rw [hr1]; exact toNat_lt hg.1 hg.2
        have hle : n.toNat * s.size + s.size ≤ cs.length := by
          rw [hr2, ← Nat.succ_mul]; exact Nat.mul_le_mul_right _ (toNat_lt hg.1 hg.2)
        obtain ⟨z, hz, hv⟩ := part_data (E := E) (w := w) hC he hc2.symm hc1.symm (cs := cs) (off := n.toNat * s.size) (hr3 _ hn) hle
        refine ⟨rfl, z, run _ _ hg.1 hg.2 (by rw [hc1]; exact hz), ?_⟩
        rw [List.getD_eq_getElem?_getD, List.getElem?_eq_getElem hn]
        exact hv
      · simp at h
    · split at h
      · rename_i hl
        simp only [RepV] at hx
        obtain ⟨cs, rfl, hr, h1⟩ := hx
        split at h
        · rename_i ha
          simp only [Option.some.injEq, Prod.mk.injEq] at h
          obtain ⟨rfl, rfl, rfl⟩ := h
          simp only [Bool.and_eq_true, tst_iff] at hg
          have hle : n.toNat * (C.row e).size + (C.row e).size ≤ m * (C.row e).size := by rw [← Nat.succ_mul]; exact Nat.mul_le_mul_right _ (toNat_lt hg.1 hg.2)
          obtain ⟨z, hz, hv⟩ := part_cells (w := w) hC he hr h1 hpos (off := n.toNat * (C.row e).size) (by rw [hl]; exact hle)
          rw [if_pos ha] at hv
          exact ⟨rfl, z, run _ _ hg.1 hg.2 hz, hv⟩
        · rename_i ha
          simp only [Option.some.injEq, Prod.mk.injEq] at h
          obtain ⟨rfl, rfl, rfl⟩ := h
          simp only [Bool.and_eq_true, tst_iff] at hg
          have hle : n.toNat * (C.row e).size + (C.row e).size ≤ m * (C.row e).size := by rw [← Nat.succ_mul]; exact Nat.mul_le_mul_right _ (toNat_lt hg.1 hg.2)
          obtain ⟨z, hz, hv⟩ := part_cells (w := w) hC he hr h1 hpos (off := n.toNat * (C.row e).size) (by rw [hl]; exact hle)
          rw [if_neg ha] at hv
          exact ⟨rfl, z, run _ _ hg.1 hg.2 hz, hv⟩
      · simp at h
    · simp at h
  · simp at h
end
end Go.Proofs.Ytmpmmfbgdpfnpaa.Ev
/- One operation after the other, continued: memory that is read, written, made. -/
namespace Go.Proofs.Ytmpmmfbgdpfnpaa.Ev
open Go Go.RowKit
set_option linter.unusedVariables false
set_option linter.unusedSimpArgs false

/-- a thing more -/
def Env.add (E : Env) (id blk sz : Nat) (plc : Value) (len : Nat) (ex : Option Nat) : Env where
  m := E.m
  blk o := if o = id then blk else E.blk o
  sz o := if o = id then sz else E.sz o
  plc o := if o = id then plc else E.plc o
  len o := if o = id then len else E.len o
  ex o := if o = id then ex else E.ex o
  live o := o = id ∨ E.live o
  m0 := E.m0
  lent := E.lent
  rm := E.rm
theorem Env.le_add [tI : Tst] {E : Env} {id : Nat} (h : ¬ E.live id) (blk sz : Nat) (plc : Value) (len : Nat) (ex : Option Nat) : E.Le (E.add id blk sz plc len ex) where
  m := Mem.le.refl _
  live o l := .inr l
  blk o l := if_neg (h := instDecidableEqNat o id) (by rintro rfl; exact h l)
  sz o l := if_neg (h := instDecidableEqNat o id) (by rintro rfl; exact h l)
  len o l := Nat.le_of_eq (if_neg (h := instDecidableEqNat o id) (by rintro rfl; exact h l)).symm
  plc o l _ := if_neg (h := instDecidableEqNat o id) (by rintro rfl; exact h l)
  m0 := rfl
  lent := rfl
  rm := rfl
def Env.setM (E : Env) (m : Mem) : Env := { E with m := m }
theorem Env.le_setM {E : Env} {m : Mem} (h : E.m.le m) : E.Le (E.setM m) := ⟨h, fun _ l => l, fun _ _ => rfl, fun _ _ => rfl, fun _ _ => Nat.le_refl _, fun _ _ _ => rfl, rfl, rfl, rfl⟩
/-- a family's frontier moves on -/
def Env.move (E : Env) (o : Nat) (plc : Value) (len : Nat) (ex : Option Nat) : Env :=
  { E with plc := fun i => if i = o then plc else E.plc i, len := fun i => if i = o then len else E.len i, ex := fun i => if i = o then ex else E.ex i }
theorem Env.le_move [tI : Tst] {E : Env} {o len : Nat} {plc : Value} {ex : Option Nat} (h : E.len o ≤ len) (hp : len = E.len o → plc = E.plc o) : E.Le (E.move o plc len ex) where
  m := Mem.le.refl _
  live _ l := l
  blk _ _ := rfl
  sz _ _ := rfl
  len i _ := by
    simp only [Env.move]; split
    · rename_i e; subst e; exact h
    · exact Nat.le_refl _
  plc i _ e := by
    simp only [Env.move] at e ⊢; split
    · rename_i k; subst k; rw [if_pos rfl] at e; exact hp e
    · rfl
  m0 := rfl
  lent := rfl
  rm := rfl

theorem lies_none {m : Mem} {w : World} (h : m.lies w) {b : Nat} (hb : w.heap.size ≤ b) (o : Nat) : m b o = none := by
  cases hm : m b o with
  | none => rfl
  | some v =>
    have := World.block_lt_of_cell? w _ (h b o v hm)
    simp only at this
    omega
theorem belowX_setRow {X : Nat → Prop} {B : Nat} (w : World) {k : Nat} (hk : B ≤ k ∨ X k) (a : Array Value) : BelowX X B w (w.setRow k a) where
  os := rfl
  tape := rfl
  output := rfl
  size := by simp [World.setRow]
  block i hi hx := setRow_other w k i a (by rintro rfl; exact hk.elim (fun h => by omega) hx)
theorem owns_lt {base : Nat} {w0 : World} {E : Env} {S : List Ent} {w : World} (sim : Sim base w0 E S w) {o B : Nat} (h : owns E o (ent S o) = some B) : (base ≤ B ∨ E.lent B) ∧ B < w.heap.size := by
  have he := sim.ents o
  have lt : ∀ {x : Obj}, w.heap[B]? = some x → B < w.heap.size := fun h => (Array.getElem?_eq_some_iff.1 h).1
  cases hx : ent S o with
  | gone => rw [hx] at h; simp [owns] at h
  | obj cs =>
    rw [hx] at h he
    simp only [owns, Option.some.injEq] at h; subst h
    obtain ⟨_, h2, us, t, h3, _⟩ := he
    exact ⟨h2, lt h3⟩
  | row k t xs =>
    rw [hx] at h he
    simp only [owns] at h
    obtain ⟨_, _, _, h3⟩ := he
    unfold RowAt at h3
    rw [h] at h3
    obtain ⟨cap, l, cur, e, _, h4, h5, _⟩ := h3
    exact ⟨.inl h4, lt h5⟩
  | frz k t xs => rw [hx] at h; simp [owns] at h
  | rdo k t xs => rw [hx] at h; simp [owns] at h
  | keys k ks =>
    rw [hx] at h he
    simp only [owns, Option.some.injEq] at h; subst h
    obtain ⟨_, h2, es, c, h3, _⟩ := he
    exact ⟨.inl h2, lt h3⟩
  | fam n =>
    rw [hx] at h he
    simp only [owns] at h
    obtain ⟨_, _, h3⟩ := he
    unfold FamOK at h3
    rw [h] at h3
    obtain ⟨cap, cur, e, _, h4, h5, _⟩ := h3
    exact ⟨.inl h4, lt h5⟩
  | lit n =>
    rw [hx] at h he
    simp only [owns] at h
    obtain ⟨⟨_, _, h3⟩, _⟩ := he
    unfold FamOK at h3
    rw [h] at h3
    obtain ⟨cap, cur, e, _, h4, h5, _⟩ := h3
    exact ⟨.inl h4, lt h5⟩

section
variable {P : Program} {C : Ctx} {E : Env} {w : World}

theorem flatV_rep [tI : Tst] {v : V} {u : Value} {vs : List V} (h : flatV v = some vs) (r : RepV E v u) : ∃ zs : List Value, u.cells = zs.toArray ∧ RepVs E vs zs ∧ ∀ z ∈ zs, z.oneCell' = true := by
  have one : ∀ (v : V) (u : Value), RepV E v u → u.oneCell' = true → ∃ zs : List Value, u.cells = zs.toArray ∧ RepVs E [v] zs ∧ ∀ z ∈ zs, z.oneCell' = true := by
    intro v u r h1
    refine ⟨[u], ?_, by simp only [RepVs, and_true]; exact r, by simpa using h1⟩
    cases u <;> simp_all [Value.cells, Value.oneCell']
  cases v with
  | bad => simp [flatV] at h
  | un => simp [flatV] at h
  | tup vs => simp [flatV] at h
  | agg cs =>
    simp only [flatV, Option.some.injEq] at h; subst h
    simp only [RepV] at r
    obtain ⟨us, rfl, h2, h3⟩ := r
    exact ⟨us, rfl, h2, h3⟩
  | d t x =>
    simp only [flatV, Option.some.injEq] at h; subst h
    simp only [RepV] at r
    obtain ⟨us, h1, h2, h3⟩ := r.cells
    exact ⟨us, h3, flatT_rep _ _ _ h1, RepL.one _ _ _ h1⟩
  | nils => simp only [flatV, Option.some.injEq] at h; subst h; exact one _ _ r (by simp only [RepV] at r; subst r; rfl)
  | own o t xs =>
    simp only [flatV, Option.some.injEq] at h; subst h
    refine one _ _ r ?_
    simp only [RepV] at r
    obtain ⟨a, c, hu, _⟩ := repl_sub.2 r.1
    simp only [List.cons.injEq, and_true] at hu
    subst hu; rfl
  | p o a => simp only [flatV, Option.some.injEq] at h; subst h; exact one _ _ r (by simp only [RepV] at r; obtain ⟨_, rfl⟩ := r; rfl)
  | ro t x => simp only [flatV, Option.some.injEq] at h; subst h; exact one _ _ r (by simp only [RepV] at r; obtain ⟨b, off, us, rfl, _⟩ := r; rfl)
  | sr o k a n s c => simp only [flatV, Option.some.injEq] at h; subst h; exact one _ _ r (by simp only [RepV] at r; obtain ⟨_, _, _, _, ad, cp, rfl, _⟩ := r; rfl)
  | pr o k i s => simp only [flatV, Option.some.injEq] at h; subst h; exact one _ _ r (by simp only [RepV] at r; obtain ⟨_, _, _, ad, rfl, _⟩ := r; rfl)
  | fn f fs cs => simp only [flatV, Option.some.injEq] at h; subst h; exact one _ _ r (by simp only [RepV] at r; obtain ⟨zs, us, rfl, _⟩ := r; rfl)
  | nn t xs => simp only [flatV, Option.some.injEq] at h; subst h; exact one _ _ r (by simp only [RepV] at r; obtain ⟨_, _, _, _, rfl⟩ := r; rfl)
  | ifc t x => simp only [flatV, Option.some.injEq] at h; subst h; exact one _ _ r (by simp only [RepV] at r; obtain ⟨us, rfl, _⟩ := r; rfl)
  | mp o => simp only [flatV, Option.some.injEq] at h; subst h; exact one _ _ r (by simp only [RepV] at r; obtain ⟨_, rfl⟩ := r; rfl)

theorem loadVar_at [tI : Tst] (hC : RowsOK P C) {t : TypeId} (hg : (C.row t).td.good = true) {b off : Nat} {us : List Value} (hl : us.length = (C.row t).size) (h1 : (C.row t).isAgg = false → us.length = 1)
    (hc : ∀ i u, us[i]? = some u → w.cell? ⟨b, off + i, none⟩ = some u) : (loadVar t ⟨b, off, none⟩).run P w = .ok (toV (C.row t).isAgg us) w := by
  cases ha : (C.row t).isAgg with
  | true =>
    have := run_loadCells_list (P := P) w ⟨b, off, none⟩ us (by intro j v hv; rw [Addr.add_lit]; exact hc j v hv)
    simp [loadVar, isAgg_run hC hg, ha, size_pos_info hC hg, ← hl, this, toV]
  | false =>
    obtain ⟨u, rfl⟩ := List.length_eq_one_iff.1 (h1 ha)
    have := hc 0 u (by simp)
    simp only [Nat.add_zero] at this
    simp [loadVar, isAgg_run hC hg, ha, this, toV]
theorem row_one [tI : Tst] (hC : RowsOK P C) {t : TypeId} (hg : (C.row t).td.good = true) (ha : (C.row t).isAgg = false) : (C.row t).size = 1 := by
  have h := hC.row hg
  rw [← h.size]; exact size_one (by rw [h.agg, ha])
theorem cell_row {g : Nat} {us : List Value} {e : TypeId} {fr : Nat × Nat} (h : w.heap[g]? = some (.cells us.toArray e fr)) (j : Nat) : w.cell? ⟨g, j, none⟩ = us[j]? := by
  simp [World.cell?, h]

/-- of a row that may be read: where its elements lie -/
theorem row_reads [tI : Tst] {base : Nat} {w0 : World} {S : List Ent} (sim : Sim base w0 E S w) {o j : Nat} {s : Ty} {xs : List s.den} (h : rowOf (ent S o) = some (j, ⟨s, xs⟩)) :
    E.live o ∧ j = E.len o ∧ E.sz o = s.size ∧ ∀ p l c, E.plc o = .slice (some p) l c → ∀ i (hi : i < List.length xs), ∃ zs : List Value, (∀ k z, zs[k]? = some z → w.cell? ⟨p.block, p.off + i * s.size + k, none⟩ = some z) ∧ RepL E.m s xs[i] zs := by
  have he := sim.ents o
  cases hx : ent S o with
  | row k t ys =>
    rw [hx] at h he
    simp only [rowOf, Option.some.injEq, Prod.mk.injEq, Sigma.mk.injEq] at h
    obtain ⟨rfl, rfl, h⟩ := h
    obtain rfl := eq_of_heq h
    obtain ⟨h1, h2, h3, h4⟩ := he
    refine ⟨h1, h2, h3, ?_⟩
    intro p l c hp i hi
    unfold RowAt at h4
    cases hex : E.ex o with
    | none => rw [hex] at h4; obtain ⟨rfl, -⟩ := h4; simp at hi
    | some g =>
      rw [hex] at h4
      obtain ⟨cap, l', cur, e, k1, k2, k3, k4, k5, k6, k7, k8⟩ := h4
      rw [hp] at k1
      simp only [Value.slice.injEq, Option.some.injEq] at k1
      obtain ⟨rfl, -, -⟩ := k1
      refine ⟨_, ?_, k7 i hi⟩
      intro k z hz
      rw [List.getElem?_take] at hz
      split at hz
      · rw [List.getElem?_drop] at hz
        simp only [World.cell?, k3, Option.isSome_none, Bool.false_eq_true, if_false]
        rw [← Array.getElem?_toList, Nat.zero_add]; exact hz
      · simp at hz
  | frz k t ys =>
    rw [hx] at h he
    simp only [rowOf, Option.some.injEq, Prod.mk.injEq, Sigma.mk.injEq] at h
    obtain ⟨rfl, rfl, h⟩ := h
    obtain rfl := eq_of_heq h
    obtain ⟨h1, h2, h3, h4⟩ := he
    refine ⟨h1, h2, h3, ?_⟩
    intro p l c hp i hi
    unfold ReadAt at h4
    rw [hp] at h4
    obtain ⟨vs, v1, v2⟩ := h4.2.2 i hi
    exact ⟨vs, fun k z hz => sim.mem _ _ _ (v1 k z hz), v2⟩
  | rdo k t ys =>
    rw [hx] at h he
    simp only [rowOf, Option.some.injEq, Prod.mk.injEq, Sigma.mk.injEq] at h
    obtain ⟨rfl, rfl, h⟩ := h
    obtain rfl := eq_of_heq h
    obtain ⟨h1, h2, h3, hf, h4⟩ := he
    refine ⟨h1, h2, h3, ?_⟩
    intro p l c hp i hi
    unfold ReadAt at h4
    rw [hp] at h4
    obtain ⟨vs, v1, v2⟩ := h4.2.2 i hi
    exact ⟨vs, fun k z hz => (sim.rmem _ _ _ (v1 k z hz)).2.2, v2⟩
  | gone => rw [hx] at h; simp [rowOf] at h
  | keys k ks => rw [hx] at h; simp [rowOf] at h
  | obj cs => rw [hx] at h; simp [rowOf] at h
  | fam n => rw [hx] at h; simp [rowOf] at h
  | lit n => rw [hx] at h; simp [rowOf] at h

theorem load_ok [tI : Tst] {base : Nat} {w0 : World} {S : List Ent} (hC : RowsOK P C) (sim : Sim base w0 E S w) {t : TypeId} {a v : V} {u : Value} {us : List (Nat × Ent)} {g : Bool} (h : loadV C S t a = some (g, v, us)) (hg : g = true) (ha : RepV E a u) :
    us = [] ∧ ∃ z, (Instr.loadAt t u).run P w = .ok z w ∧ RepV E v z := by
  unfold loadV at h
  split at h
  · simp at h
  rename_i hgood
  have hgood : (C.row t).td.good = true := by simpa using hgood
  have hrow := hC.row hgood
  split at h
  · rename_i o off
    split at h
    · rename_i cs hent
      have he := sim.ents o
      rw [hent] at he
      obtain ⟨e1, e2, zs, ty, e3, e4, e5, e6⟩ := he
      have hlen := e4.length
      simp only [RepV] at ha
      obtain ⟨-, rfl⟩ := ha
      split at h
      · rename_i hle
        have hcell : ∀ i z, ((zs.drop off).take (C.row t).size)[i]? = some z → w.cell? ⟨E.blk o, off + i, none⟩ = some z := by
          intro i z hz
          rw [List.getElem?_take] at hz
          split at hz
          · rw [List.getElem?_drop] at hz; rw [cell_row e3]; exact hz
          · simp at hz
        have hl : ((zs.drop off).take (C.row t).size).length = (C.row t).size := by rw [List.length_take, List.length_drop]; omega
        have run := loadVar_at (P := P) (w := w) hC hgood hl (fun k => by rw [hl]; exact row_one hC hgood k) hcell
        split at h
        · rename_i hagg
          simp only [val, Option.some.injEq, Prod.mk.injEq] at h
          obtain ⟨-, rfl, rfl⟩ := h
          refine ⟨rfl, _, by simpa [Instr.loadAt, Instr.sureAddr] using run, ?_⟩
          rw [hagg]
          simp only [RepV, toV]
          exact ⟨_, rfl, RepVs.take _ (RepVs.drop _ e4), fun z hz => e5 z (List.mem_of_mem_drop (List.mem_of_mem_take hz))⟩
        · rename_i hagg
          have hagg : (C.row t).isAgg = false := by simpa using hagg
          split at h
          · rename_i hs
            simp only [val, Option.some.injEq, Prod.mk.injEq] at h
            obtain ⟨-, rfl, rfl⟩ := h
            refine ⟨rfl, _, by simpa [Instr.loadAt, Instr.sureAddr] using run, ?_⟩
            have hlt : off < zs.length := by omega
            rw [hagg, hs, List.drop_eq_getElem_cons hlt, List.take_succ_cons]
            exact RepVs.get off e4 (List.getElem?_eq_getElem hlt)
          · simp at h
      · simp at h
    · simp at h
  · rename_i s x
    split at h
    · rename_i hc
      simp only [val, Option.some.injEq, Prod.mk.injEq] at h
      obtain ⟨-, rfl, rfl⟩ := h
      simp only [RepV] at ha
      obtain ⟨b, off, zs, rfl, h1, h2⟩ := ha
      have hl : zs.length = (C.row t).size := by rw [← hc.2]; exact RepL.len _ _ _ h1
      have run := loadVar_at (P := P) (w := w) hC hgood hl (fun k => by rw [hl]; exact row_one hC hgood k) (fun i z hz => sim.mem _ _ _ (h2 i z hz))
      refine ⟨rfl, _, by simpa [Instr.loadAt, Instr.sureAddr] using run, ?_⟩
      simp only [RepV]
      exact ⟨zs, h1, by rw [hc.1]⟩
    · simp at h
  · rename_i o k i sz
    split at h
    · rename_i j s xs hent
      split at h
      · rename_i hc
        simp only [Option.some.injEq, Prod.mk.injEq] at h
        obtain ⟨rfl, rfl, rfl⟩ := h
        rw [Bool.and_eq_true] at hg
        have hkj := tst_iff.1 hg.1
        have hlt := tst_iff.1 hg.2
        subst hkj
        obtain ⟨r1, r2, r3, r4⟩ := row_reads sim hent
        simp only [RepV] at ha
        obtain ⟨-, k2, -, ad, rfl, k4⟩ := ha
        obtain ⟨p, l, c, hplc, rfl⟩ := k4 r2
        obtain ⟨zs, q1, q2⟩ := r4 p l c hplc i hlt
        have hl := RepL.len _ _ _ q2
        have hl' : zs.length = (C.row t).size := by rw [hl, hc.2]
        have hcell : ∀ j z, zs[j]? = some z → w.cell? ⟨p.block, p.off + i * sz + j, none⟩ = some z := by
          intro j z hz
          rw [← k2, r3]
          exact q1 j z hz
        have run := loadVar_at (P := P) (w := w) hC hgood hl' (fun k => by rw [hl']; exact row_one hC hgood k) hcell
        refine ⟨rfl, _, by simpa [Instr.loadAt, Instr.sureAddr] using run, ?_⟩
        simp only [RepV]
        refine ⟨zs, ?_, by rw [hc.1]⟩
        rw [List.getD_eq_getElem?_getD, List.getElem?_eq_getElem hlt]
        exact q2
      · simp at h
    · simp at h
  · simp at h
end
end Go.Proofs.Ytmpmmfbgdpfnpaa.Ev
/- One operation after the other, continued: stores; what is made anew. -/
namespace Go.Proofs.Ytmpmmfbgdpfnpaa.Ev
open Go Go.RowKit
set_option linter.unusedVariables false
set_option linter.unusedSimpArgs false

section
variable {P : Program} {C : Ctx} {E : Env} {w w0 : World} {base : Nat} {S : List Ent}

theorem run_storeVar_at [tI : Tst] (hC : RowsOK P C) {t : TypeId} (hg : (C.row t).td.good = true) {g off : Nat} {cur : List Value} {ty : TypeId} (hh : w.heap[g]? = some (.cells cur.toArray ty (0, 0))) {u : Value} {zs : List Value}
    (hz : u.cells = zs.toArray) (hl : zs.length = (C.row t).size) (h1 : ∀ z ∈ zs, z.oneCell' = true) (hfit : off + zs.length ≤ cur.length) :
    (storeVar t ⟨g, off, none⟩ u).run P w = .ok () (w.setRow g (cur.take off ++ zs ++ cur.drop (off + zs.length)).toArray) := by
  have := run_storeCells_at (P := P) g off ty zs 0 cur.toArray w hh (by simpa using hfit) h1
  simp only [Nat.add_zero] at this
  simp [storeVar, size_pos_info hC hg, hz, hl, this]

/-- a store turns its own object alone -/
theorem Sim.store [tI : Tst] (sim : Sim base w0 E S w) {o : Nat} {us us' : List Value} {ty : TypeId} {E' : Env} (hle : E.Le E') (hm : E'.m = E.m) (ch : Nat → Prop) (S' : List Ent)
    (ho : ch o) (hown : owns E o (ent S o) = some (E.blk o)) (hh : w.heap[E.blk o]? = some (.cells us.toArray ty (0, 0))) (hnone : ∀ j, E.m (E.blk o) j = none)
    (hsame : ∀ i, ¬ ch i → ent S' i = ent S i ∧ (E.live i → E'.ex i = E.ex i ∧ E'.len i = E.len i))
    (hnew : ∀ i, ch i → EntOK E' base (w.setRow (E.blk o) us'.toArray) i (ent S' i))
    (hch : ∀ i B, ch i → owns E' i (ent S' i) = some B → i = o ∧ B = E.blk o)
    (hlt : ∀ i, E'.live i → i < S'.length) : Sim base w0 E' S' (w.setRow (E.blk o) us'.toArray) := by
  have hB := owns_lt sim hown
  refine sim.step hle (belowX_setRow w hB.1 _) ch hsame ?_ ?_ hnew ?_ ?_ hlt (fun b _ j => by rw [hm])
  · intro i B hi hb
    have hne : B ≠ E.blk o := by
      rintro rfl
      exact sim.apart i o _ (by rintro rfl; exact hi ho) hb hown
    exact ⟨setRow_other w _ _ _ hne, fun j => by rw [hm]⟩
  · rw [hm]
    intro b i v hv
    have hne : b ≠ E.blk o := by rintro rfl; rw [hnone] at hv; simp at hv
    rw [cell_setRow_other w _ _ _ hne]
    exact sim.mem b i v hv
  · intro i B hi hb i' hi' hb'
    obtain ⟨rfl, rfl⟩ := hch i B hi hb
    exact sim.apart i i' _ (by rintro rfl; exact hi' hi) hown hb'
  · intro i i' B hi hi' hne h1 h2
    exact hne ((hch i B hi h1).1.trans (hch i' B hi' h2).1.symm)

/-- a store turns its own block alone -/
theorem Sim.storeAt [tI : Tst] (sim : Sim base w0 E S w) {o g : Nat} {us' : List Value} {E' : Env} (hle : E.Le E') (hm : E'.m = E.m) (ch : Nat → Prop) (S' : List Ent)
    (ho : ch o) (hown : owns E o (ent S o) = some g) (hnone : ∀ j, E.m g j = none)
    (hsame : ∀ i, ¬ ch i → ent S' i = ent S i ∧ (E.live i → E'.ex i = E.ex i ∧ E'.len i = E.len i))
    (hnew : ∀ i, ch i → EntOK E' base (w.setRow g us'.toArray) i (ent S' i))
    (hch : ∀ i B, ch i → owns E' i (ent S' i) = some B → i = o ∧ B = g)
    (hlt : ∀ i, E'.live i → i < S'.length) : Sim base w0 E' S' (w.setRow g us'.toArray) := by
  have hB := owns_lt sim hown
  refine sim.step hle (belowX_setRow w hB.1 _) ch hsame ?_ ?_ hnew ?_ ?_ hlt (fun b _ j => by rw [hm])
  · intro i B hi hb
    have hne : B ≠ g := by
      rintro rfl
      exact sim.apart i o _ (by rintro rfl; exact hi ho) hb hown
    exact ⟨setRow_other w _ _ _ hne, fun j => by rw [hm]⟩
  · rw [hm]
    intro b i v hv
    have hne : b ≠ g := by rintro rfl; rw [hnone] at hv; simp at hv
    rw [cell_setRow_other w _ _ _ hne]
    exact sim.mem b i v hv
  · intro i B hi hb i' hi' hb'
    obtain ⟨rfl, rfl⟩ := hch i B hi hb
    exact sim.apart i i' _ (by rintro rfl; exact hi' hi) hown hb'
  · intro i i' B hi hi' hne h1 h2
    exact hne ((hch i B hi h1).1.trans (hch i' B hi' h2).1.symm)

theorem cast_rep {s t : Ty} {x : s.den} {y : t.den} (h : cast? s t x = some y) : ∃ e : s = t, e ▸ x = y := by
  unfold cast? at h
  split at h
  · rename_i e
    exact ⟨e, by simpa using h⟩
  · simp at h

theorem cellT_rep [tI : Tst] {t : Ty} (ht : t.agg = false) {v : V} {u : Value} {x : t.den} (h : cellT t v = some x) (r : RepV E v u) : RepL E.m t x [u] := by
  cases v with
  | d s y =>
    simp only [cellT] at h
    obtain ⟨rfl, rfl⟩ := cast_rep h
    simp only [RepV] at r
    obtain ⟨us, h1, rfl⟩ := r
    obtain ⟨z, rfl⟩ := h1.single ht
    rw [ht]; exact h1
  | own o s ys =>
    simp only [cellT] at h
    obtain ⟨rfl, rfl⟩ := cast_rep h
    simp only [RepV] at r
    exact repl_sub.2 r.1
  | nn s ys =>
    simp only [cellT] at h
    obtain ⟨rfl, rfl⟩ := cast_rep h
    simp only [RepV] at r
    exact repl_sub.2 r.1
  | nils =>
    cases t with
    | li t =>
      simp only [cellT, Option.some.injEq] at h; subst h
      simp only [RepV] at r; subst r
      exact ⟨none, 0, rfl, Nat.le_refl _, Nat.zero_le _, Nat.zero_le _, rfl, rfl⟩
    | _ => simp [cellT] at h
  | _ => simp [cellT] at h

theorem unflat_rep [tI : Tst] : ∀ (t : Ty) (cs : List V) (us : List Value) (x : t.den) (rest : List V), unflat t cs = some (x, rest) → RepVs E cs us → ∃ u1 u2, us = u1 ++ u2 ∧ RepL E.m t x u1 ∧ RepVs E rest u2
  | .ue, cs, us, x, rest, h, r => by
    simp only [unflat, Option.some.injEq, Prod.mk.injEq] at h
    obtain ⟨-, rfl⟩ := h
    exact ⟨[], us, rfl, rfl, r⟩
  | .co t s, cs, us, x, rest, h, r => by
    simp only [unflat, Option.bind_eq_some_iff, Option.map_eq_some_iff, Prod.mk.injEq] at h
    obtain ⟨⟨y, r1⟩, h1, ⟨z, r2⟩, h2, rfl, rfl⟩ := h
    obtain ⟨u1, u2, rfl, k1, k2⟩ := unflat_rep t _ _ _ _ h1 r
    obtain ⟨u3, u4, rfl, k3, k4⟩ := unflat_rep s _ _ _ _ h2 k2
    exact ⟨u1 ++ u3, u4, by simp, ⟨u1, u3, rfl, k1, k3⟩, k4⟩
  | .ar n t, cs, us, x, rest, h, r => by
    simp only [unflat, Option.map_eq_some_iff] at h
    obtain ⟨⟨y, r1⟩, h1, h2⟩ := h
    simp only [Prod.mk.injEq] at h2
    obtain ⟨rfl, rfl⟩ := h2
    have key : ∀ (n : Nat) (cs : List V) (us : List Value) (y : List t.den) (rest : List V), unflat.go (unflat t) n cs = some (y, rest) → RepVs E cs us →
        ∃ u1 u2, us = u1 ++ u2 ∧ (List.length y = n ∧ u1.length = n * t.size ∧ ∀ i (hi : i < List.length y), RepL E.m t y[i] ((u1.drop (i * t.size)).take t.size)) ∧ RepVs E rest u2 := by
      intro n
      induction n with
      | zero =>
        intro cs us y rest h r
        simp only [unflat.go, Option.some.injEq, Prod.mk.injEq] at h
        obtain ⟨rfl, rfl⟩ := h
        exact ⟨[], us, rfl, ⟨rfl, by simp, by intro i hi; simp at hi⟩, r⟩
      | succ n ih =>
        intro cs us y rest h r
        simp only [unflat.go, Option.bind_eq_some_iff, Option.map_eq_some_iff, Prod.mk.injEq] at h
        obtain ⟨⟨a, r1⟩, h1, ⟨b, r2⟩, h2, rfl, rfl⟩ := h
        obtain ⟨u1, u2, rfl, k1, k2⟩ := unflat_rep t _ _ _ _ h1 r
        obtain ⟨u3, u4, rfl, ⟨k3, k4, k5⟩, k6⟩ := ih _ _ _ _ h2 k2
        have hl := RepL.len _ _ _ k1
        refine ⟨u1 ++ u3, u4, by simp, ⟨by simp [k3], by rw [List.length_append, hl, k4, Nat.add_mul, Nat.one_mul, Nat.add_comm], ?_⟩, k6⟩
        intro i hi
        cases i with
        | zero => simp only [Nat.zero_mul, List.drop_zero, List.getElem_cons_zero]; rw [← hl, List.take_left]; exact k1
        | succ i =>
          have : (i + 1) * t.size = u1.length + i * t.size := by rw [hl, Nat.add_mul, Nat.one_mul, Nat.add_comm]
          rw [this, ← List.drop_drop, List.drop_left]
          exact k5 i (by simpa using hi)
    obtain ⟨u1, u2, rfl, k1, k2⟩ := key n cs us _ _ h1 r
    exact ⟨u1, u2, rfl, k1, k2⟩
  | .bo, v :: cs, u :: us, x, rest, h, r => by
    simp only [unflat, Option.map_eq_some_iff, Prod.mk.injEq] at h
    obtain ⟨y, h1, rfl, rfl⟩ := h
    simp only [RepVs] at r
    exact ⟨[u], us, rfl, cellT_rep rfl h1 r.1, r.2⟩
  | .it k, v :: cs, u :: us, x, rest, h, r => by
    simp only [unflat, Option.map_eq_some_iff, Prod.mk.injEq] at h
    obtain ⟨y, h1, rfl, rfl⟩ := h
    simp only [RepVs] at r
    exact ⟨[u], us, rfl, cellT_rep rfl h1 r.1, r.2⟩
  | .st, v :: cs, u :: us, x, rest, h, r => by
    simp only [unflat, Option.map_eq_some_iff, Prod.mk.injEq] at h
    obtain ⟨y, h1, rfl, rfl⟩ := h
    simp only [RepVs] at r
    exact ⟨[u], us, rfl, cellT_rep rfl h1 r.1, r.2⟩
  | .ni, v :: cs, u :: us, x, rest, h, r => by
    simp only [unflat, Option.map_eq_some_iff, Prod.mk.injEq] at h
    obtain ⟨y, h1, -, rfl⟩ := h
    simp only [RepVs] at r
    exact ⟨[u], us, rfl, cellT_rep (t := .ni) (x := y) rfl h1 r.1, r.2⟩
  | .li t, v :: cs, u :: us, x, rest, h, r => by
    simp only [unflat, Option.map_eq_some_iff, Prod.mk.injEq] at h
    obtain ⟨y, h1, rfl, rfl⟩ := h
    simp only [RepVs] at r
    exact ⟨[u], us, rfl, cellT_rep rfl h1 r.1, r.2⟩
  | .bo, [], _, _, _, h, _ => by simp [unflat] at h
  | .it _, [], _, _, _, h, _ => by simp [unflat] at h
  | .st, [], _, _, _, h, _ => by simp [unflat] at h
  | .ni, [], _, _, _, h, _ => by simp [unflat] at h
  | .li _, [], _, _, _, h, _ => by simp [unflat] at h
  | .bo, _ :: _, [], _, _, _, r => by simp [RepVs] at r
  | .it _, _ :: _, [], _, _, _, r => by simp [RepVs] at r
  | .st, _ :: _, [], _, _, _, r => by simp [RepVs] at r
  | .ni, _ :: _, [], _, _, _, r => by simp [RepVs] at r
  | .li _, _ :: _, [], _, _, _, r => by simp [RepVs] at r

/-- seen as data of a kind: its cells -/
theorem asT_rep [tI : Tst] {t : Ty} {v : V} {u : Value} {x : t.den} (h : asT t v = some x) (r : RepV E v u) : ∃ zs : List Value, u.cells = zs.toArray ∧ RepL E.m t x zs := by
  cases v with
  | d s y =>
    simp only [asT] at h
    obtain ⟨rfl, rfl⟩ := cast_rep h
    simp only [RepV] at r
    obtain ⟨us, h1, h2, h3⟩ := r.cells
    exact ⟨us, h3, h1⟩
  | agg cs =>
    simp only [asT] at h
    split at h
    case isFalse => simp at h
    split at h
    · rename_i y hu
      simp only [Option.some.injEq] at h; subst h
      simp only [RepV] at r
      obtain ⟨us, rfl, h2, h3⟩ := r
      obtain ⟨u1, u2, rfl, k1, k2⟩ := unflat_rep t _ _ _ _ hu h2
      cases u2 with
      | nil => exact ⟨u1, by simp [Value.cells], k1⟩
      | cons z u2 => simp [RepVs] at k2
    · simp at h
  | own o s ys =>
    simp only [asT, cellT] at h
    obtain ⟨rfl, rfl⟩ := cast_rep h
    simp only [RepV] at r
    have := repl_sub.2 r.1
    obtain ⟨a, c, hu, _⟩ := id this
    simp only [List.cons.injEq, and_true] at hu; subst hu
    exact ⟨_, rfl, this⟩
  | nn s ys =>
    simp only [asT, cellT] at h
    obtain ⟨rfl, rfl⟩ := cast_rep h
    simp only [RepV] at r
    have := repl_sub.2 r.1
    obtain ⟨a, c, hu, _⟩ := id this
    simp only [List.cons.injEq, and_true] at hu; subst hu
    exact ⟨_, rfl, this⟩
  | nils =>
    simp only [asT] at h
    cases t with
    | li t =>
      have := cellT_rep (E := E) rfl h r
      simp only [RepV] at r; subst r
      exact ⟨_, rfl, this⟩
    | _ => simp [cellT] at h
  | _ => simp [asT, cellT] at h

theorem asT_one [tI : Tst] {t : Ty} (ht : t.agg = false) {v : V} {u : Value} {x : t.den} (h : asT t v = some x) (r : RepV E v u) : RepL E.m t x [u] := by
  cases v with
  | d s y =>
    simp only [asT] at h
    obtain ⟨rfl, rfl⟩ := cast_rep h
    simp only [RepV] at r
    obtain ⟨us, h1, rfl⟩ := r
    obtain ⟨z, rfl⟩ := h1.single ht
    rw [ht]; exact h1
  | agg cs => simp [asT, ht] at h
  | own o s ys => exact cellT_rep ht (v := .own o s ys) (by simpa only [asT] using h) r
  | nn s ys => exact cellT_rep ht (v := .nn s ys) (by simpa only [asT] using h) r
  | nils => exact cellT_rep ht (v := .nils) (by simpa only [asT] using h) r
  | _ => simp [asT, cellT] at h
theorem elems_repl {t : Ty} {zs : List Value} {i n : Nat} {ys : List Value} (hl : zs.length = n * t.size) (hi : i < n) (hy : ys.length = t.size) (j : Nat) (hj : j < n) :
    (((zs.take (i * t.size) ++ ys ++ zs.drop (i * t.size + ys.length)).drop (j * t.size)).take t.size) = if j = i then ys else (zs.drop (j * t.size)).take t.size := by
  have h1 : i * t.size + t.size ≤ zs.length := by rw [hl, ← Nat.succ_mul]; exact Nat.mul_le_mul_right _ (by omega)
  have ht : (zs.take (i * t.size)).length = i * t.size := by rw [List.length_take]; omega
  split
  · rename_i e; subst e
    have hd : (zs.take (j * t.size) ++ ys ++ zs.drop (j * t.size + ys.length)).drop (j * t.size) = ys ++ zs.drop (j * t.size + ys.length) := by
      rw [List.append_assoc]
      exact List.drop_left' ht
    rw [hd, ← hy, List.take_left]
  · rename_i e
    apply List.ext_getElem?
    intro k
    simp only [List.getElem?_take, List.getElem?_drop]
    by_cases hk : k < t.size
    · rw [if_pos hk, if_pos hk]
      rcases Nat.lt_or_gt_of_ne e with hlt | hgt
      · have : j * t.size + k < i * t.size := by
          have := Nat.mul_le_mul_right t.size (show j + 1 ≤ i from hlt)
          rw [Nat.add_mul, Nat.one_mul] at this; omega
        rw [List.append_assoc, List.getElem?_append_left (by omega), List.getElem?_take, if_pos this]
      · have : i * t.size + t.size ≤ j * t.size + k := by
          have := Nat.mul_le_mul_right t.size (show i + 1 ≤ j from hgt)
          rw [Nat.add_mul, Nat.one_mul] at this; omega
        rw [List.getElem?_append_right (by rw [List.length_append, ht, hy]; omega), List.length_append, ht, List.getElem?_drop, hy]
        congr 1; omega
    · rw [if_neg hk, if_neg hk]

theorem elems_repl' {t : Ty} {zs : List Value} {i : Nat} {ys : List Value} (h1 : i * t.size + t.size ≤ zs.length) (hy : ys.length = t.size) (j : Nat) :
    (((zs.take (i * t.size) ++ ys ++ zs.drop (i * t.size + ys.length)).drop (j * t.size)).take t.size) = if j = i then ys else (zs.drop (j * t.size)).take t.size := by
  have ht : (zs.take (i * t.size)).length = i * t.size := by rw [List.length_take]; omega
  split
  · rename_i e; subst e
    have hd : (zs.take (j * t.size) ++ ys ++ zs.drop (j * t.size + ys.length)).drop (j * t.size) = ys ++ zs.drop (j * t.size + ys.length) := by
      rw [List.append_assoc]
      exact List.drop_left' ht
    rw [hd, ← hy, List.take_left]
  · rename_i e
    apply List.ext_getElem?
    intro k
    simp only [List.getElem?_take, List.getElem?_drop]
    by_cases hk : k < t.size
    · rw [if_pos hk, if_pos hk]
      rcases Nat.lt_or_gt_of_ne e with hlt | hgt
      · have : j * t.size + k < i * t.size := by
          have := Nat.mul_le_mul_right t.size (show j + 1 ≤ i from hlt)
          rw [Nat.add_mul, Nat.one_mul] at this; omega
        rw [List.append_assoc, List.getElem?_append_left (by omega), List.getElem?_take, if_pos this]
      · have : i * t.size + t.size ≤ j * t.size + k := by
          have := Nat.mul_le_mul_right t.size (show i + 1 ≤ j from hgt)
          rw [Nat.add_mul, Nat.one_mul] at this; omega
        rw [List.getElem?_append_right (by rw [List.length_append, ht, hy]; omega), List.length_append, ht, List.getElem?_drop, hy]
        congr 1; omega
    · rw [if_neg hk, if_neg hk]

theorem store_ok [tI : Tst] (hC : RowsOK P C) (sim : Sim base w0 E S w) {t : TypeId} {id : Nat} {a x v : V} {u y : Value} {us : List (Nat × Ent)} {g : Bool} (h : storeV C id S t a x = some (g, v, us)) (hg : g = true) (ha : RepV E a u) (hx : RepV E x y)
    (hid : (∃ e, (C.row t).ty = .li e) → ¬ E.live id ∧ id < S.length) : v = .un ∧ ∃ w' E', (Instr.storeAt t u y).run P w = .ok () w' ∧ E.Le E' ∧ Sim base w0 E' (sets S us) w' ∧ ∀ o, E'.live o → E.live o ∨ ((∃ e, (C.row t).ty = .li e) ∧ o = id) := by
  unfold storeV at h
  split at h
  · simp at h
  rename_i hgood
  have hgood : (C.row t).td.good = true := by simpa using hgood
  have hrow := hC.row hgood
  split at h
  · rename_i o off
    split at h
    · rename_i cs hent
      have he := sim.ents o
      rw [hent] at he
      obtain ⟨e1, e2, zs, ty, e3, e4, e5, e6⟩ := he
      have hlen := e4.length
      have hown : owns E o (ent S o) = some (E.blk o) := by rw [hent]; rfl
      simp only [RepV] at ha
      obtain ⟨-, rfl⟩ := ha
      simp only [Option.bind_eq_some_iff] at h
      obtain ⟨⟨vs, fs⟩, h1, h2⟩ := h
      simp only at h2
      split at h2
      case isFalse => simp at h2
      rename_i hc
      simp only [Option.some.injEq, Prod.mk.injEq] at h2
      obtain ⟨rfl, rfl, rfl⟩ := h2
      refine ⟨rfl, ?_⟩
      by_cases hn : x = .nils
      · subst hn
        simp only [RepV] at hx; subst hx
        split at h1
        case h_2 hne => exact absurd rfl hne
        split at h1
        case h_2 => simp at h1
        rename_i e hty
        obtain ⟨hid, hlt⟩ := hid ⟨e, hty⟩
        simp only [Option.some.injEq, Prod.mk.injEq] at h1
        obtain ⟨rfl, rfl⟩ := h1
        have hne : o ≠ id := by rintro rfl; exact hid e1
        have hle := Env.le_add hid 0 e.size (.slice none 0 0) 0 none
        have hst := run_storeVar_at (P := P) (w := w) hC hgood e3 (u := .slice none 0 0) (zs := [.slice none 0 0]) (off := off) rfl (by simpa using hc.1) (by simp [Value.oneCell']) (by simp at hc ⊢; omega)
        refine ⟨_, _, (by simp only [Instr.storeAt, Instr.sureAddr, Sem.run_bind, Sem.run_pure, Result.andThen_ok]; exact hst), hle, ?_, ?_⟩
        · refine sim.store hle rfl (fun i => i = o ∨ i = id) _ (.inl rfl) hown e3 e6 ?_ ?_ ?_ ?_
          · intro i hi
            simp only [not_or] at hi
            refine ⟨?_, fun l => ⟨if_neg (h := instDecidableEqNat i id) hi.2, if_neg (h := instDecidableEqNat i id) hi.2⟩⟩
            rw [sets, sets, sets, ent_set_ne _ hi.2, ent_set_ne _ hi.1]
          · rintro i (rfl | rfl)
            · have : ent (sets S [(i, Ent.obj (replV cs off [V.own id e ([] : List e.den)])), (id, Ent.fam 0)]) i = Ent.obj (replV cs off [V.own id e ([] : List e.den)]) := by
                rw [sets, sets, sets, ent_set_ne _ hne, ent_set_same _ (sim.lt _ e1)]
              rw [this]
              refine ⟨hle.live _ e1, by rw [hle.blk _ e1]; exact e2, _, ty, by rw [hle.blk _ e1]; exact setRow_heap w _ _ _ ty _ e3, ?_, ?_, fun j => by rw [hle.blk _ e1]; exact e6 j⟩
              · refine RepVs.repl off (RepVs.mono hle _ _ e4) ?_ hc.2
                simp only [RepVs, and_true, RepV]
                refine ⟨⟨_, ⟨none, 0, rfl, Nat.le_refl _, Nat.zero_le _, Nat.zero_le _, rfl, rfl⟩, rfl⟩, .inl rfl, by simp [Env.add], by simp, by simp [Env.add]⟩
              · intro z hz
                rcases List.mem_append.1 hz with hz | hz
                · rcases List.mem_append.1 hz with hz | hz
                  · exact e5 z (List.mem_of_mem_take hz)
                  · simp at hz; subst hz; rfl
                · exact e5 z (List.mem_of_mem_drop hz)
            · have : ent (sets S [(o, Ent.obj (replV cs off [V.own i e ([] : List e.den)])), (i, Ent.fam 0)]) i = Ent.fam 0 := by
                rw [sets, sets, sets, ent_set_same _ (by rw [List.length_set]; exact hlt)]
              rw [this]
              refine ⟨.inl rfl, by simp [Env.add], ?_⟩
              unfold FamOK
              simp [Env.add]
          · rintro i B (rfl | rfl) hb
            · refine ⟨rfl, ?_⟩
              have : ent (sets S [(i, Ent.obj (replV cs off [V.own id e ([] : List e.den)])), (id, Ent.fam 0)]) i = Ent.obj (replV cs off [V.own id e ([] : List e.den)]) := by
                rw [sets, sets, sets, ent_set_ne _ hne, ent_set_same _ (sim.lt _ e1)]
              rw [this] at hb
              simp only [owns, Option.some.injEq] at hb
              rw [← hb, hle.blk _ e1]
            · have : ent (sets S [(o, Ent.obj (replV cs off [V.own i e ([] : List e.den)])), (i, Ent.fam 0)]) i = Ent.fam 0 := by
                rw [sets, sets, sets, ent_set_same _ (by rw [List.length_set]; exact hlt)]
              rw [this] at hb
              simp [owns, Env.add] at hb
          · rintro i (rfl | l)
            · rw [length_sets]; exact hlt
            · rw [length_sets]; exact sim.lt _ l
        · rintro i (rfl | l)
          · exact .inr ⟨⟨e, hty⟩, rfl⟩
          · exact .inl l
      · have h1' : (flatV x).map (fun vs => (vs, ([] : List (Nat × Ent)))) = some (vs, fs) := by
          cases x <;> first | exact h1 | exact absurd rfl hn
        simp only [Option.map_eq_some_iff, Prod.mk.injEq] at h1'
        obtain ⟨vs', h1', rfl, rfl⟩ := h1'
        obtain ⟨ys, k1, k2, k3⟩ := flatV_rep h1' hx
        have hl := k2.length
        have hst := run_storeVar_at (P := P) (w := w) hC hgood e3 (u := y) (zs := ys) (off := off) k1 (by omega) k3 (by omega)
        refine ⟨_, E, (by simp only [Instr.storeAt, Instr.sureAddr, Sem.run_bind, Sem.run_pure, Result.andThen_ok]; exact hst), Env.Le.refl E, ?_, fun _ l => .inl l⟩
        have hent' : ent (sets S [(o, Ent.obj (replV cs off vs'))]) o = Ent.obj (replV cs off vs') := by
          rw [sets, sets, ent_set_same _ (sim.lt _ e1)]
        refine sim.store (Env.Le.refl E) rfl (fun i => i = o) _ rfl hown e3 e6 ?_ ?_ ?_ ?_
        · intro i hi
          refine ⟨?_, fun _ => ⟨rfl, rfl⟩⟩
          rw [sets, sets, ent_set_ne _ hi]
        · rintro i rfl
          rw [hent']
          refine ⟨e1, e2, _, ty, setRow_heap w _ _ _ ty _ e3, RepVs.repl off e4 k2 hc.2, ?_, e6⟩
          intro z hz
          rcases List.mem_append.1 hz with hz | hz
          · rcases List.mem_append.1 hz with hz | hz
            · exact e5 z (List.mem_of_mem_take hz)
            · exact k3 z hz
          · exact e5 z (List.mem_of_mem_drop hz)
        · rintro i B rfl hb
          rw [hent'] at hb
          simp only [owns, Option.some.injEq] at hb
          exact ⟨rfl, hb.symm⟩
        · intro i l; rw [length_sets]; exact sim.lt _ l
    · simp at h
  · rename_i o k i sz
    split at h
    · rename_i kk s xs hent
      split at h
      · rename_i hsz
        simp only [Option.map_eq_some_iff] at h
        obtain ⟨z, h1, h2⟩ := h
        simp only [Prod.mk.injEq] at h2
        obtain ⟨rfl, rfl, rfl⟩ := h2
        rw [Bool.and_eq_true] at hg
        have hkj := tst_iff.1 hg.1
        have hlt := tst_iff.1 hg.2
        subst hkj
        have he := sim.ents o
        rw [hent] at he
        obtain ⟨e1, e2, e3, e4⟩ := he
        simp only [RepV] at ha
        obtain ⟨-, k2, -, ad, rfl, kp⟩ := ha
        obtain ⟨p, l, c, hplc, rfl⟩ := kp e2
        unfold RowAt at e4
        cases hex : E.ex o with
        | none => rw [hex] at e4; obtain ⟨rfl, -⟩ := e4; simp at hlt
        | some g =>
        rw [hex] at e4
        obtain ⟨cap, l', cur, ty, r1, r2, r3, r4, r5, r6, r7, r8⟩ := e4
        rw [hplc] at r1
        simp only [Value.slice.injEq, Option.some.injEq] at r1
        obtain ⟨rfl, rfl, rfl⟩ := r1
        have hown : owns E o (ent S o) = some g := by rw [hent]; exact hex
        obtain ⟨ys, k3, k4⟩ := asT_rep h1 hx
        have hl := RepL.len _ _ _ k4
        have hcl : cur.toList.length = cur.size := Array.length_toList
        have hle : i * s.size + s.size ≤ cur.toList.length := by
          rw [hcl]
          have : (i + 1) * s.size ≤ c * s.size := Nat.mul_le_mul_right _ (by omega)
          rw [Nat.add_mul, Nat.one_mul] at this; omega
        have hst := run_storeVar_at (P := P) (w := w) hC hgood (cur := cur.toList) (by rw [Array.toArray_toList]; exact r3) (u := y) (zs := ys) (off := i * s.size) k3 (by omega) (RepL.one _ _ _ k4) (by omega)
        rw [show i * s.size = i * sz from by rw [← e3, k2]] at hst
        simp only [Nat.zero_add]
        refine ⟨trivial, _, E, (by simp only [Instr.storeAt, Instr.sureAddr, Sem.run_bind, Sem.run_pure, Result.andThen_ok]; exact hst), Env.Le.refl E, ?_, fun _ l => .inl l⟩
        have hent' : ent (sets S [(o, Ent.row k s (List.set xs i z))]) o = Ent.row k s (List.set xs i z) := by
          rw [sets, sets, ent_set_same _ (sim.lt _ e1)]
        refine sim.storeAt (Env.Le.refl E) rfl (fun i => i = o) _ (o := o) rfl hown r8 ?_ ?_ ?_ ?_
        · intro j hj
          refine ⟨?_, fun _ => ⟨rfl, rfl⟩⟩
          rw [sets, sets, ent_set_ne _ hj]
        · rintro j rfl
          rw [hent']
          rw [show i * sz = i * s.size from by rw [← e3, k2]]
          refine ⟨e1, e2, e3, ?_⟩
          unfold RowAt
          rw [hex]
          refine ⟨c, l, _, ty, hplc, r2, setRow_heap w _ _ _ ty _ r3, by rw [List.length_set]; exact r4, r5, ?_, ?_, r8⟩
          · simp only [List.size_toArray, List.length_append, List.length_take, List.length_drop]
            omega
          · intro n hn
            simp only [List.length_set] at hn
            rw [List.getElem_set]
            have := elems_repl' (zs := cur.toList) (t := s) (i := i) (ys := ys) hle hl n
            simp only [List.toList_toArray]
            rw [this]
            split
            · rename_i e; subst e; rw [if_pos rfl]; exact k4
            · rename_i e; rw [if_neg (fun k => e k.symm)]; exact r7 n hn
        · rintro j B rfl hb
          rw [hent'] at hb
          simp only [owns] at hb
          rw [hex] at hb
          simp only [Option.some.injEq] at hb
          exact ⟨rfl, hb.symm⟩
        · intro j l; rw [length_sets]; exact sim.lt _ l
      · simp at h
    · simp at h
  · simp at h
end
end Go.Proofs.Ytmpmmfbgdpfnpaa.Ev
/- One operation after the other, continued: what is made anew; slices of slices; append. -/
namespace Go.Proofs.Ytmpmmfbgdpfnpaa.Ev
open Go Go.RowKit
set_option linter.unusedVariables false
set_option linter.unusedSimpArgs false

section
variable {P : Program} {C : Ctx} {E : Env} {w w0 : World} {base : Nat} {S : List Ent}

/-- nothing that was there is turned: blocks are new, draws are made -/
structure Wider (w w' : World) : Prop where
  os : w'.os = w.os
  tape : w'.tape = w.tape
  output : w'.output = w.output
  size : w.heap.size ≤ w'.heap.size
  block : ∀ k, k < w.heap.size → w'.heap[k]? = w.heap[k]?
theorem Wider.refl (w : World) : Wider w w := ⟨rfl, rfl, rfl, Nat.le_refl _, fun _ _ => rfl⟩
theorem Wider.alloc (w : World) (o : Obj) : Wider w (w.alloc o) := ⟨rfl, rfl, rfl, by simp, fun k hk => heap_alloc_old w o k hk⟩
theorem Wider.drew_alloc (w : World) (o : Obj) : Wider w (w.drew.alloc o) := ⟨rfl, rfl, rfl, by simp, fun k hk => heap_alloc_old w.drew o k hk⟩
theorem Wider.below {w w' : World} (h : Wider w w') {B : Nat} (hB : B ≤ w.heap.size) : Below B w w' := ⟨h.os, h.tape, h.output, h.size, fun k hk => h.block k (by omega)⟩
theorem Wider.lies {w w' : World} (h : Wider w w') {m : Mem} (hm : m.lies w) : m.lies w' := by
  intro b o v hv
  have := hm b o v hv
  have hlt := World.block_lt_of_cell? w _ this
  rw [World.cell?_of_block (w := w) (h.block b hlt)]
  exact this

/-- what is made: new entries, new facts on new blocks; all that was there stays -/
theorem Sim.made [tI : Tst] (sim : Sim base w0 E S w) {E' : Env} {w' : World} (hw : Wider w w') (hle : E.Le E') (ch : Nat → Prop) (S' : List Ent) (hlen : S'.length = S.length)
    (hsame : ∀ i, ¬ ch i → ent S' i = ent S i ∧ (E.live i → E'.ex i = E.ex i ∧ E'.len i = E.len i))
    (hmold : ∀ b, b < w.heap.size → ∀ j, E'.m b j = E.m b j) (hm : E'.m.lies w')
    (hnew : ∀ i, ch i → EntOK E' base w' i (ent S' i))
    (hown : ∀ i B, ch i → owns E' i (ent S' i) = some B → w.heap.size ≤ B)
    (hch : ∀ i i' B, ch i → ch i' → i ≠ i' → owns E' i (ent S' i) = some B → owns E' i' (ent S' i') = some B → False)
    (hlt : ∀ i, E'.live i → E.live i ∨ i < S.length) : Sim base w0 E' S' w' := by
  refine sim.step hle (below_toX (hw.below sim.base_le)) ch hsame ?_ hm hnew ?_ hch ?_ (fun b hb j => hmold b (Nat.lt_of_lt_of_le hb sim.base_le) j)
  · intro i B hi hb
    have := owns_lt sim hb
    exact ⟨hw.block B this.2, fun j => hmold B this.2 j⟩
  · intro i B hi hb i' hi' hb'
    have := owns_lt sim hb'
    have := hown i B hi hb
    omega
  · intro i l
    rw [hlen]
    rcases hlt i l with h | h
    · exact sim.lt _ h
    · exact h

/-- a new object -/
theorem Sim.obj [tI : Tst] (sim : Sim base w0 E S w) {id : Nat} (hid : ¬ E.live id) (hlt : id < S.length) {cs : List V} {zs : List Value} (ty : TypeId)
    (hr : RepVs E cs zs) (h1 : ∀ z ∈ zs, z.oneCell' = true) : ∃ E', E.Le E' ∧ Sim base w0 E' (S.set id (.obj cs)) (w.alloc (.cells zs.toArray ty)) ∧ RepV E' (.p id 0) (.pointer (some ⟨w.heap.size, 0, none⟩)) ∧ ∀ o, E'.live o → E.live o ∨ o = id := by
  have hle := Env.le_add hid w.heap.size 0 undef 0 none
  refine ⟨_, hle, ?_, ?_, ?_⟩
  · refine sim.made (Wider.alloc w _) hle (fun i => i = id) _ (by rw [List.length_set]) ?_ (fun _ _ _ => rfl) ((Wider.alloc w _).lies sim.mem) ?_ ?_ ?_ ?_
    · intro i hi
      exact ⟨ent_set_ne _ hi, fun l => ⟨if_neg (h := instDecidableEqNat i id) hi, if_neg (h := instDecidableEqNat i id) hi⟩⟩
    · rintro i rfl
      rw [ent_set_same _ hlt]
      have hb : (E.add i w.heap.size 0 undef 0 none).blk i = w.heap.size := by simp [Env.add]
      refine ⟨.inl rfl, .inl (by rw [hb]; exact sim.base_le), zs, ty, by rw [hb]; exact heap_alloc_new w _, RepVs.mono hle _ _ hr, h1, fun j => ?_⟩
      rw [hb]
      exact lies_none sim.mem (Nat.le_refl _) j
    · rintro i B rfl hb
      rw [ent_set_same _ hlt] at hb
      simp only [owns, Env.add, if_true, Option.some.injEq] at hb
      omega
    · rintro i i' B rfl rfl hne; exact absurd rfl hne
    · rintro i (rfl | l)
      · exact .inr hlt
      · exact .inl l
  · simp only [RepV, Env.add, if_true]; exact ⟨.inl trivial, trivial⟩
  · rintro i (rfl | l)
    · exact .inr rfl
    · exact .inl l

/-- a family of no elements yet -/
theorem Sim.nilfam [tI : Tst] (sim : Sim base w0 E S w) {id : Nat} (hid : ¬ E.live id) (hlt : id < S.length) (t : Ty) : ∃ E', E.Le E' ∧ Sim base w0 E' (S.set id (.fam 0)) w ∧ RepV E' (.own id t ([] : List t.den)) (.slice none 0 0) ∧ ∀ o, E'.live o → E.live o ∨ o = id := by
  have hle := Env.le_add hid 0 t.size (.slice none 0 0) 0 none
  refine ⟨_, hle, ?_, ?_, ?_⟩
  · refine sim.made (Wider.refl w) hle (fun i => i = id) _ (by rw [List.length_set]) ?_ (fun _ _ _ => rfl) sim.mem ?_ ?_ ?_ ?_
    · intro i hi
      exact ⟨ent_set_ne _ hi, fun l => ⟨if_neg (h := instDecidableEqNat i id) hi, if_neg (h := instDecidableEqNat i id) hi⟩⟩
    · rintro i rfl
      rw [ent_set_same _ hlt]
      refine ⟨.inl rfl, by simp [Env.add], ?_⟩
      unfold FamOK
      simp [Env.add]
    · rintro i B rfl hb
      rw [ent_set_same _ hlt] at hb
      simp [owns, Env.add] at hb
    · rintro i i' B rfl rfl hne; exact absurd rfl hne
    · rintro i (rfl | l)
      · exact .inr hlt
      · exact .inl l
  · simp only [RepV, Env.add, if_true]
    exact ⟨⟨_, ⟨none, 0, rfl, Nat.le_refl _, Nat.zero_le _, Nat.zero_le _, rfl, rfl⟩, rfl⟩, .inl trivial, trivial, Nat.le_refl _, fun _ => trivial⟩
  · rintro i (rfl | l)
    · exact .inr rfl
    · exact .inl l

/-- families of no elements, as many as there are slices among fresh cells -/
theorem Sim.zeros [tI : Tst] : ∀ (ts : List Ty) (id : Nat) {E : Env} {S : List Ent} {w : World} {zs : List Value}, Sim base w0 E S w → (∀ j, id ≤ j → j < id + slices ts → ¬ E.live j ∧ j < S.length) → zerosB ts zs = true →
    ∃ E', E.Le E' ∧ Sim base w0 E' (sets S (zeroFams ts id)) w ∧ RepVs E' (Ev.zeros ts id) zs ∧ (∀ z ∈ zs, z.oneCell' = true) ∧ ∀ o, E'.live o → E.live o ∨ (id ≤ o ∧ o < id + slices ts)
  | [], id, E, S, w, [], sim, _, _ => ⟨E, Env.Le.refl E, sim, by simp [Ev.zeros, RepVs], by simp, fun _ l => .inl l⟩
  | .bo :: ts, id, E, S, w, z :: zs, sim, hid, hz => by
    simp only [zerosB, Bool.and_eq_true] at hz
    obtain ⟨E', h1, h2, h3, h4, h5⟩ := Sim.zeros ts id sim hid hz.2
    have : z = .bool false := by have := hz.1; unfold zeroB at this; split at this <;> simp_all
    subst this
    refine ⟨E', h1, h2, ?_, by simpa [Value.oneCell'] using h4, h5⟩
    simp only [Ev.zeros, RepVs]; exact ⟨rep_bool false, h3⟩
  | .it k :: ts, id, E, S, w, z :: zs, sim, hid, hz => by
    simp only [zerosB, Bool.and_eq_true] at hz
    obtain ⟨E', h1, h2, h3, h4, h5⟩ := Sim.zeros ts id sim hid hz.2
    have : z = .int k 0 := by have := hz.1; cases z <;> simp [zeroB] at this; simp [this]
    subst this
    refine ⟨E', h1, h2, ?_, by simpa [Value.oneCell'] using h4, h5⟩
    have hr := range_neg k
    simp only [Ev.zeros, RepVs]; exact ⟨rep_int (n := 0) ⟨hr.1, hr.2.1⟩, h3⟩
  | .st :: ts, id, E, S, w, z :: zs, sim, hid, hz => by
    simp only [zerosB, Bool.and_eq_true] at hz
    obtain ⟨E', h1, h2, h3, h4, h5⟩ := Sim.zeros ts id sim hid hz.2
    have : ∃ s : ByteArray, z = .string s ∧ s.size = 0 := by have := hz.1; cases z <;> simp [zeroB] at this; exact ⟨_, rfl, by simp [this]⟩
    obtain ⟨s, rfl, hs⟩ := this
    refine ⟨E', h1, h2, ?_, by simpa [Value.oneCell'] using h4, h5⟩
    simp only [Ev.zeros, RepVs]
    refine ⟨rep_str_iff.2 ⟨s, rfl, ?_, by simp [hs, maxL]⟩, h3⟩
    have : (strInts s).length = 0 := by simp [strInts, hs]
    exact List.eq_nil_of_length_eq_zero this
  | .ni :: ts, id, E, S, w, z :: zs, sim, hid, hz => by
    simp only [zerosB, Bool.and_eq_true] at hz
    obtain ⟨E', h1, h2, h3, h4, h5⟩ := Sim.zeros ts id sim hid hz.2
    have : z = .pointer none := by have := hz.1; unfold zeroB at this; split at this <;> simp_all
    subst this
    refine ⟨E', h1, h2, ?_, by simpa [Value.oneCell'] using h4, h5⟩
    simp only [Ev.zeros, RepVs]; exact ⟨rep_nil_iff.2 rfl, h3⟩
  | .li t :: ts, id, E, S, w, z :: zs, sim, hid, hz => by
    simp only [zerosB, Bool.and_eq_true] at hz
    simp only [slices] at hid
    have : z = .slice none 0 0 := by
      have := hz.1
      unfold zeroB at this
      split at this <;> simp_all
    subst this
    obtain ⟨i1, i2⟩ := hid id (Nat.le_refl _) (by omega)
    obtain ⟨E1, k1, k2, k3, k4⟩ := sim.nilfam i1 i2 t
    obtain ⟨E', h1, h2, h3, h4, h5⟩ := Sim.zeros ts (id + 1) k2 (by
      intro j hj hj'
      obtain ⟨j1, j2⟩ := hid j (by omega) (by omega)
      refine ⟨fun l => ?_, by rw [List.length_set]; exact j2⟩
      rcases k4 j l with l | l
      · exact j1 l
      · omega) hz.2
    refine ⟨E', k1.trans h1, h2, ?_, by simpa [Value.oneCell'] using h4, ?_⟩
    · simp only [Ev.zeros, RepVs]; exact ⟨RepV.mono h1 _ _ k3, h3⟩
    · intro o l
      simp only [slices]
      rcases h5 o l with l | l
      · rcases k4 o l with l | l
        · exact .inl l
        · right; omega
      · right; omega
  | .ue :: ts, id, E, S, w, z :: zs, sim, _, hz => by simp [zerosB, zeroB] at hz
  | .co _ _ :: ts, id, E, S, w, z :: zs, sim, _, hz => by simp [zerosB, zeroB] at hz
  | .ar _ _ :: ts, id, E, S, w, z :: zs, sim, _, hz => by simp [zerosB, zeroB] at hz
  | [], _, _, _, _, _ :: _, _, _, hz => by simp [zerosB] at hz
  | _ :: _, _, _, _, _, [], _, _, hz => by simp [zerosB] at hz

theorem sets_append : ∀ (us vs : List (Nat × Ent)) (S : List Ent), sets S (us ++ vs) = sets (sets S us) vs
  | [], _, _ => rfl
  | (n, e) :: us, vs, S => by simp only [List.cons_append, sets]; exact sets_append us vs _
theorem set_comm (S : List Ent) {a b : Nat} (h : a ≠ b) (x y : Ent) : (S.set a x).set b y = (S.set b y).set a x := List.set_comm _ _ h
theorem sets_set [tI : Tst] : ∀ (us : List (Nat × Ent)) (S : List Ent) (n : Nat) (e : Ent), (∀ x ∈ us, x.1 ≠ n) → sets (S.set n e) us = (sets S us).set n e
  | [], _, _, _, _ => rfl
  | (m, f) :: us, S, n, e, h => by
    simp only [sets]
    have hne := h (m, f) (List.mem_cons_self ..)
    rw [set_comm S (fun k => hne k.symm), sets_set us _ n e (fun x hx => h x (List.mem_cons_of_mem _ hx))]
theorem zeroFams_ne : ∀ (ts : List Ty) (id : Nat), ∀ x ∈ zeroFams ts id, id ≤ x.1
  | [], _, _, h => by simp [zeroFams] at h
  | t :: ts, id, x, h => by
    cases t <;> simp only [zeroFams, List.mem_cons] at h <;> first
      | exact zeroFams_ne ts id x h
      | (rcases h with rfl | h
         · exact Nat.le_refl _
         · have := zeroFams_ne ts (id + 1) x h; omega)

theorem alloc_ok [tI : Tst] (hC : RowsOK P C) (sim : Sim base w0 E S w) {t : TypeId} (hg : (C.row t).td.good = true) {id : Nat} (hid : ∀ j, id ≤ j → j < id + (1 + slices (C.row t).cells) → ¬ E.live j ∧ j < S.length) :
    ∃ u w' E', (Instr.alloc t true (.tuple #[])).run P w = .ok u w' ∧ E.Le E' ∧ Sim base w0 E' (sets S ((id, .obj (Ev.zeros (C.row t).cells (id + 1))) :: zeroFams (C.row t).cells (id + 1))) w' ∧ RepV E' (.p id 0) u ∧
      ∀ o, E'.live o → E.live o ∨ (id ≤ o ∧ o < id + (1 + slices (C.row t).cells)) := by
  obtain ⟨i, z, h1, h2, h3, h4, h5⟩ := (hC.row hg).info
  obtain ⟨E1, k1, k2, k3, k4, k5⟩ := sim.zeros (C.row t).cells (id + 1) (fun j hj hj' => hid j (by omega) (by omega)) h5
  obtain ⟨i1, i2⟩ := hid id (Nat.le_refl _) (by omega)
  have i1' : ¬ E1.live id := by intro l; rcases k5 id l with l | l; exact i1 l; omega
  obtain ⟨E2, l1, l2, l3, l4⟩ := k2.obj i1' (by rw [length_sets]; exact i2) t k3 k4
  refine ⟨_, w.alloc (.cells z.cells.toList.toArray t), E2, ?_, k1.trans l1, ?_, l3, ?_⟩
  · have hz : (zeroValue t).run P w = .ok z w := by simp [zeroValue, typeInfo, h1, h4]
    simp only [Instr.alloc, Sem.run_bind, Sem.run_pure, Result.andThen_ok, hz, newVar, newRow, Array.toArray_toList]
    rfl
  · simp only [sets]
    rw [sets_set _ _ _ _ (fun x hx => by have := zeroFams_ne _ _ x hx; omega)]
    simpa using l2
  · intro o l
    rcases l4 o l with l | rfl
    · rcases k5 o l with l | l
      · exact .inl l
      · right; omega
    · right; omega
theorem box_ok [tI : Tst] (sim : Sim base w0 E S w) {t : TypeId} {id : Nat} (hid : ¬ E.live id ∧ id < S.length) {x : V} {u : Value} {vs : List V} (hx : RepV E x u) (hf : flatV x = some vs) :
    ∃ z w' E', (Instr.box t u).run P w = .ok z w' ∧ E.Le E' ∧ Sim base w0 E' (S.set id (.obj vs)) w' ∧ RepV E' (.p id 0) z ∧ ∀ o, E'.live o → E.live o ∨ o = id := by
  obtain ⟨zs, h1, h2, h3⟩ := flatV_rep hf hx
  obtain ⟨E2, l1, l2, l3, l4⟩ := sim.obj hid.1 hid.2 t h2 h3
  exact ⟨_, _, E2, by simp only [Instr.box, newVar, newRow, h1]; rfl, l1, l2, l3, l4⟩

/-- facts on a new block -/
def Mem.put (m : Mem) (B : Nat) (us : List Value) : Mem := fun b o => if b = B then us[o]? else m b o
theorem Mem.le_put {m : Mem} {B : Nat} {us : List Value} (h : ∀ o, m B o = none) : m.le (m.put B us) := by
  intro b o v hv
  unfold Mem.put
  split
  · rename_i e; subst e; rw [h] at hv; simp at hv
  · exact hv
theorem Mem.lies_put [tI : Tst] {m : Mem} {w' : World} (hm : m.lies w') {B : Nat} {us rest : List Value} {ty : TypeId} {fr : Nat × Nat} (hh : w'.heap[B]? = some (.cells (us ++ rest).toArray ty fr)) : (m.put B us).lies w' := by
  intro b o v hv
  unfold Mem.put at hv
  split at hv
  · rename_i e; subst e
    rw [cell_row hh, List.getElem?_append_left (List.getElem?_eq_some_iff.1 hv).1]
    exact hv
  · exact hm b o v hv
theorem lies_put {m : Mem} {B : Nat} {us : List Value} (a n : Nat) : Lies (m.put B us) B (0 + a) ((us.drop a).take n) := by
  intro i u hu
  rw [List.getElem?_take] at hu
  split at hu
  · rw [List.getElem?_drop] at hu
    unfold Mem.put
    rw [if_pos rfl, Nat.zero_add]
    exact hu
  · simp at hu
/-- a slice that takes a new block up -/
theorem repL_new [tI : Tst] {m m' : Mem} (hle : m.le m') {t : Ty} {xs : List t.den} {B : Nat} {us : List Value} {c : Nat} (hput : ∀ o v, us[o]? = some v → m' B o = some v) (hel : ∀ i (h : i < List.length xs), RepL m t xs[i] ((us.drop (i * t.size)).take t.size))
    (hc : List.length xs ≤ c) (hmax : List.length xs ≤ maxL) (hcm : c ≤ maxLen) : RepL m' (.li t) xs [.slice (some ⟨B, 0, none⟩) (List.length xs) c] := by
  refine ⟨some ⟨B, 0, none⟩, c, rfl, hc, hmax, hcm, fun _ => rfl, fun i hi => ⟨_, ?_, RepL.mono hle _ _ _ (hel i hi)⟩⟩
  intro j u hu
  rw [List.getElem?_take] at hu
  split at hu
  · rw [List.getElem?_drop] at hu
    simp only [Nat.zero_add]
    exact hput _ _ hu
  · simp at hu

/-- new facts on a new block, and no more -/
theorem Sim.facts [tI : Tst] (sim : Sim base w0 E S w) {w' : World} (hw : Wider w w') {us rest : List Value} {ty : TypeId} {fr : Nat × Nat} (hh : w'.heap[w.heap.size]? = some (.cells (us ++ rest).toArray ty fr)) :
    E.Le (E.setM (E.m.put w.heap.size us)) ∧ Sim base w0 (E.setM (E.m.put w.heap.size us)) S w' := by
  have hle : E.Le (E.setM (E.m.put w.heap.size us)) := Env.le_setM (Mem.le_put (lies_none sim.mem (Nat.le_refl _)))
  refine ⟨hle, sim.made hw hle (fun _ => False) S rfl (fun i _ => ⟨rfl, fun _ => ⟨rfl, rfl⟩⟩) ?_ (Mem.lies_put (hw.lies sim.mem) hh) (fun _ h => h.elim) (fun _ _ h => h.elim) (fun _ _ _ h => h.elim) (fun i l => .inl l)⟩
  intro b hb j
  show (E.m.put _ us) b j = _
  unfold Mem.put
  rw [if_neg (by omega)]

/-- an entry told in other words -/
theorem Sim.retell [tI : Tst] (sim : Sim base w0 E S w) {o : Nat} {e : Ent} (ho : o < S.length) (hown : owns E o e = owns E o (ent S o)) (hok : EntOK E base w o e) : Sim base w0 E (S.set o e) w where
  below := sim.below
  base_le := sim.base_le
  mem := sim.mem
  old := sim.old
  rmem := sim.rmem
  lt i l := by rw [List.length_set]; exact sim.lt i l
  ents i := by
    by_cases h : i = o
    · subst h; rw [ent_set_same _ ho]; exact hok
    · rw [ent_set_ne _ h]; exact sim.ents i
  apart i j B hne h1 h2 := by
    have key : ∀ i, owns E i (ent (S.set o e) i) = owns E i (ent S i) := by
      intro i
      by_cases h : i = o
      · subst h; rw [ent_set_same _ ho]; exact hown
      · rw [ent_set_ne _ h]
    rw [key] at h1 h2
    exact sim.apart i j B hne h1 h2
theorem Sim.tolit [tI : Tst] {id n g : Nat} (sim : Sim base w0 E (S.set id (.fam n)) w) (hlt : id < S.length) (hx : E.ex id = some g) : Sim base w0 E (S.set id (.lit n)) w := by
  have h := sim.ents id
  rw [ent_set_same _ hlt] at h
  have := sim.retell (o := id) (e := .lit n) (by rw [List.length_set]; exact hlt) (by rw [ent_set_same _ hlt]; rfl) ⟨h, g, hx⟩
  rwa [List.set_set] at this
theorem Sim.delit [tI : Tst] (sim : Sim base w0 E S w) {o n : Nat} (ho : o < S.length) (he : ent S o = .lit n) : Sim base w0 E (S.set o (.fam n)) w := by
  have h := sim.ents o
  rw [he] at h
  exact sim.retell ho (by rw [he]; rfl) h.1
/-- a new block that a new family takes up -/
theorem Sim.newfam [tI : Tst] (sim : Sim base w0 E S w) {id : Nat} (hid : ¬ E.live id ∧ id < S.length) {t : Ty} {xs : List t.den} {w' : World} (hw : Wider w w') {us rest : List Value} {ty : TypeId} {cap : Nat}
    (hh : w'.heap[w.heap.size]? = some (.cells (us ++ rest).toArray ty (0, 0))) (hl : us.length = List.length xs * t.size) (hcap : (us ++ rest).length = cap * t.size) (hc : List.length xs ≤ cap) (hcm : cap ≤ maxLen) (hmax : List.length xs ≤ maxL)
    (hel : ∀ i (h : i < List.length xs), RepL E.m t xs[i] ((us.drop (i * t.size)).take t.size)) :
    ∃ E', E.Le E' ∧ Sim base w0 E' (S.set id (.fam (List.length xs))) w' ∧ RepV E' (.own id t xs) (.slice (some ⟨w.heap.size, 0, none⟩) (List.length xs) cap) ∧ (∀ o, E'.live o → E.live o ∨ o = id) ∧ E'.ex id = some w.heap.size := by
  have hle1 := Env.le_add hid.1 0 t.size (.slice (some ⟨w.heap.size, 0, none⟩) (List.length xs) cap) (List.length xs) (some w.heap.size)
  have hput : E.m.le (E.m.put w.heap.size us) := Mem.le_put (lies_none sim.mem (Nat.le_refl _))
  have hle : E.Le ((E.add id 0 t.size (.slice (some ⟨w.heap.size, 0, none⟩) (List.length xs) cap) (List.length xs) (some w.heap.size)).setM (E.m.put w.heap.size us)) := hle1.trans (Env.le_setM hput)
  refine ⟨_, hle, ?_, ?_, ?_⟩
  · refine sim.made hw hle (fun i => i = id) _ (by rw [List.length_set]) ?_ ?_ (Mem.lies_put (hw.lies sim.mem) hh) ?_ ?_ ?_ ?_
    · intro i hi
      exact ⟨ent_set_ne _ hi, fun l => ⟨if_neg (h := instDecidableEqNat i id) hi, if_neg (h := instDecidableEqNat i id) hi⟩⟩
    · intro b hb j
      show (E.m.put _ us) b j = _
      unfold Mem.put
      rw [if_neg (by omega)]
    · rintro i rfl
      rw [ent_set_same _ hid.2]
      refine ⟨.inl rfl, by simp [Env.add, Env.setM], ?_⟩
      unfold FamOK
      simp only [Env.add, Env.setM, if_true]
      refine ⟨cap, _, ty, rfl, sim.base_le, hh, hc, hcm, by simpa using hcap, fun j hj => ?_⟩
      unfold Mem.put
      rw [if_pos rfl]
      exact List.getElem?_eq_none (by omega)
    · rintro i B rfl hb
      rw [ent_set_same _ hid.2] at hb
      simp only [owns, Env.add, Env.setM, if_true, Option.some.injEq] at hb
      omega
    · rintro i i' B rfl rfl hne; exact absurd rfl hne
    · rintro i (rfl | l)
      · exact .inr hid.2
      · exact .inl l
  · simp only [RepV, Env.add, Env.setM, if_true]
    refine ⟨repl_sub.1 (repL_new hput (fun o v hv => by unfold Mem.put; rw [if_pos rfl]; exact hv) hel hc hmax hcm), .inl trivial, trivial, Nat.le_refl _, fun _ => trivial⟩
  · refine ⟨?_, by simp [Env.add, Env.setM]⟩
    rintro i (rfl | l)
    · exact .inr rfl
    · exact .inl l

theorem byte_range (b : UInt8) : IntKind.u8.min ≤ (b.toNat : Int) ∧ (b.toNat : Int) ≤ IntKind.u8.max := by
  have := b.toNat_lt
  simp [IntKind.min, IntKind.max, IntKind.bits, IntKind.signed]
  omega
theorem grownCap_small (w : World) {need old : Nat} (e : TypeId) (h : need ≤ maxL) : grownCap w need old e ≤ maxLen := grownCap_le_maxLen w need old e (by simp only [maxL, maxLen] at *; omega)

/-- bytes of a string that the code bears -/
theorem conv_new [tI : Tst] (hC : RowsOK P C) (sim : Sim base w0 E S w) {src dst : TypeId} {x v : V} {u : Value} (h : convV C src dst x = some v) (hx : RepV E x u) {e : TypeId} (hd : (C.row dst).td = .slice e) :
    ∃ z w' E', (convert src dst u).run P w = .ok z w' ∧ E.Le E' ∧ Sim base w0 E' S w' ∧ RepV E' v z ∧ ∀ o, E'.live o → E.live o := by
  unfold convV at h
  rw [hd] at h
  cases hs : (C.row src).td <;> rw [hs] at h <;> simp only [] at h
  all_goals try (simp at h; done)
  split at h
  case h_2 => simp at h
  rename_i he
  split at h
  case h_2 => simp at h
  rename_i l
  simp only [Option.some.injEq] at h; subst h
  obtain ⟨s, rfl, rfl, h3⟩ := rep_str_iff.1 hx
  have hrun := run_bytes_of_string (P := P) w src dst e s (hC.str hs) (hC.slice hd).1 (hC.int he).1
  have hlen : (strInts s).length = s.size := by simp [strInts]
  have hus : bytesRow s (grownCap w s.size 0 e) = ((strInts s).map (Value.int .u8) ++ List.replicate (grownCap w s.size 0 e - s.size) (Value.int .u8 0)).toArray := by
    apply Array.ext'
    simp [bytesRow, strInts, List.map_map, Function.comp_def]
  rw [hus] at hrun
  obtain ⟨h4, h5⟩ := sim.facts (Wider.drew_alloc w _) (us := (strInts s).map (Value.int .u8)) (rest := List.replicate (grownCap w s.size 0 e - s.size) (Value.int .u8 0)) (heap_alloc_new w.drew _)
  refine ⟨_, _, _, hrun, h4, h5, ?_, fun o l => l⟩
  rw [show s.size = (strInts s).length from hlen.symm]
  refine rep_li_iff.2 (repL_new (m := E.m) (us := (strInts s).map (Value.int .u8)) h4.m (fun o v hv => ?_) (fun i hi => ?_) ?_ (by omega) ?_)
  · show (E.m.put _ _) _ _ = _
    unfold Mem.put
    rw [if_pos rfl]; exact hv
  · have : i < (strInts s).length := hi
    have e1 : (((strInts s).map (Value.int .u8)).drop (i * 1)).take 1 = [Value.int .u8 (strInts s)[i]] := by
      rw [Nat.mul_one, List.drop_eq_getElem_cons (by simpa using this), List.take_succ_cons, List.take_zero, List.getElem_map]
    show RepL E.m (.it .u8) (strInts s)[i] ((((strInts s).map (Value.int .u8)).drop (i * 1)).take 1)
    rw [e1]
    refine ⟨rfl, ?_⟩
    have hb : ∃ b : UInt8, (strInts s)[i] = (b.toNat : Int) := by
      have hm := List.getElem_mem this
      unfold strInts at hm
      obtain ⟨b, _, hb⟩ := List.mem_map.1 hm
      exact ⟨b, hb.symm⟩
    obtain ⟨b, hb⟩ := hb
    rw [hb]
    exact byte_range b
  · rw [hlen]; exact grownCap_ge w _ _ _
  · rw [hlen]; exact grownCap_small w e h3
end
end Go.Proofs.Ytmpmmfbgdpfnpaa.Ev
/- One operation after the other, continued: structs and slices that are built; slices of slices; append. -/
namespace Go.Proofs.Ytmpmmfbgdpfnpaa.Ev
open Go Go.RowKit
set_option linter.unusedVariables false
set_option linter.unusedSimpArgs false

section
variable {P : Program} {C : Ctx} {E : Env} {w w0 : World} {base : Nat} {S : List Ent}

def replL {α : Type} (cs : List α) (off : Nat) (vs : List α) : List α := cs.take off ++ vs ++ cs.drop (off + vs.length)
theorem foldl_set (off : Nat) : ∀ (vs : List Value) (k : Nat) (cs : Array Value), off + k + vs.length ≤ cs.size →
    (((vs.zipIdx k).foldl (fun (cs : Array Value) (x : Value × Nat) => cs.setIfInBounds (off + x.2) x.1) cs)).toList = replL cs.toList (off + k) vs
  | [], k, cs, _ => by simp [replL]
  | v :: vs, k, cs, h => by
    simp only [List.length_cons] at h
    simp only [List.zipIdx_cons, List.foldl_cons]
    rw [foldl_set off vs (k + 1) _ (by simp; omega)]
    have hk : off + k < cs.toList.length := by simp; omega
    simp only [replL, Array.toList_setIfInBounds, List.length_cons]
    rw [← Nat.add_assoc off k 1, List.drop_set_of_lt (by omega), List.take_succ_eq_append_getElem (by simpa using hk), List.take_set_of_le (Nat.le_refl _)]
    simp only [List.getElem_set_self, List.append_assoc, List.singleton_append]
    congr 3
    rw [show off + k + 1 + vs.length = off + k + (vs.length + 1) from by omega]
theorem fill_step [tI : Tst] {place : Nat → Option (Nat × Nat)} {cells : Array Value} {i off size : Nat} {v : Value} {rest : List (Nat × Value)} {zs : List Value} (hp : place i = some (off, size)) (hv : v.cells = zs.toArray) (hl : zs.length = size) (hfit : off + size ≤ cells.size) :
    ∃ cells' : Array Value, cells'.toList = replL cells.toList off zs ∧ Instr.fill place cells ((i, v) :: rest) = Instr.fill place cells' rest := by
  have h1 : ¬ (decide (v.cells.size ≠ size) || decide (off + v.cells.size > cells.size)) = true := by rw [hv]; simp; omega
  refine ⟨_, ?_, by rw [Instr.fill, hp]; simp only; rw [if_neg h1]⟩
  rw [hv, ← Array.foldl_toList]
  have := foldl_set off zs 0 cells (by omega)
  simpa using this

/-- a struct, an array, part after part -/
theorem fill_build [tI : Tst] {offs : Nat → Option (Nat × Nat)} : ∀ (ps : List (Nat × V)) (qs : List (Nat × Value)) (cs cs' : List V) (cells : Array Value), buildV offs ps cs = some cs' → ps.map (·.1) = qs.map (·.1) →
    (∀ (i : Nat) (a : Nat × V) (b : Nat × Value), ps[i]? = some a → qs[i]? = some b → RepV E a.2 b.2) → RepVs E cs cells.toList → (∀ u ∈ cells.toList, u.oneCell' = true) →
    ∃ cells' : Array Value, Instr.fill offs cells qs = some cells' ∧ RepVs E cs' cells'.toList ∧ (∀ u ∈ cells'.toList, u.oneCell' = true) ∧ cells'.size = cells.size
  | [], [], cs, cs', cells, h, _, _, hr, h1 => by
    simp only [buildV, Option.some.injEq] at h; subst h
    exact ⟨cells, rfl, hr, h1, rfl⟩
  | (i, v) :: ps, (j, u) :: qs, cs, cs', cells, h, hm, hp, hr, h1 => by
    simp only [List.map_cons, List.cons.injEq] at hm
    obtain ⟨rfl, hm⟩ := hm
    simp only [buildV] at h
    split at h
    · rename_i off size ho
      simp only [Option.bind_eq_some_iff] at h
      obtain ⟨vs, h2, h3⟩ := h
      split at h3
      · rename_i hc
        have hvu := hp 0 (i, v) (i, u) rfl rfl
        obtain ⟨zs, k1, k2, k3⟩ := flatV_rep h2 hvu
        have hl := k2.length
        have hlen := hr.length
        obtain ⟨cells1, l1, l2⟩ := fill_step (rest := qs) ho k1 (by omega) (cells := cells) (by have := hc.2; simp at hlen; omega)
        have hl1 : cells1.size = cells.size := by
          have := congrArg List.length l1
          simp only [replL, List.length_append, List.length_take, List.length_drop, Array.length_toList] at this hlen
          omega
        obtain ⟨cells', m1, m2, m3, m4⟩ := fill_build ps qs _ cs' cells1 h3 hm (fun i a b ha hb => hp (i + 1) a b (by simpa using ha) (by simpa using hb)) (by
          rw [l1]
          exact RepVs.repl off hr k2 (by omega)) (by
          rw [l1]
          intro z hz
          rcases List.mem_append.1 hz with hz | hz
          · rcases List.mem_append.1 hz with hz | hz
            · exact h1 z (List.mem_of_mem_take hz)
            · exact k3 z hz
          · exact h1 z (List.mem_of_mem_drop hz))
        exact ⟨cells', by rw [l2]; exact m1, m2, m3, by omega⟩
      · simp at h3
    · simp at h
  | [], _ :: _, _, _, _, _, hm, _, _, _ => by simp at hm
  | _ :: _, [], _, _, _, _, hm, _, _, _ => by simp at hm

theorem zeros_rep [tI : Tst] : ∀ (ts : List Ty) (zs : List Value), zerosB ts zs = true → RepVs E (ts.map fun t => V.d t t.dflt) zs ∧ ∀ z ∈ zs, z.oneCell' = true
  | [], [], _ => by simp [RepVs]
  | t :: ts, z :: zs, h => by
    simp only [zerosB, Bool.and_eq_true] at h
    obtain ⟨h1, h2⟩ := zeros_rep ts zs h.2
    have key : RepV E (.d t t.dflt) z ∧ z.oneCell' = true := by
      have hz := h.1
      unfold zeroB at hz
      split at hz
      · exact ⟨rep_bool false, rfl⟩
      · simp only [Bool.and_eq_true, beq_iff_eq] at hz
        obtain ⟨rfl, rfl⟩ := hz
        have hr := range_neg ‹IntKind›
        exact ⟨rep_int (n := 0) ⟨hr.1, hr.2.1⟩, rfl⟩
      · rename_i s
        have hs : s.size = 0 := by simpa using hz
        refine ⟨rep_str_iff.2 ⟨s, rfl, ?_, by simp [hs, maxL]⟩, rfl⟩
        exact List.eq_nil_of_length_eq_zero (by simp [strInts, hs])
      · exact ⟨rep_nil_iff.2 rfl, rfl⟩
      · exact ⟨rep_li_iff.2 ⟨none, 0, rfl, Nat.le_refl _, Nat.zero_le _, Nat.zero_le _, rfl, rfl⟩, rfl⟩
      · simp at hz
    simp only [List.map_cons, RepVs]
    exact ⟨⟨key.1, h1⟩, by simpa using ⟨key.2, h2⟩⟩
  | [], _ :: _, h => by simp [zerosB] at h
  | _ :: _, [], h => by simp [zerosB] at h

theorem mapM_fields [tI : Tst] (hC : RowsOK P C) : ∀ (y : Ty) (n : Nat) (fs : List (Nat × TypeId)) (gs : List Field), fieldsB C y n fs gs = true →
    (gs.mapM fun f => do pure (f.offset, ← sizeOf f.type) : Sem _).run P w = .ok (fs.map fun f => (f.1, (C.row f.2).size)) w
  | _, _, [], [], _ => by simp
  | y, n, (off, e) :: fs, g :: gs, h => by
    simp only [fieldsB, Bool.and_eq_true, beq_iff_eq] at h
    obtain ⟨⟨⟨⟨⟨h1, h2⟩, h3⟩, h4⟩, h5⟩, h6⟩ := h
    have ih := mapM_fields hC y (n + 1) fs gs h6
    have hs := size_pos_info (P := P) (w := w) hC h3
    simp only [List.mapM_cons, Sem.run_bind, h2, hs, Result.andThen_ok, Sem.run_pure, ih, h1, List.map_cons]
  | _, _, [], _ :: _, h => by simp [fieldsB] at h
  | _, _, _ :: _, [], h => by simp [fieldsB] at h

theorem build_ok [tI : Tst] (hC : RowsOK P C) {t : TypeId} {ps : Array (Nat × Operand)} {r : Operand → V} {q : Operand → Value} (hr : ∀ x, RepV E (r x) (q x)) {v : V} {us : List (Nat × Ent)} {g : Bool} {id : Nat} {o : Oper} (ho : o.op = .build t ps)
    (h : evOp C o id r S = some (g, v, us)) : us = [] ∧ ∃ z, (Instr.build t (ps.map fun (i, x) => (i, q x))).run P w = .ok z w ∧ RepV E v z := by
  unfold evOp at h
  rw [ho] at h
  simp only at h
  have go : ∀ offs : Nat → Option (Nat × Nat), (C.row t).td.good = true → ∀ cs, buildV offs (ps.toList.map fun (i, x) => (i, r x)) ((C.row t).cells.map fun t => V.d t t.dflt) = some cs →
      ∃ cells : Array Value, ∃ z : Value, (zeroValue t).run P w = .ok z w ∧ Instr.fill offs z.cells (ps.map fun (i, x) => (i, q x)).toList = some cells ∧ RepV E (.agg cs) (.agg cells) := by
    intro offs hg cs hb
    obtain ⟨i, z, h1, h2, h3, h4, h5⟩ := (hC.row hg).info
    obtain ⟨k1, k2⟩ := zeros_rep (E := E) _ _ h5
    obtain ⟨cells, l1, l2, l3, l4⟩ := fill_build (E := E) _ (ps.map fun (i, x) => (i, q x)).toList _ _ z.cells hb (by simp) (by
      intro i a b ha hb
      simp only [List.getElem?_map, Option.map_eq_some_iff, Array.toList_map] at ha hb
      obtain ⟨c, hc, rfl⟩ := ha
      obtain ⟨d, hd, rfl⟩ := hb
      rw [hc] at hd
      simp only [Option.some.injEq] at hd; subst hd
      exact hr _) k1 k2
    refine ⟨cells, z, by simp [zeroValue, typeInfo, h1, h4], l1, ?_⟩
    simp only [RepV]
    exact ⟨cells.toList, by simp, l2, l3⟩
  split at h
  · rename_i fs ht
    simp only [Option.bind_eq_some_iff, val, Option.some.injEq, Prod.mk.injEq] at h
    obtain ⟨cs, h1, rfl, rfl, rfl⟩ := h
    obtain ⟨gs, hu, hb⟩ := hC.struct ht
    have hm := mapM_fields (w := w) hC _ _ _ _ hb
    have hmA : (gs.mapM fun f => do pure (f.offset, ← sizeOf f.type) : Sem _).run P w = .ok (fs.map fun f => (f.1, (C.row f.2).size)).toArray w := by
      rw [← Array.toArray_toList (xs := gs), List.mapM_toArray]
      simp only [Sem.run_map, hm, Result.andThen_ok]
    obtain ⟨cells, z, k1, k2, k3⟩ := go _ (by rw [ht]; rfl) cs h1
    have hoffs : (fun (i : Nat) => ((fs.map fun (f : Nat × TypeId) => (f.1, (C.row f.2).size)).toArray)[i]?) = fun (i : Nat) => (fs[i]?).map fun (f : Nat × TypeId) => (f.1, (C.row f.2).size) := by
      funext i; simp
    refine ⟨rfl, _, ?_, k3⟩
    simp only [Instr.build, Sem.run_bind, k1, Result.andThen_ok, run_underlying hu, hmA, hoffs, k2]
    rfl
  · rename_i n e ht
    simp only [Option.bind_eq_some_iff, val, Option.some.injEq, Prod.mk.injEq] at h
    obtain ⟨cs, h1, rfl, rfl, rfl⟩ := h
    obtain ⟨hu, -, -, he, hpos⟩ := hC.arr ht
    have hes := size_pos_info (P := P) (w := w) hC he
    obtain ⟨cells, z, k1, k2, k3⟩ := go _ (by rw [ht]; rfl) cs h1
    refine ⟨rfl, _, ?_, k3⟩
    simp only [Instr.build, Sem.run_bind, k1, Result.andThen_ok, run_underlying hu, hes, k2]
    rfl
  · simp at h
end
end Go.Proofs.Ytmpmmfbgdpfnpaa.Ev
/- One operation after the other, continued: slices that are built, slices of slices, append. -/
namespace Go.Proofs.Ytmpmmfbgdpfnpaa.Ev
open Go Go.RowKit
set_option linter.unusedVariables false
set_option linter.unusedSimpArgs false

section
variable {P : Program} {C : Ctx} {E : Env} {w w0 : World} {base : Nat} {S : List Ent}

theorem fill_elems [tI : Tst] {t : Ty} {size : Nat} (hs : t.size = size) : ∀ (ps : List (Nat × V)) (qs : List (Nat × Value)) (k : Nat) (xs : List t.den) (cells : Array Value), elemsV t k ps = some xs → ps.map (·.1) = qs.map (·.1) →
    (∀ (i : Nat) (a : Nat × V) (b : Nat × Value), ps[i]? = some a → qs[i]? = some b → RepV E a.2 b.2) → (k + ps.length) * size ≤ cells.size →
    ∃ cells' : Array Value, Instr.fill (fun i => some (i * size, size)) cells qs = some cells' ∧ cells'.size = cells.size ∧ List.length xs = ps.length ∧ cells'.toList.take (k * size) = cells.toList.take (k * size) ∧
      ∀ i (h : i < List.length xs), RepL E.m t xs[i] ((cells'.toList.drop ((k + i) * size)).take size)
  | [], [], k, xs, cells, h, _, _, _ => by
    simp only [elemsV, Option.some.injEq] at h; subst h
    exact ⟨cells, rfl, rfl, rfl, rfl, by intro i hi; simp at hi⟩
  | (i, v) :: ps, (j, u) :: qs, k, xs, cells, h, hm, hp, hc => by
    simp only [List.map_cons, List.cons.injEq] at hm
    obtain ⟨rfl, hm⟩ := hm
    simp only [elemsV] at h
    split at h
    case isFalse => simp at h
    rename_i hik
    subst hik
    simp only [Option.bind_eq_some_iff, Option.map_eq_some_iff] at h
    obtain ⟨x, h1, ys, h2, rfl⟩ := h
    have hvu := hp 0 (i, v) (i, u) rfl rfl
    obtain ⟨zs, k1, k2⟩ := asT_rep h1 hvu
    have hl := RepL.len _ _ _ k2
    simp only [List.length_cons] at hc
    have hle : i * size + size ≤ cells.size := by
      have : (i + 1) * size ≤ (i + (ps.length + 1)) * size := Nat.mul_le_mul_right _ (by omega)
      rw [Nat.add_mul, Nat.one_mul] at this; omega
    obtain ⟨cells1, l1, l2⟩ := fill_step (rest := qs) (place := fun i => some (i * size, size)) (i := i) rfl k1 (by omega) (cells := cells) hle
    have hl1 : cells1.size = cells.size := by
      have := congrArg List.length l1
      simp only [replL, List.length_append, List.length_take, List.length_drop, Array.length_toList] at this
      omega
    obtain ⟨cells', m1, m2, m3, m4, m5⟩ := fill_elems hs ps qs (i + 1) ys cells1 h2 hm (fun i a b ha hb => hp (i + 1) a b (by simpa using ha) (by simpa using hb)) (by rw [hl1, show i + 1 + ps.length = i + (ps.length + 1) from by omega]; exact hc)
    have hti : (cells.toList.take (i * size)).length = i * size := by simp; omega
    have e1 : cells1.toList.take (i * size) = cells.toList.take (i * size) := by
      rw [l1, replL, List.append_assoc]
      exact List.take_left' hti
    have e2 : (cells1.toList.drop (i * size)).take size = zs := by
      rw [l1, replL, List.append_assoc, List.drop_left' hti, ← hs, ← hl, List.take_left]
    have e3 : cells'.toList.take (i * size) = cells1.toList.take (i * size) := by
      have := congrArg (List.take (i * size)) m4
      rwa [List.take_take, List.take_take, Nat.min_eq_left (Nat.mul_le_mul_right _ (by omega))] at this
    have e4 : (cells'.toList.drop (i * size)).take size = zs := by
      rw [← e2]
      have := congrArg (List.drop (i * size)) m4
      rw [show (i + 1) * size = i * size + size from by rw [Nat.add_mul, Nat.one_mul], List.drop_take, List.drop_take, Nat.add_sub_cancel_left] at this
      exact this
    refine ⟨cells', by rw [l2]; exact m1, by omega, by simp [m3], by rw [e3, e1], ?_⟩
    intro n hn
    cases n with
    | zero => simp only [Nat.add_zero, List.getElem_cons_zero]; rw [e4]; exact k2
    | succ n => rw [show i + (n + 1) = i + 1 + n from by omega]; exact m5 n (by simpa using hn)
  | [], _ :: _, _, _, _, _, hm, _, _ => by simp at hm
  | _ :: _, [], _, _, _, _, hm, _, _ => by simp at hm

theorem buildSlice_gen [tI : Tst] (hC : RowsOK P C) (sim : Sim base w0 E S w) {t e : TypeId} {n : Nat} {ps : Array (Nat × Operand)} {vps : List (Nat × V)} {q : Operand → Value} (hfst : vps.map (·.1) = ps.toList.map (·.1))
    (hr : ∀ (i : Nat) (a : Nat × V) (b : Nat × Operand), vps[i]? = some a → ps.toList[i]? = some b → RepV E a.2 (q b.2)) {id : Nat} (hid : ¬ E.live id ∧ id < S.length)
    (ht : (C.row t).td = .slice e) (hn : ps.size = n ∧ n * (C.row e).size ≤ 16777216) {xs : List (C.row e).ty.den} (hx : elemsV (C.row e).ty 0 vps = some xs) :
    ∃ z w' E', (Instr.buildSlice t n (ps.map fun (i, x) => (i, q x))).run P w = .ok z w' ∧ E.Le E' ∧ Sim base w0 E' (S.set id (.lit (List.length xs))) w' ∧ RepV E' (.own id (C.row e).ty xs) z ∧ ∀ o, E'.live o → E.live o ∨ o = id := by
  obtain ⟨hu, -, -, he, hpos⟩ := hC.slice ht
  have hes := size_pos_info (P := P) (w := w) hC he
  obtain ⟨i, zv, h1, h2, h3, h4, h5⟩ := (hC.row he).info
  have hcells := (hC.row he).cells
  have hty := (hC.row he).size
  have hzl : zv.cells.size = (C.row e).size := by
    have := (zeros_rep (E := E) _ _ h5).1.length
    simp at this; omega
  have hzero : (zeroValue e).run P w = .ok zv w := by simp [zeroValue, typeInfo, h1, h4]
  obtain ⟨hn1, hn2⟩ := hn
  let start : Array Value := (Array.range (n * (C.row e).size)).map ((if n * (C.row e).size = 0 then #[] else zv.cells)[· % (if n * (C.row e).size = 0 then #[] else zv.cells).size]!)
  have hstart : start.size = n * (C.row e).size := by simp [start]
  have hvl : vps.length = ps.size := by have := congrArg List.length hfst; simpa using this
  obtain ⟨cells, m1, m2, m3, m4, m5⟩ := fill_elems (E := E) hty vps (ps.map fun (i, x) => (i, q x)).toList 0 xs start hx (by rw [hfst]; simp) (by
    intro i a b ha hb
    simp only [List.getElem?_map, Option.map_eq_some_iff, Array.toList_map] at hb
    obtain ⟨d, hd, rfl⟩ := hb
    exact hr i a d ha hd) (by rw [hstart]; simp [hn1, hvl])
  have hxl : List.length xs = n := by rw [m3, hvl, hn1]
  have hnn : n ≤ 16777216 := Nat.le_trans (Nat.le_mul_of_pos_right n hpos) hn2
  obtain ⟨E', k1, k2, k3, k4, k5⟩ := sim.newfam hid (t := (C.row e).ty) (xs := xs) (Wider.alloc w (.cells cells e)) (us := cells.toList) (rest := []) (ty := e) (cap := n) (by simpa using heap_alloc_new w (.cells cells e))
    (by simp [m2, hstart, hxl, hty]) (by simp [m2, hstart, hty]) (by omega) (by simp only [maxLen]; omega) (by simp only [maxL]; omega) (fun i hi => by
      have := m5 i hi
      simp only [Nat.zero_add] at this
      rw [hty]; exact this)
  refine ⟨_, _, E', ?_, k1, k2.tolit hid.2 k5, by rw [hxl] at k3; exact k3, k4⟩
  have hbig : ¬ (n * (C.row e).size > 2 ^ 24) := by omega
  have hfill : Instr.fill (fun i => some (i * (C.row e).size, (C.row e).size)) start (ps.map fun (i, x) => (i, q x)).toList = some cells := m1
  by_cases h0 : n * (C.row e).size = 0
  · have hs0 : start = (Array.range (n * (C.row e).size)).map (fun x => (#[] : Array Value)[x % (#[] : Array Value).size]!) := by simp only [start, h0, if_true]
    rw [hs0] at hfill
    simp only [Instr.buildSlice, Sem.run_bind, run_underlying hu, Result.andThen_ok, hes, Sem.run_ite, if_neg hbig, Sem.run_pure, if_pos h0, hfill, newRow]
    rfl
  · have hs0 : start = (Array.range (n * (C.row e).size)).map (fun x => zv.cells[x % zv.cells.size]!) := by simp only [start, h0, if_false]
    rw [hs0] at hfill
    simp only [Instr.buildSlice, Sem.run_bind, run_underlying hu, Result.andThen_ok, hes, Sem.run_ite, if_neg hbig, Sem.run_pure, if_neg h0, hzero, hfill, newRow]
    rfl

theorem buildSlice_ok [tI : Tst] (hC : RowsOK P C) (sim : Sim base w0 E S w) {t e : TypeId} {n : Nat} {ps : Array (Nat × Operand)} {r : Operand → V} {q : Operand → Value} (hr : ∀ x, RepV E (r x) (q x)) {id : Nat} (hid : ¬ E.live id ∧ id < S.length)
    (ht : (C.row t).td = .slice e) (hn : ps.size = n ∧ n * (C.row e).size ≤ 16777216) {xs : List (C.row e).ty.den} (hx : elemsV (C.row e).ty 0 (ps.toList.map fun (i, x) => (i, r x)) = some xs) :
    ∃ z w' E', (Instr.buildSlice t n (ps.map fun (i, x) => (i, q x))).run P w = .ok z w' ∧ E.Le E' ∧ Sim base w0 E' (S.set id (.lit (List.length xs))) w' ∧ RepV E' (.own id (C.row e).ty xs) z ∧ ∀ o, E'.live o → E.live o ∨ o = id := by
  refine buildSlice_gen hC sim (by simp) ?_ hid ht hn hx
  intro i a b ha hb
  simp only [List.getElem?_map, Option.map_eq_some_iff] at ha
  obtain ⟨c, hc, rfl⟩ := ha
  rw [hc] at hb
  simp only [Option.some.injEq] at hb; subst hb
  exact hr _
theorem buildSlice_zip [tI : Tst] (hC : RowsOK P C) (sim : Sim base w0 E S w) {t e : TypeId} {n : Nat} {ps : Array (Nat × Operand)} {vs : List V} {q : Operand → Value} (hr : RepVs E vs (ps.toList.map fun (_, x) => q x)) {id : Nat} (hid : ¬ E.live id ∧ id < S.length)
    (ht : (C.row t).td = .slice e) (hn : ps.size = n ∧ n * (C.row e).size ≤ 16777216) {xs : List (C.row e).ty.den} (hx : elemsV (C.row e).ty 0 ((ps.toList.map (·.1)).zip vs) = some xs) :
    ∃ z w' E', (Instr.buildSlice t n (ps.map fun (i, x) => (i, q x))).run P w = .ok z w' ∧ E.Le E' ∧ Sim base w0 E' (S.set id (.lit (List.length xs))) w' ∧ RepV E' (.own id (C.row e).ty xs) z ∧ ∀ o, E'.live o → E.live o ∨ o = id := by
  have hl := hr.length
  rw [List.length_map] at hl
  refine buildSlice_gen hC sim ?_ ?_ hid ht hn hx
  · rw [List.map_fst_zip]; rw [List.length_map]; omega
  · intro i a b ha hb
    rw [List.getElem?_zip_eq_some] at ha
    have h2 : (ps.toList.map fun (_, x) => q x)[i]? = some (q b.2) := by rw [List.getElem?_map, hb]; rfl
    have := RepVs.get i hr h2
    rw [look_eq, List.getD_eq_getElem?_getD, ha.2] at this
    exact this

def RepO (E : Env) : Option V → Option Value → Prop
  | none, none => True
  | some v, some u => RepV E v u
  | _, _ => False
theorem bounds_ok [tI : Tst] {n : Nat} {lo hi mx : Option V} {lo' hi' mx' : Option Value} {g : Bool} {a b : Nat} {m : Option Nat} (h : boundsV n lo hi mx = some (g, a, b, m)) (hg : g = true) (h1 : RepO E lo lo') (h2 : RepO E hi hi') (h3 : RepO E mx mx') (sl : Bool) {c : Nat} (hc : n ≤ c) :
    (Instr.sliceBounds sl n c lo' hi' mx').run P w = .ok (a, b, m.getD c) w ∧ a ≤ b ∧ b ≤ n ∧ b ≤ m.getD c ∧ m.getD c ≤ c ∧ (mx = none → m = none) := by
  have num : ∀ {v : Option V} {z : Int} {x : Int}, (match v with | none => some z | some (.d (.it _) a) => some a | _ => none) = some x → (v = none ∧ x = z) ∨ ∃ k, v = some (.d (.it k) x) := by
    intro v z x hv
    split at hv
    · simp only [Option.some.injEq] at hv; exact .inl ⟨rfl, hv.symm⟩
    · simp only [Option.some.injEq] at hv; subst hv; exact .inr ⟨_, rfl⟩
    · simp at hv
  simp only [boundsV, Option.bind_eq_some_iff] at h
  obtain ⟨x, hx, y, hy, h⟩ := h
  have low : ∀ (y : Int) (m : Nat) (code : BoundsCode), (lo = none ∧ y = 0 ∨ ∃ k, lo = some (.d (.it k) y)) → 0 ≤ y → y ≤ (m : Int) →
      (match lo' with | some v => Instr.sliceBound v m code | none => pure 0 : Sem Nat).run P w = .ok y.toNat w := by
    intro y m code hl h0 hm
    rcases hl with ⟨rfl, rfl⟩ | ⟨k, rfl⟩
    · cases lo' with
      | none => simp
      | some u => simp [RepO] at h1
    · cases lo' with
      | none => simp [RepO] at h1
      | some u =>
        obtain ⟨rfl, -⟩ := rep_int_iff.1 h1
        simp [run_sliceBound, h0, hm]
  cases mx with
  | none =>
    cases mx' with
    | some u => simp [RepO] at h3
    | none =>
    simp only [Option.some.injEq, Prod.mk.injEq] at h
    obtain ⟨rfl, rfl, rfl, rfl⟩ := h
    simp only [Bool.and_eq_true, tst_iff] at hg
    obtain ⟨⟨g1, g2⟩, g3⟩ := hg
    refine ⟨?_, by omega, by omega, by simp; omega, by simp, fun _ => rfl⟩
    rcases num hx with ⟨rfl, rfl⟩ | ⟨k, rfl⟩
    · cases hi' with
      | some u => simp [RepO] at h2
      | none =>
      have := low y n .sliceB (num hy) g1 g2
      simp only [Instr.sliceBounds, Sem.run_bind, Sem.run_pure, Result.andThen_ok, Option.isSome_none, Bool.false_eq_true, if_false]
      cases lo' <;> simp_all
    · cases hi' with
      | none => simp [RepO] at h2
      | some u =>
      obtain ⟨rfl, -⟩ := rep_int_iff.1 h2
      have hb : ∀ code, (Instr.sliceBound (.int k x) c code).run P w = .ok x.toNat w := fun code => run_sliceBound w k x c code (by omega) (by omega)
      have hl := low y x.toNat .sliceB (num hy) g1 (by omega)
      simp only [Instr.sliceBounds, Sem.run_bind, Sem.run_pure, Result.andThen_ok, Option.isSome_none, Bool.false_eq_true, if_false, hb]
      cases lo' <;> simp_all
  | some mv =>
    cases mx' with
    | none => simp [RepO] at h3
    | some mu =>
    simp only [] at h
    split at h
    · simp at h
    rename_i hhi
    simp only [Option.map_eq_some_iff] at h
    obtain ⟨z, hz, h⟩ := h
    simp only [Prod.mk.injEq] at h
    obtain ⟨rfl, rfl, rfl, rfl⟩ := h
    simp only [Bool.and_eq_true, tst_iff] at hg
    obtain ⟨⟨⟨g1, g2⟩, g3⟩, g4⟩ := hg
    obtain ⟨km, hkm⟩ : ∃ k, mv = .d (.it k) z := by
      rcases num hz with ⟨hh, _⟩ | ⟨k, hk⟩
      · simp at hh
      · exact ⟨k, by simpa using hk⟩
    subst hkm
    obtain ⟨rfl, -⟩ := rep_int_iff.1 h3
    refine ⟨?_, by omega, by omega, by simp; omega, by simp; omega, fun h => by simp at h⟩
    have hm : ∀ code, (Instr.sliceBound (.int km z) c code).run P w = .ok z.toNat w := fun code => run_sliceBound w km z c code (by omega) (by omega)
    rcases num hx with ⟨rfl, rfl⟩ | ⟨k, rfl⟩
    · simp at hhi
    · cases hi' with
      | none => simp [RepO] at h2
      | some u =>
      obtain ⟨rfl, -⟩ := rep_int_iff.1 h2
      have hb : ∀ code, (Instr.sliceBound (.int k x) z.toNat code).run P w = .ok x.toNat w := fun code => run_sliceBound w k x _ code (by omega) (by omega)
      have hl := low y x.toNat .slice3C (num hy) g1 (by omega)
      simp only [Instr.sliceBounds, Sem.run_bind, Sem.run_pure, Result.andThen_ok, Option.isSome_some, if_true, hm, hb]
      cases lo' <;> simp_all
end
end Go.Proofs.Ytmpmmfbgdpfnpaa.Ev
/- One operation after the other, continued: slices of slices, append. -/
namespace Go.Proofs.Ytmpmmfbgdpfnpaa.Ev
open Go Go.RowKit
set_option linter.unusedVariables false
set_option linter.unusedSimpArgs false

section
variable {P : Program} {C : Ctx} {E : Env} {w w0 : World} {base : Nat} {S : List Ent}

/-- a slice that has no room behind it -/
theorem Sim.capfam [tI : Tst] (sim : Sim base w0 E S w) {id : Nat} (hid : ¬ E.live id ∧ id < S.length) {t : Ty} {xs : List t.den} {a : Option Addr} (hr : RepL E.m (.li t) xs [.slice a (List.length xs) (List.length xs)]) :
    ∃ E', E.Le E' ∧ Sim base w0 E' (S.set id (.fam (List.length xs))) w ∧ RepV E' (.own id t xs) (.slice a (List.length xs) (List.length xs)) ∧ ∀ o, E'.live o → E.live o ∨ o = id := by
  have hle := Env.le_add hid.1 0 t.size (.slice a (List.length xs) (List.length xs)) (List.length xs) none
  refine ⟨_, hle, ?_, ?_, ?_⟩
  · refine sim.made (Wider.refl w) hle (fun i => i = id) _ (by rw [List.length_set]) ?_ (fun _ _ _ => rfl) sim.mem ?_ ?_ ?_ ?_
    · intro i hi
      exact ⟨ent_set_ne _ hi, fun l => ⟨if_neg (h := instDecidableEqNat i id) hi, if_neg (h := instDecidableEqNat i id) hi⟩⟩
    · rintro i rfl
      rw [ent_set_same _ hid.2]
      refine ⟨.inl rfl, by simp [Env.add], ?_⟩
      unfold FamOK
      simp [Env.add]
    · rintro i B rfl hb
      rw [ent_set_same _ hid.2] at hb
      simp [owns, Env.add] at hb
    · rintro i i' B rfl rfl hne; exact absurd rfl hne
    · rintro i (rfl | l)
      · exact .inr hid.2
      · exact .inl l
  · simp only [RepV, Env.add, if_true]
    exact ⟨repl_sub.1 hr, .inl trivial, trivial, Nat.le_refl _, fun _ => trivial⟩
  · rintro i (rfl | l)
    · exact .inr rfl
    · exact .inl l

theorem repL_sub {m : Mem} {t : Ty} {xs : List t.den} {a : Option Addr} {c : Nat} (h : RepL m (.li t) xs [.slice a (List.length xs) c]) {l b m' : Nat} (h1 : l ≤ b) (h2 : b ≤ List.length xs) (h3 : b ≤ m') (h4 : m' ≤ c) :
    RepL m (.li t) ((List.take b xs).drop l) [.slice (if m' = l then a else a.map (·.add (l * t.size))) (b - l) (m' - l)] := by
  obtain ⟨a', c', hu, k1, k2, k3, k4⟩ := h
  simp only [List.cons.injEq, Value.slice.injEq, true_and, and_true] at hu
  obtain ⟨rfl, rfl⟩ := hu
  have hlen : ((List.take b xs).drop l).length = b - l := by rw [List.length_drop, List.length_take]; omega
  have hz : ∀ A : Option Addr, m' = l → (A = none → c = 0 ∧ List.length xs = 0) → RepL m (.li t) ((List.take b xs).drop l) [.slice A (b - l) (m' - l)] := by
    intro A hml hn
    refine ⟨A, m' - l, by rw [hlen], by omega, by omega, by simp only [maxLen] at *; omega, ?_⟩
    cases A with
    | none => have := hn rfl; exact ⟨by omega, by omega⟩
    | some ad => exact ⟨fun h => by omega, fun i hi => by omega⟩
  by_cases hml : m' = l
  · rw [if_pos hml]
    refine hz a hml (fun e => ?_)
    subst e; exact ⟨k4.2, k4.1⟩
  · rw [if_neg hml]
    cases a with
    | none =>
      have : List.length xs = 0 := k4.1
      have : c = 0 := k4.2
      omega
    | some ad =>
      obtain ⟨bb, oo, ss⟩ := ad
      obtain ⟨k5, k6⟩ := k4
      have k5 := k5 (by omega)
      simp only at k5; subst k5
      refine ⟨_, m' - l, by rw [hlen], by omega, by omega, by simp only [maxLen] at *; omega, ?_⟩
      simp only [Option.map_some, Addr.add_lit]
      refine ⟨fun _ => trivial, fun i hi => ?_⟩
      rw [hlen] at hi
      obtain ⟨vs, k7, k8⟩ := k6 (l + i) (by omega)
      refine ⟨vs, by rw [Nat.add_assoc, ← Nat.add_mul]; exact k7, ?_⟩
      have : ((List.take b xs).drop l)[i]'(by rw [hlen]; exact hi) = xs[l + i] := by simp only [List.getElem_drop, List.getElem_take]
      rw [this]; exact k8

theorem list_slice {m : Mem} {t : Ty} {xs : List t.den} {u : Value} (h : RepL m (.li t) xs [u]) : ∃ a c, u = .slice a (List.length xs) c ∧ List.length xs ≤ c := by
  obtain ⟨a, c, hu, k1, _⟩ := h
  simp only [List.cons.injEq, and_true] at hu
  exact ⟨a, c, hu, k1⟩

theorem slice_ok [tI : Tst] (hC : RowsOK P C) (sim : Sim base w0 E S w) {t : TypeId} {id : Nat} {x v : V} {lo hi mx : Option V} {lo' hi' mx' : Option Value} {u : Value} {us : List (Nat × Ent)} {g : Bool} (h : sliceV C id t x lo hi mx = some (g, v, us)) (hg : g = true) (hx : RepV E x u)
    (h1 : RepO E lo lo') (h2 : RepO E hi hi') (h3 : RepO E mx mx') (hid : mx.isSome = true → ¬ E.live id ∧ id < S.length) :
    ∃ z E', (Instr.sliceAt t u lo' hi' mx').run P w = .ok z w ∧ E.Le E' ∧ Sim base w0 E' (sets S us) w ∧ RepV E' v z ∧ ∀ o, E'.live o → E.live o ∨ (mx.isSome = true ∧ o = id) := by
  have tdcase : ∀ {s : Ty} {xs : List s.den}, RepL E.m (.li s) xs [u] → ∀ {e : TypeId}, (C.row t).td = .slice e → (C.row e).size = s.size →
      (boundsV xs.length lo hi mx).map (fun (g, a, b, m) => match m with
        | none => (g, V.d (.li s) ((List.take b xs).drop a), ([] : List (Nat × Ent)))
        | some m => (g && tst (m = b), V.own id s ((List.take b xs).drop a), [(id, Ent.fam (List.length ((List.take b xs).drop a)))])) = some (g, v, us) →
      ∃ z E', (Instr.sliceAt t u lo' hi' mx').run P w = .ok z w ∧ E.Le E' ∧ Sim base w0 E' (sets S us) w ∧ RepV E' v z ∧ ∀ o, E'.live o → E.live o ∨ (mx.isSome = true ∧ o = id) := by
    intro s xs hr e ht hsz hb
    obtain ⟨hu, -, -, he, hpos⟩ := hC.slice ht
    have hes := size_pos_info (P := P) (w := w) hC he
    simp only [Option.map_eq_some_iff] at hb
    obtain ⟨⟨g', a, b, m⟩, hbd, hb⟩ := hb
    obtain ⟨ad, c, rfl, hc⟩ := list_slice hr
    have run : g' = true → (Instr.sliceAt t (.slice ad (List.length xs) c) lo' hi' mx').run P w = .ok (.slice (if m.getD c = a then ad else ad.map (·.add (a * s.size))) (b - a) (m.getD c - a)) w := by
      intro hg'
      obtain ⟨k1, -⟩ := bounds_ok (P := P) (w := w) hbd hg' h1 h2 h3 true hc
      simp only [Instr.sliceAt, Instr.slice, Sem.run_bind, run_underlying hu, Result.andThen_ok, k1, hes, Sem.run_pure, hsz]
    cases m with
    | none =>
      simp only [Prod.mk.injEq] at hb
      obtain ⟨rfl, rfl, rfl⟩ := hb
      obtain ⟨-, k2, k3, k4, k5, k6⟩ := bounds_ok (P := P) (w := w) hbd hg h1 h2 h3 true hc
      exact ⟨_, E, run hg, Env.Le.refl E, sim, rep_li_iff.2 (repL_sub hr k2 k3 k4 k5), fun o l => .inl l⟩
    | some m =>
      simp only [Prod.mk.injEq] at hb
      obtain ⟨rfl, rfl, rfl⟩ := hb
      simp only [Bool.and_eq_true, tst_iff] at hg
      obtain ⟨hg, rfl⟩ := hg
      obtain ⟨-, k2, k3, k4, k5, k6⟩ := bounds_ok (P := P) (w := w) hbd hg h1 h2 h3 true hc
      have hmx : mx.isSome = true := by
        cases mx with
        | none => simp at k6
        | some _ => rfl
      have hrs := repL_sub hr k2 k3 k4 k5
      have hl : ((List.take m xs).drop a).length = m - a := by rw [List.length_drop, List.length_take]; omega
      have hrs' := hrs
      simp only [Option.getD_some] at hrs'
      rw [← hl] at hrs'
      obtain ⟨E', l1, l2, l3, l4⟩ := sim.capfam (hid hmx) hrs'
      refine ⟨_, E', run hg, l1, ?_, ?_, fun o l => (l4 o l).imp_right fun h => ⟨hmx, h⟩⟩
      · exact l2
      · rw [hl] at l3; exact l3
  unfold sliceV at h
  split at h
  · rename_i l
    split at h
    case h_2 => simp at h
    rename_i ht
    split at h
    case isFalse => simp at h
    rename_i hmx
    obtain rfl : mx = none := by simpa using hmx
    simp only [Option.map_eq_some_iff] at h
    obtain ⟨⟨g', a, b, m⟩, hbd, h⟩ := h
    simp only [Prod.mk.injEq] at h
    obtain ⟨rfl, rfl, rfl⟩ := h
    obtain ⟨s, rfl, rfl, hs⟩ := rep_str_iff.1 hx
    have hlen : (strInts s).length = s.size := by simp [strInts]
    cases mx' with
    | some _ => simp [RepO] at h3
    | none =>
    rw [hlen] at hbd
    obtain ⟨k1, k2, k3, k4, k5, k6⟩ := bounds_ok (P := P) (w := w) hbd hg h1 h2 h3 false (Nat.le_refl _)
    obtain rfl := k6 rfl
    refine ⟨.string (s.extract a b), E, ?_, Env.Le.refl E, sim, rep_str_iff.2 ⟨_, rfl, ?_, ?_⟩, fun o l => .inl l⟩
    · simp [Instr.sliceAt, Instr.slice, run_underlying (hC.str ht), k1]
    · simp only [strInts, ByteArray.data_extract, Array.toList_extract, List.extract_eq_take_drop, List.drop_take, List.map_take, List.map_drop]
    · rw [ByteArray.size_extract]; omega
  · rename_i o k off n z c
    split at h
    case h_2 => simp at h
    rename_i e ht
    split at h
    case isFalse => simp at h
    rename_i hc
    obtain ⟨hu, -, -, he, hpos⟩ := hC.slice ht
    have hes := size_pos_info (P := P) (w := w) hC he
    simp only [Option.map_eq_some_iff] at h
    obtain ⟨⟨g', a, b, m⟩, hbd, h⟩ := h
    simp only [RepV] at hx
    obtain ⟨l1, l2, l3, l4, ad, cp, rfl, l5, l6, l7, l8⟩ := hx
    have hlow : lo = none → a = 0 := by
      rintro rfl
      simp only [boundsV, Option.bind_eq_some_iff] at hbd
      obtain ⟨_, _, l, hl, hbd⟩ := hbd
      simp only [Option.some.injEq] at hl; subst hl
      cases mx with
      | none => simp only [Option.some.injEq, Prod.mk.injEq] at hbd; exact hbd.2.1.symm
      | some mv =>
        simp only at hbd
        split at hbd
        · simp at hbd
        · simp only [Option.map_eq_some_iff, Prod.mk.injEq] at hbd
          obtain ⟨_, _, _, h, _⟩ := hbd
          exact h.symm
    have hhi : hi = none → b = n := by
      rintro rfl
      simp only [boundsV, Option.bind_eq_some_iff] at hbd
      obtain ⟨_, hh, l, hl, hbd⟩ := hbd
      simp only [Option.some.injEq] at hh; subst hh
      cases mx with
      | none => simp only [Option.some.injEq, Prod.mk.injEq] at hbd; rw [← hbd.2.2.1]; simp
      | some mv =>
        simp at hbd
    have hxc : ∀ (plc : Value), Win plc off z c ad n cp → c = .exact → n = cp ∨ (n = 0 ∧ cp = 0) := by
      rintro plc hw rfl
      unfold Win at hw
      split at hw
      · obtain ⟨_, _, _, _, hw⟩ := hw; exact .inl hw.symm
      · exact .inr ⟨hw.2.1, hw.2.2.1⟩
      · exact hw.elim
    have fin : ∀ (gb : Bool) (c' : SCap), gb = true → boundsV n lo hi mx = some (gb, a, b, m) → (∀ plc, Win plc off z c ad n cp → m.getD cp ≤ cp → (c' = SCap.unk ∨ (c' = .exact ∧ b = m.getD cp) ∨ (c' = .full ∧ c = .full ∧ a = 0 ∧ m.getD cp = cp))) →
        ∃ z1 E', (Instr.sliceAt t (.slice ad n cp) lo' hi' mx').run P w = .ok z1 w ∧ E.Le E' ∧ Sim base w0 E' (sets S []) w ∧ RepV E' (.sr o k (off + a) (b - a) z c') z1 ∧ ∀ o, E'.live o → E.live o ∨ (mx.isSome = true ∧ o = id) := by
      intro gb c' hgb hbd' hcc
      obtain ⟨k1, k2, k3, k4, k5, k6⟩ := bounds_ok (P := P) (w := w) hbd' hgb h1 h2 h3 true l5
      refine ⟨.slice (if m.getD cp = a then ad else ad.map (·.add (a * (C.row e).size))) (b - a) (m.getD cp - a), E, ?_, Env.Le.refl E, sim, ?_, fun o l => .inl l⟩
      · simp only [Instr.sliceAt, Instr.slice, Sem.run_bind, run_underlying hu, Result.andThen_ok, k1, hes, Sem.run_pure]
      · simp only [RepV]
        refine ⟨l1, l2, l3, by omega, _, _, rfl, by omega, by omega, fun h0 => ?_, fun e => ?_⟩
        · rw [if_neg (by omega)]
          obtain ⟨p, rfl, hp⟩ := l7 (by omega)
          exact ⟨_, rfl, by show (Addr.add _ _).spot = none; unfold Addr.add; split <;> first | exact hp | rfl⟩
        · rw [hc]
          exact (l8 e).sub k2 k4 k5 _ (hcc _ (l8 e) k5)
    cases m with
    | none =>
      simp only [Prod.mk.injEq] at h
      obtain ⟨rfl, rfl, rfl⟩ := h
      refine fin _ _ hg hbd ?_
      intro plc hw hmc
      split
      · exact .inr (.inr ⟨rfl, rfl, hlow rfl, rfl⟩)
      · split
        · right; left
          refine ⟨rfl, ?_⟩
          have := hhi rfl
          rcases hxc plc hw rfl with h | h <;> simp only [Option.getD_none] <;> omega
        · exact .inl rfl
      · exact .inl rfl
    | some m =>
      simp only [Prod.mk.injEq] at h
      obtain ⟨rfl, rfl, rfl⟩ := h
      simp only [Bool.and_eq_true, tst_iff] at hg
      refine fin _ _ hg.1 hbd ?_
      intro plc hw hmc
      exact .inr (.inl ⟨rfl, hg.2.symm⟩)
  · split at h
    case h_2 => simp at h
    rename_i e ht
    obtain ⟨hu, -, -, he, hpos⟩ := hC.slice ht
    have hes := size_pos_info (P := P) (w := w) hC he
    simp only [Option.map_eq_some_iff] at h
    obtain ⟨⟨g', a, b, m⟩, hbd, h⟩ := h
    simp only [Prod.mk.injEq] at h
    obtain ⟨rfl, rfl, rfl⟩ := h
    obtain ⟨k1, k2, k3, k4, k5, k6⟩ := bounds_ok (P := P) (w := w) hbd hg h1 h2 h3 true (Nat.le_refl _)
    simp only [RepV] at hx; subst hx
    refine ⟨.slice (if m.getD 0 = a then none else (none : Option Addr).map (·.add (a * (C.row e).size))) (b - a) (m.getD 0 - a), E, ?_, Env.Le.refl E, sim, ?_, fun o l => .inl l⟩
    · simp only [Instr.sliceAt, Instr.slice, Sem.run_bind, run_underlying hu, Result.andThen_ok, k1, hes, Sem.run_pure]
    · simp only [RepV]
      have e1 : b - a = 0 := by omega
      have e2 : m.getD 0 - a = 0 := by omega
      rw [e1, e2]
      split <;> rfl
  · split at h
    case h_2 => simp at h
    rename_i e ht
    simp only [Option.bind_eq_some_iff] at h
    obtain ⟨⟨s, xs⟩, hl, h⟩ := h
    simp only at h
    split at h
    case isFalse => simp at h
    rename_i hsz
    exact tdcase (listRep hl hx) ht hsz h

/-! ### append -/
theorem run_app_room {st xt tt e : TypeId} {dx : TypeDesc} (ht : P.underlying st = some (.slice e)) (hx : P.underlying xt = some dx) (hdx : ∀ k, dx ≠ .int k) {size : Nat} (hs : ∀ w, (sizeOf e).run P w = .ok size w)
    {x : Value} {m : Nat} {news : List Value} (hl : (Builtin.lenOf x).run P w = .ok m w) (hf : (Builtin.firstCells size m x).run P w = .ok news.toArray w)
    {g n cap : Nat} {cur : Array Value} {ty : TypeId} (hg : w.heap[g]? = some (.cells cur ty (0, 0))) (hroom : n + m ≤ cap) (h1 : ∀ u ∈ news, u.oneCell' = true) (hfit : n * size + news.length ≤ cur.size) :
    (Builtin.append_ #[st, xt] tt #[.slice (some ⟨g, 0, none⟩) n cap, x]).run P w =
      .ok (.slice (some ⟨g, 0, none⟩) (n + m) cap) (w.setRow g (cur.toList.take (n * size) ++ news ++ cur.toList.drop (n * size + news.length)).toArray) := by
  have hst := run_storeCells_at P g (n * size) ty news 0 cur w hg (by simpa using hfit) h1
  simp only [Nat.add_zero] at hst
  have hz : (match dx with | .int _ => true | _ => false) = false := by cases dx with | int k => exact absurd rfl (hdx k) | _ => rfl
  simp [Builtin.append_, run_underlying ht, run_underlying hx, hs, hz, hl, hroom, hf, Addr.add_lit, hst]

theorem run_app_none {st xt tt e : TypeId} {dx : TypeDesc} (ht : P.underlying st = some (.slice e)) (hx : P.underlying xt = some dx) (hdx : ∀ k, dx ≠ .int k) {size : Nat} (hs : ∀ w, (sizeOf e).run P w = .ok size w)
    {x : Value} (hl : (Builtin.lenOf x).run P w = .ok 0 w) (hf : (Builtin.firstCells size 0 x).run P w = .ok #[] w) {a : Option Addr} {n cap : Nat} (hroom : n ≤ cap) :
    (Builtin.append_ #[st, xt] tt #[.slice a n cap, x]).run P w = .ok (.slice a n cap) w := by
  have hz : (match dx with | .int _ => true | _ => false) = false := by cases dx with | int k => exact absurd rfl (hdx k) | _ => rfl
  cases a <;> simp [Builtin.append_, run_underlying ht, run_underlying hx, hs, hz, hl, hroom, hf, storeCells]

theorem run_app_grow {st xt tt e : TypeId} {dx : TypeDesc} (ht : P.underlying st = some (.slice e)) (hx : P.underlying xt = some dx) (hdx : ∀ k, dx ≠ .int k) {size : Nat} (hs : ∀ w, (sizeOf e).run P w = .ok size w)
    {i : TypeInfo} {z : Value} (hi : P.info? e = some i) (hz : i.zero = some z)
    {x : Value} {m : Nat} {olds news : List Value} (hl : (Builtin.lenOf x).run P w = .ok m w) {a : Option Addr} {n cap : Nat} (hfo : (Builtin.firstCells size n (.slice a n cap)).run P w.drew = .ok olds.toArray w.drew) (hf : (Builtin.firstCells size m x).run P w.drew = .ok news.toArray w.drew)
    (hg : cap < n + m) (h63 : n + m ≤ 9223372036854775807) (hfit : Builtin.nextslicecap (n + m) cap * i.bytes ≤ 281474976710656) :
    (Builtin.append_ #[st, xt] tt #[.slice a n cap, x]).run P w =
      .ok (.slice (some ⟨w.heap.size, 0, none⟩) (n + m) (grownCap w (n + m) cap e)) (w.drew.alloc (.cells (olds ++ news ++ (Builtin.zeroCells z.cells (grownCap w (n + m) cap e - (n + m))).toList).toArray e)) := by
  have hn : ¬ (n + m ≤ cap) := by omega
  have h63' : ¬ (9223372036854775807 < ((n : Int) + (m : Int))) := by omega
  have h48' : ¬ (281474976710656 < Builtin.nextslicecap (n + m) cap * i.bytes) := by omega
  have hzz : (match dx with | .int _ => true | _ => false) = false := by cases dx with | int k => exact absurd rfl (hdx k) | _ => rfl
  simp [Builtin.append_, run_underlying ht, run_underlying hx, hs, hzz, hl, typeInfo, zeroValue, hi, hz, hn, h63', h48', Question.forced, hf, hfo, newRow, grownCap]
  congr 2
  apply Array.ext'
  simp
end
end Go.Proofs.Ytmpmmfbgdpfnpaa.Ev
/- One operation after the other, continued: append. -/
namespace Go.Proofs.Ytmpmmfbgdpfnpaa.Ev
open Go Go.RowKit
set_option linter.unusedVariables false
set_option linter.unusedSimpArgs false

section
variable {P : Program} {C : Ctx} {E : Env} {w w0 : World} {base : Nat} {S : List Ent}

/-- what is appended: its cells, and how an append of it runs -/
structure AppArg (P : Program) (C : Ctx) (E : Env) (w : World) (st xt tt e : TypeId) (x : Value) (t : Ty) (ys : List t.den) (news : List Value) : Prop where
  nlen : news.length = List.length ys * t.size
  one : ∀ u ∈ news, u.oneCell' = true
  el : ∀ i (h : i < List.length ys), RepL E.m t ys[i] ((news.drop (i * t.size)).take t.size)
  nul : List.length ys = 0 → ∀ a n cap, n ≤ cap → (Builtin.append_ #[st, xt] tt #[.slice a n cap, x]).run P w = .ok (.slice a n cap) w
  room : ∀ g n cap (cur : Array Value) ty, w.heap[g]? = some (.cells cur ty (0, 0)) → n + List.length ys ≤ cap → n * t.size + news.length ≤ cur.size →
    (Builtin.append_ #[st, xt] tt #[.slice (some ⟨g, 0, none⟩) n cap, x]).run P w = .ok (.slice (some ⟨g, 0, none⟩) (n + List.length ys) cap) (w.setRow g (cur.toList.take (n * t.size) ++ news ++ cur.toList.drop (n * t.size + news.length)).toArray)
  grow : ∀ a n cap (olds : List Value), (Builtin.firstCells t.size n (.slice a n cap)).run P w.drew = .ok olds.toArray w.drew → cap < n + List.length ys → n + List.length ys ≤ 9223372036854775807 → (n + List.length ys) * (C.row e).bytes ≤ 140737488355328 →
    ∃ rest : List Value, rest.length = (grownCap w (n + List.length ys) cap e - (n + List.length ys)) * t.size ∧
    (Builtin.append_ #[st, xt] tt #[.slice a n cap, x]).run P w = .ok (.slice (some ⟨w.heap.size, 0, none⟩) (n + List.length ys) (grownCap w (n + List.length ys) cap e)) (w.drew.alloc (.cells (olds ++ news ++ rest).toArray e))

theorem appArg_of [tI : Tst] (hC : RowsOK P C) {st xt tt e : TypeId} (hst : (C.row st).td = .slice e) {x : Value} {dx : TypeDesc} (hx : P.underlying xt = some dx) (hdx : ∀ k, dx ≠ .int k) {ys : List (C.row e).ty.den} {news : List Value}
    (hl : ∀ w, (Builtin.lenOf x).run P w = .ok (List.length ys) w) (hf : ∀ w', w'.heap = w.heap → (Builtin.firstCells (C.row e).size (List.length ys) x).run P w' = .ok news.toArray w')
    (h1 : news.length = List.length ys * (C.row e).ty.size) (h2 : ∀ u ∈ news, u.oneCell' = true) (h3 : ∀ i (h : i < List.length ys), RepL E.m (C.row e).ty ys[i] ((news.drop (i * (C.row e).ty.size)).take (C.row e).ty.size)) :
    AppArg P C E w st xt tt e x (C.row e).ty ys news := by
  obtain ⟨hu, -, -, he, hpos⟩ := hC.slice hst
  have hsz := (hC.row he).size
  obtain ⟨i, z, i1, i2, i3, i4, i5⟩ := (hC.row he).info
  have hs : ∀ w, (sizeOf e).run P w = .ok (C.row e).size w := fun w => size_pos_info hC he
  have hzl : z.cells.size = (C.row e).size := by
    have := (zeros_rep (E := E) _ _ i5).1.length
    have hc := (hC.row he).cells
    simp at this; omega
  refine ⟨h1, h2, h3, ?_, ?_, ?_⟩
  · intro h0 a n cap hn
    have hnil : news = [] := List.eq_nil_of_length_eq_zero (by rw [h1, h0, Nat.zero_mul])
    exact run_app_none hu hx hdx hs (by rw [hl, h0]) (by have := hf w rfl; rw [h0, hnil] at this; exact this) hn
  · intro g n cap cur ty hg hroom hfit
    have := run_app_room (P := P) (w := w) (tt := tt) hu hx hdx hs (hl w) (hf w rfl) hg hroom h2 (by rw [← hsz]; exact hfit)
    rw [← hsz] at this
    exact this
  · intro a n cap olds hfo hg h63 hb
    refine ⟨_, ?_, run_app_grow (P := P) (w := w) (tt := tt) hu hx hdx hs i1 i4 (hl w) (by rw [← hsz]; exact hfo) (hf w.drew rfl) hg h63 ?_⟩
    · simp [Builtin.zeroCells, hzl, hsz]
    · rw [i3]; exact growslice_fits hg hb

theorem appArg_of' [tI : Tst] (hC : RowsOK P C) {st xt tt e : TypeId} (hst : (C.row st).td = .slice e) {t : Ty} (ht : (C.row e).ty = t) {x : Value} {dx : TypeDesc} (hx : P.underlying xt = some dx) (hdx : ∀ k, dx ≠ .int k) {ys : List t.den} {news : List Value}
    (hl : ∀ w, (Builtin.lenOf x).run P w = .ok (List.length ys) w) (hf : ∀ w', w'.heap = w.heap → (Builtin.firstCells (C.row e).size (List.length ys) x).run P w' = .ok news.toArray w')
    (h1 : news.length = List.length ys * t.size) (h2 : ∀ u ∈ news, u.oneCell' = true) (h3 : ∀ i (h : i < List.length ys), RepL E.m t ys[i] ((news.drop (i * t.size)).take t.size)) :
    AppArg P C E w st xt tt e x t ys news := by
  subst ht; exact appArg_of hC hst hx hdx hl hf h1 h2 h3
theorem appArg_slice [tI : Tst] (hC : RowsOK P C) (hm : E.m.lies w) {st xt tt e f : TypeId} (hst : (C.row st).td = .slice e) (hxt : (C.row xt).td = .slice f) {x : V} {u : Value} {ys : List (C.row e).ty.den} (hx : RepV E x u) (ha : asT (.li (C.row e).ty) x = some ys) :
    ∃ news, AppArg P C E w st xt tt e u (C.row e).ty ys news ∧ List.length ys ≤ maxL := by
  obtain ⟨hu, -, -, he, hpos⟩ := hC.slice hst
  have hsz := (hC.row he).size
  obtain ⟨a, c, hu', k1, k2, k3, k4⟩ := asT_one (t := .li (C.row e).ty) rfl ha hx
  simp only [List.cons.injEq, and_true] at hu'
  subst hu'
  cases a with
  | none =>
    have h0 : List.length ys = 0 := k4.1
    refine ⟨[], appArg_of hC hst (hC.slice hxt).1 (by simp) (fun w => by simp [Builtin.lenOf]) (fun w' _ => by simp [Builtin.firstCells]) (by rw [h0]; simp) (by simp) (by intro i hi; omega), k2⟩
  | some ad =>
    obtain ⟨us, l1, l2, l3, l4⟩ := elem_cells k4.2 (List.length ys) (Nat.le_refl _)
    refine ⟨us, appArg_of hC hst (hC.slice hxt).1 (by simp) (fun w => by simp [Builtin.lenOf]) (fun w' hw => ?_) l1 l3 (fun i hi => l4 i hi hi), k2⟩
    have := run_loadCells_list (P := P) w' ad us (by
      intro j v hv
      have := lies_cell' hm (fun hl => k4.1 (by rcases Nat.eq_zero_or_pos (List.length ys) with h | h; (rw [l1, h] at hl; simp at hl); omega)) l2 j v hv
      unfold World.cell? at this ⊢
      rw [hw]; exact this)
    simp only [Builtin.firstCells]
    rw [← hsz, ← l1]
    exact this

/-- a family goes on -/
theorem Sim.append [tI : Tst] (sim : Sim base w0 E S w) {o : Nat} {t : Ty} {xs ys : List t.den} {u : Value} (hx : RepV E (.own o t xs) u) (hent : ent S o = .fam (List.length xs)) {st xt tt e : TypeId} {x : Value} {news : List Value}
    (arg : AppArg P C E w st xt tt e x t ys news) (hb : (List.length xs + List.length ys) * (C.row e).bytes ≤ 140737488355328) (hmax : List.length xs + List.length ys ≤ maxL) :
    ∃ z w' E', (Builtin.append_ #[st, xt] tt #[u, x]).run P w = .ok z w' ∧ E.Le E' ∧ Sim base w0 E' (S.set o (.fam (List.length xs + List.length ys))) w' ∧ RepV E' (.own o t (xs ++ ys)) z ∧ ∀ i, E'.live i → E.live i := by
  have he := sim.ents o
  rw [hent] at he
  obtain ⟨e1, e2, e3⟩ := he
  simp only [RepV] at hx
  obtain ⟨hr, -, hsz, hle, hplc⟩ := hx
  have hu := hplc e2
  have hlt := sim.lt o e1
  have hr' := repl_sub.2 hr
  obtain ⟨a, c, hua, k1, k2, k3, k4⟩ := id hr'
  simp only [List.cons.injEq, and_true] at hua
  by_cases hm0 : List.length ys = 0
  · have hys : ys = [] := List.eq_nil_of_length_eq_zero hm0
    subst hys
    refine ⟨u, w, E, by rw [hua]; exact arg.nul hm0 _ _ _ k1, Env.Le.refl E, ?_, by simp only [List.append_nil, RepV]; exact ⟨hr, e1, hsz, hle, hplc⟩, fun _ l => l⟩
    have hS : S.set o (.fam (List.length xs + 0)) = S := by
      apply List.ext_getElem?
      intro i
      rw [List.getElem?_set]
      split
      · rename_i hi; subst hi
        have := hent
        rw [ent_eq, List.getD_eq_getElem?_getD, List.getElem?_eq_getElem hlt] at this
        rw [List.getElem?_eq_getElem hlt]
        simp only [Option.getD_some] at this
        rw [this, Nat.add_zero]
      · rfl
    rw [show List.length ([] : List t.den) = 0 from rfl, hS]
    exact sim
  unfold FamOK at e3
  have hlen : (xs ++ ys).length = List.length xs + List.length ys := List.length_append
  -- the cells that are there
  have holds : ∃ olds : List Value, olds.length = List.length xs * t.size ∧ (∀ w', w'.heap = w.heap → (Builtin.firstCells t.size (List.length xs) u).run P w' = .ok olds.toArray w') ∧ ∀ i (h : i < List.length xs), RepL E.m t xs[i] ((olds.drop (i * t.size)).take t.size) := by
    cases a with
    | none =>
      have h0 : List.length xs = 0 := k4.1
      exact ⟨[], by rw [h0]; simp, fun w' _ => by rw [hua]; simp [Builtin.firstCells], by intro i hi; omega⟩
    | some ad =>
      obtain ⟨us, l1, l2, l3, l4⟩ := elem_cells k4.2 (List.length xs) (Nat.le_refl _)
      refine ⟨us, l1, fun w' hw => ?_, fun i hi => l4 i hi hi⟩
      have := run_loadCells_list (P := P) w' ad us (by
        intro j v hv
        have := lies_cell' sim.mem (fun hl => k4.1 (by rcases Nat.eq_zero_or_pos (List.length xs) with h | h; (rw [l1, h] at hl; simp at hl); omega)) l2 j v hv
        unfold World.cell? at this ⊢
        rw [hw]; exact this)
      rw [hua]
      simp only [Builtin.firstCells]
      rw [← l1]
      exact this
  obtain ⟨olds, o1, o2, o3⟩ := holds
  by_cases hroom : List.length xs + List.length ys ≤ c
  · -- in place
    cases hex : E.ex o with
    | none =>
      rw [hex] at e3
      obtain ⟨a', e4⟩ := e3
      rw [← hu, hua, ← e2] at e4
      simp only [Value.slice.injEq] at e4
      omega
    | some g =>
      rw [hex] at e3
      obtain ⟨cap, cur, ty, f1, f2, f3, f4, f5, f6, f7⟩ := e3
      rw [← hu, hua, ← e2] at f1
      simp only [Value.slice.injEq] at f1
      obtain ⟨rfl, -, rfl⟩ := f1
      rw [← e2, hsz] at f7
      rw [hsz] at f6
      have hfit : List.length xs * t.size + news.length ≤ cur.size := by rw [arg.nlen, f6, ← Nat.add_mul]; exact Nat.mul_le_mul_right _ hroom
      have hrun := arg.room g (List.length xs) c cur ty f3 hroom hfit
      -- the facts
      let m' : Mem := fun b j => if b = g ∧ List.length xs * t.size ≤ j ∧ j < List.length xs * t.size + news.length then news[j - List.length xs * t.size]? else E.m b j
      have hmle : E.m.le m' := by
        intro b j v hv
        simp only [m']
        rw [if_neg]
        · exact hv
        · rintro ⟨rfl, h1, h2⟩
          rw [f7 j h1] at hv; simp at hv
      let E1 := E.move o (.slice (some ⟨g, 0, none⟩) (List.length xs + List.length ys) c) (List.length xs + List.length ys) (some g)
      have hle1 : E.Le E1 := Env.le_move (by omega) (fun h => by omega)
      have hle2 : E.Le (E1.setM m') := hle1.trans (Env.le_setM hmle)
      refine ⟨_, _, E1.setM m', by rw [hua]; exact hrun, hle2, ?_, ?_, fun _ l => l⟩
      · refine sim.step hle2 (belowX_setRow w (.inl f2) _) (fun i => i = o) ?_ ?_ ?_ ?_ ?_ ?_ ?_ (fun b hb j => by show m' b j = _; simp only [m']; rw [if_neg]; rintro ⟨rfl, -, -⟩; omega)
        · intro i hi
          exact ⟨ent_set_ne _ hi, fun _ => ⟨if_neg (h := instDecidableEqNat i o) hi, if_neg (h := instDecidableEqNat i o) hi⟩⟩
        · intro i B hi hB
          have hne : B ≠ g := by
            rintro rfl
            exact sim.apart i o B hi hB (by rw [hent]; exact hex)
          refine ⟨setRow_other w _ _ _ hne, fun j => ?_⟩
          show m' B j = _
          simp only [m']
          rw [if_neg (fun h => hne h.1)]
        · intro b j v hv
          have hv : m' b j = some v := hv
          simp only [m'] at hv
          by_cases hb : b = g
          · subst hb
            rw [cell_setRow_same w b j cur _ ty _ f3]
            have htl : (cur.toList.take (List.length xs * t.size)).length = List.length xs * t.size := by simp; omega
            split at hv
            · rename_i hc
              simp only [List.getElem?_toArray]
              rw [List.append_assoc, List.getElem?_append_right (by omega), htl, List.getElem?_append_left (by omega)]
              exact hv
            · rename_i hc
              have hj : j < List.length xs * t.size := by
                rcases Nat.lt_or_ge j (List.length xs * t.size) with h | h
                · exact h
                · rw [f7 j h] at hv; simp at hv
              have := sim.mem b j v hv
              simp only [World.cell?, f3] at this
              simp only [List.getElem?_toArray]
              rw [List.append_assoc, List.getElem?_append_left (by omega), List.getElem?_take, if_pos hj]
              simpa using this
          · rw [if_neg (fun h => hb h.1)] at hv
            rw [cell_setRow_other w _ _ _ hb]
            exact sim.mem b j v hv
        · rintro i rfl
          rw [ent_set_same _ hlt]
          refine ⟨e1, by simp [E1, Env.move, Env.setM], ?_⟩
          unfold FamOK
          simp only [E1, Env.move, Env.setM, if_true]
          refine ⟨c, _, ty, rfl, f2, setRow_heap w _ _ _ ty _ f3, hroom, f5, ?_, fun j hj => ?_⟩
          · simp only [List.size_toArray, List.length_append, List.length_take, List.length_drop, Array.length_toList]
            rw [hsz, ← f6]; omega
          · simp only [m']
            rw [hsz] at hj
            rw [if_neg (fun h => by rw [arg.nlen, ← Nat.add_mul] at h; omega)]
            exact f7 j (by rw [Nat.add_mul] at hj; omega)
        · rintro i B rfl hB i' hi' hB'
          rw [ent_set_same _ hlt] at hB
          have hB : some g = some B := by simpa [owns, E1, Env.move, Env.setM] using hB
          simp only [Option.some.injEq] at hB; subst hB
          exact sim.apart i' i g hi' hB' (by rw [hent]; exact hex)
        · rintro i i' B rfl rfl hne; exact absurd rfl hne
        · intro i l; rw [List.length_set]; exact sim.lt _ l
      · simp only [RepV]
        refine ⟨repl_sub.1 ?_, e1, hsz, ?_, ?_⟩
        · show RepL m' (.li t) (xs ++ ys) _
          refine ⟨some ⟨g, 0, none⟩, c, by rw [hlen], by rw [hlen]; exact hroom, by rw [hlen]; exact hmax, f5, fun _ => rfl, fun i hi => ?_⟩
          rw [hlen] at hi
          by_cases hix : i < List.length xs
          · obtain ⟨vs, l1, l2⟩ := k4.2 i hix
            refine ⟨vs, l1.mono hmle, ?_⟩
            have : (xs ++ ys)[i] = xs[i] := List.getElem_append_left hix
            rw [this]
            exact RepL.mono hmle _ _ _ l2
          · have hiy : i - List.length xs < List.length ys := by omega
            refine ⟨(news.drop ((i - List.length xs) * t.size)).take t.size, ?_, ?_⟩
            rotate_left
            · have : (xs ++ ys)[i] = ys[i - List.length xs] := List.getElem_append_right (by omega)
              rw [this]
              exact RepL.mono hmle _ _ _ (arg.el _ hiy)
            · intro j v hv
              rw [List.getElem?_take] at hv
              split at hv
              · rename_i hjs
                rw [List.getElem?_drop] at hv
                have hlt' := (List.getElem?_eq_some_iff.1 hv).1
                have e5 : i * t.size = List.length xs * t.size + (i - List.length xs) * t.size := by rw [← Nat.add_mul]; congr 1; omega
                simp only [m', Nat.zero_add]
                rw [if_pos ⟨trivial, by omega, by omega⟩]
                rw [show i * t.size + j - List.length xs * t.size = (i - List.length xs) * t.size + j from by omega]
                exact hv
              · simp at hv
        · show _ ≤ (E1.setM m').len o
          simp only [E1, Env.move, Env.setM, if_true]; omega
        · intro _
          simp [E1, Env.move, Env.setM]
  · -- a new block
    obtain ⟨rest, r1, hrun⟩ := arg.grow a (List.length xs) c olds (by have := o2 w.drew rfl; rw [hua] at this; exact this) (by omega) (by simp only [maxL] at hmax; omega) hb
    have hge := grownCap_ge w (List.length xs + List.length ys) c e
    have hcm := grownCap_small w (old := c) e hmax
    have hput : E.m.le (E.m.put w.heap.size (olds ++ news)) := Mem.le_put (lies_none sim.mem (Nat.le_refl _))
    have hle1 : E.Le (E.move o (.slice (some ⟨w.heap.size, 0, none⟩) (List.length xs + List.length ys) (grownCap w (List.length xs + List.length ys) c e)) (List.length xs + List.length ys) (some w.heap.size)) := Env.le_move (by omega) (fun h => by omega)
    have hle2 := hle1.trans (Env.le_setM (m := E.m.put w.heap.size (olds ++ news)) hput)
    have hnl := arg.nlen
    have hol : (olds ++ news).length = (List.length xs + List.length ys) * t.size := by rw [List.length_append, o1, hnl, Nat.add_mul]
    refine ⟨_, _, _, by rw [hua]; exact hrun, hle2, ?_, ?_, fun _ l => l⟩
    · refine sim.made (Wider.drew_alloc w _) hle2 (fun i => i = o) _ (by rw [List.length_set]) ?_ ?_ (Mem.lies_put ((Wider.drew_alloc w _).lies sim.mem) (heap_alloc_new w.drew _)) ?_ ?_ ?_ (fun i l => .inl l)
      · intro i hi
        exact ⟨ent_set_ne _ hi, fun _ => ⟨if_neg (h := instDecidableEqNat i o) hi, if_neg (h := instDecidableEqNat i o) hi⟩⟩
      · intro b hb' j
        show (E.m.put _ _) b j = _
        unfold Mem.put
        rw [if_neg (by omega)]
      · rintro i rfl
        rw [ent_set_same _ hlt]
        refine ⟨e1, by simp [Env.move, Env.setM], ?_⟩
        unfold FamOK
        simp only [Env.move, Env.setM, if_true]
        refine ⟨_, _, e, rfl, sim.base_le, heap_alloc_new w.drew _, hge, hcm, ?_, fun j hj => ?_⟩
        · rw [hsz]
          simp only [List.size_toArray, List.length_append, r1, o1, hnl, ← Nat.add_mul]
          congr 1; omega
        · unfold Mem.put
          rw [if_pos rfl]
          exact List.getElem?_eq_none (by rw [hol, ← hsz]; exact hj)
      · rintro i B rfl hB
        rw [ent_set_same _ hlt] at hB
        have hB : some w.heap.size = some B := by simpa [owns, Env.move, Env.setM] using hB
        simp only [Option.some.injEq] at hB
        omega
      · rintro i i' B rfl rfl hne; exact absurd rfl hne
    · simp only [RepV]
      refine ⟨repl_sub.1 ?_, e1, hsz, ?_, ?_⟩
      · rw [← hlen] at hge hcm ⊢
        refine repL_new (m := E.m) (us := olds ++ news) hput (fun j v hv => ?_) (fun i hi => ?_) hge (by rw [hlen]; exact hmax) hcm
        · show (E.m.put _ _) _ _ = _
          unfold Mem.put
          rw [if_pos rfl]; exact hv
        · rw [hlen] at hi
          by_cases hix : i < List.length xs
          · have : (xs ++ ys)[i] = xs[i] := List.getElem_append_left hix
            rw [this]
            have h6 : i * t.size + t.size ≤ olds.length := by rw [o1, ← Nat.succ_mul]; exact Nat.mul_le_mul_right _ (by omega)
            rw [List.drop_append_of_le_length (by omega), List.take_append_of_le_length (by rw [List.length_drop]; omega)]
            exact o3 i hix
          · have hiy : i - List.length xs < List.length ys := by omega
            have : (xs ++ ys)[i] = ys[i - List.length xs] := List.getElem_append_right (by omega)
            rw [this]
            have e5 : i * t.size = olds.length + (i - List.length xs) * t.size := by rw [o1, ← Nat.add_mul]; congr 1; omega
            rw [e5, ← List.drop_drop, List.drop_left]
            exact arg.el _ hiy
      · rw [hlen]
        simp [Env.move, Env.setM]
      · intro _
        simp [Env.move, Env.setM]

/-- a nil slice is appended to -/
theorem Sim.appendNil [tI : Tst] (sim : Sim base w0 E S w) {id : Nat} (hid : ¬ E.live id ∧ id < S.length) {t : Ty} {ys : List t.den} {st xt tt e : TypeId} {x : Value} {news : List Value}
    (arg : AppArg P C E w st xt tt e x t ys news) (hb : List.length ys * (C.row e).bytes ≤ 140737488355328) (hmax : List.length ys ≤ maxL) :
    ∃ z w' E', (Builtin.append_ #[st, xt] tt #[.slice none 0 0, x]).run P w = .ok z w' ∧ E.Le E' ∧ Sim base w0 E' (S.set id (.fam (List.length ys))) w' ∧ RepV E' (.own id t ys) z ∧ ∀ i, E'.live i → E.live i ∨ i = id := by
  by_cases hm0 : List.length ys = 0
  · have hys : ys = [] := List.eq_nil_of_length_eq_zero hm0
    subst hys
    obtain ⟨E', k1, k2, k3, k4⟩ := sim.nilfam hid.1 hid.2 t
    exact ⟨_, w, E', arg.nul hm0 none 0 0 (Nat.le_refl _), k1, k2, k3, k4⟩
  · obtain ⟨rest, r1, hrun⟩ := arg.grow none 0 0 [] (by simp [Builtin.firstCells]) (by omega) (by simp only [maxL] at hmax; omega) (by rw [Nat.zero_add]; exact hb)
    have hge := grownCap_ge w (List.length ys) 0 e
    have hcm := grownCap_small w (old := 0) e hmax
    have hnl := arg.nlen
    simp only [Nat.zero_add, List.nil_append] at hrun r1
    obtain ⟨E', k1, k2, k3, k4, -⟩ := sim.newfam hid (t := t) (xs := ys) (Wider.drew_alloc w (.cells (news ++ rest).toArray e)) (us := news) (rest := rest) (ty := e) (cap := grownCap w (List.length ys) 0 e) (heap_alloc_new w.drew _)
      hnl (by rw [List.length_append, hnl, r1, ← Nat.add_mul]; congr 1; omega) hge hcm hmax arg.el
    exact ⟨_, _, E', hrun, k1, k2, k3, k4⟩
end
end Go.Proofs.Ytmpmmfbgdpfnpaa.Ev
/- One operation after the other: append of a string, of fresh elements; and all operations at once. -/
namespace Go.Proofs.Ytmpmmfbgdpfnpaa.Ev
open Go Go.RowKit
set_option linter.unusedVariables false
set_option linter.unusedSimpArgs false

section
variable {P : Program} {C : Ctx} {E : Env} {w w0 : World} {base : Nat} {S : List Ent}

theorem zerosB_app : ∀ (as bs : List Ty) (us : List Value), zerosB (as ++ bs) us = true → ∃ u1 u2, us = u1 ++ u2 ∧ zerosB as u1 = true ∧ zerosB bs u2 = true
  | [], bs, us, h => ⟨[], us, rfl, rfl, h⟩
  | a :: as, bs, u :: us, h => by
    simp only [List.cons_append, zerosB, Bool.and_eq_true] at h
    obtain ⟨u1, u2, rfl, h1, h2⟩ := zerosB_app as bs us h.2
    exact ⟨u :: u1, u2, rfl, by simp only [zerosB, Bool.and_eq_true]; exact ⟨h.1, h1⟩, h2⟩
  | _ :: _, _, [], h => by simp [zerosB] at h
theorem zero_scalar [tI : Tst] {m : Mem} {t : Ty} {u : Value} (h : zeroB t u = true) : RepL m t t.dflt [u] := by
  unfold zeroB at h
  split at h
  · exact rfl
  · simp only [Bool.and_eq_true, beq_iff_eq] at h
    obtain ⟨rfl, rfl⟩ := h
    have hr := range_neg ‹IntKind›
    exact ⟨rfl, hr.1, hr.2.1⟩
  · rename_i s
    have hs : s.size = 0 := by simpa using h
    exact ⟨s, rfl, List.eq_nil_of_length_eq_zero (by simp [strInts, hs]), by simp [hs, maxL]⟩
  · exact rfl
  · exact ⟨none, 0, rfl, Nat.le_refl _, Nat.zero_le _, Nat.zero_le _, rfl, rfl⟩
  · simp at h
theorem zeros_repL [tI : Tst] {m : Mem} : ∀ (t : Ty) (us : List Value), zerosB (flatTys t) us = true → RepL m t t.dflt us
  | .bo, [u], h => by simp only [flatTys, zerosB, Bool.and_true] at h; exact zero_scalar h
  | .it k, [u], h => by simp only [flatTys, zerosB, Bool.and_true] at h; exact zero_scalar h
  | .st, [u], h => by simp only [flatTys, zerosB, Bool.and_true] at h; exact zero_scalar h
  | .ni, [u], h => by simp only [flatTys, zerosB, Bool.and_true] at h; exact zero_scalar h
  | .li t, [u], h => by simp only [flatTys, zerosB, Bool.and_true] at h; exact zero_scalar h
  | .ue, [], _ => rfl
  | .co t r, us, h => by
    obtain ⟨u1, u2, rfl, h1, h2⟩ := zerosB_app _ _ _ h
    exact ⟨u1, u2, rfl, zeros_repL t _ h1, zeros_repL r _ h2⟩
  | .ar n t, us, h => by
    have key : ∀ (n : Nat) (us : List Value), zerosB ((List.replicate n (flatTys t)).flatten) us = true → us.length = n * t.size ∧ ∀ i, i < n → RepL m t t.dflt ((us.drop (i * t.size)).take t.size) := by
      intro n
      induction n with
      | zero =>
        intro us h
        cases us with
        | nil => exact ⟨by simp, by intro i hi; omega⟩
        | cons u us => simp [zerosB] at h
      | succ n ih =>
        intro us h
        rw [List.replicate_succ, List.flatten_cons] at h
        obtain ⟨u1, u2, rfl, h1, h2⟩ := zerosB_app _ _ _ h
        obtain ⟨k1, k2⟩ := ih u2 h2
        have k3 := zeros_repL (m := m) t _ h1
        have hl := RepL.len _ _ _ k3
        refine ⟨by rw [List.length_append, hl, k1, Nat.add_mul, Nat.one_mul, Nat.add_comm], fun i hi => ?_⟩
        cases i with
        | zero => rw [Nat.zero_mul, List.drop_zero, ← hl, List.take_left]; exact k3
        | succ i =>
          rw [show (i + 1) * t.size = u1.length + i * t.size from by rw [hl, Nat.add_mul, Nat.one_mul, Nat.add_comm], ← List.drop_drop, List.drop_left]
          exact k2 i (by omega)
    obtain ⟨k1, k2⟩ := key n us h
    refine ⟨List.length_replicate, k1, fun i hi => ?_⟩
    have : (List.replicate n t.dflt)[i]'hi = t.dflt := List.getElem_replicate ..
    show RepL m t ((List.replicate n t.dflt)[i]'hi) _
    rw [this]
    exact k2 i (by simpa [Ty.dflt] using hi)
  | .bo, [], h => by simp [flatTys, zerosB] at h
  | .it _, [], h => by simp [flatTys, zerosB] at h
  | .st, [], h => by simp [flatTys, zerosB] at h
  | .ni, [], h => by simp [flatTys, zerosB] at h
  | .li _, [], h => by simp [flatTys, zerosB] at h
  | .ue, _ :: _, h => by simp [flatTys, zerosB] at h
  | .bo, _ :: _ :: _, h => by simp [flatTys, zerosB] at h
  | .it _, _ :: _ :: _, h => by simp [flatTys, zerosB] at h
  | .st, _ :: _ :: _, h => by simp [flatTys, zerosB] at h
  | .ni, _ :: _ :: _, h => by simp [flatTys, zerosB] at h
  | .li _, _ :: _ :: _, h => by simp [flatTys, zerosB] at h

theorem appArg_string [tI : Tst] (hC : RowsOK P C) {st xt tt e : TypeId} (hst : (C.row st).td = .slice e) (hxt : (C.row xt).td = .str) {t : Ty} (hty : (C.row e).ty = t) {l : List Int} {u : Value} (hx : RepV E (.d .st l) u) {ys : List t.den} (ha : cast? .by (.li t) l = some ys) :
    ∃ news, AppArg P C E w st xt tt e u t ys news ∧ List.length ys ≤ maxL := by
  obtain ⟨s, rfl, rfl, hs⟩ := rep_str_iff.1 hx
  obtain ⟨he, hys⟩ := cast_rep ha
  simp only [Ty.li.injEq] at he
  subst he
  simp only at hys
  subst hys
  have hlen : (strInts s).length = s.size := by simp [strInts]
  have hsz : (C.row e).size = 1 := by rw [← (hC.row (hC.slice hst).2.2.2.1).size, hty]; rfl
  have hcells : s.data.map (fun b => Value.int .u8 b.toNat) = ((strInts s).map (Value.int .u8)).toArray := by
    apply Array.ext'
    simp [strInts, List.map_map, Function.comp_def]
  refine ⟨(strInts s).map (Value.int .u8), appArg_of' hC hst hty (hC.str hxt) (by simp) (ys := strInts s) (fun w => by simp [Builtin.lenOf, hlen]) (fun w' _ => ?_) (by simp [Ty.size]) (by simp [Value.oneCell']) (fun i hi => ?_), by rw [hlen]; exact hs⟩
  · have : (s.extract 0 s.size).data = s.data := by rw [ByteArray.extract_zero_size]
    show (Builtin.firstCells _ (strInts s).length _).run P w' = _
    rw [hlen]
    simp only [Builtin.firstCells, this, hcells]
    rfl
  · have hi' : i < (strInts s).length := hi
    have e1 : (((strInts s).map (Value.int .u8)).drop (i * 1)).take 1 = [Value.int .u8 (strInts s)[i]] := by
      rw [Nat.mul_one, List.drop_eq_getElem_cons (by simpa using hi'), List.take_succ_cons, List.take_zero, List.getElem_map]
    show RepL E.m (.it .u8) (strInts s)[i] ((((strInts s).map (Value.int .u8)).drop (i * 1)).take 1)
    rw [e1]
    refine ⟨rfl, ?_⟩
    have hb : ∃ b : UInt8, (strInts s)[i] = (b.toNat : Int) := by
      have hm := List.getElem_mem hi'
      unfold strInts at hm
      obtain ⟨b, _, hb⟩ := List.mem_map.1 hm
      exact ⟨b, hb.symm⟩
    obtain ⟨b, hb⟩ := hb
    rw [hb]
    exact byte_range b

theorem zeroCells_list (z : Array Value) (hz : 0 < z.size) : ∀ n : Nat, (Builtin.zeroCells z n).toList = (List.replicate n z.toList).flatten := by
  intro n
  induction n with
  | zero => simp [Builtin.zeroCells]
  | succ n ih =>
    have : (Builtin.zeroCells z (n + 1)).toList = (Builtin.zeroCells z n).toList ++ z.toList := by
      apply List.ext_getElem
      · simp [Builtin.zeroCells, Nat.add_mul]
      · intro i h1 h2
        simp only [Builtin.zeroCells, Array.size_map, Array.size_range, Array.length_toList] at h1
        simp only [Builtin.zeroCells, Array.getElem_toList, Array.getElem_map, Array.getElem_range, List.getElem_append, Array.length_toList, Array.size_map, Array.size_range]
        have hlt : i % z.size < z.size := Nat.mod_lt _ hz
        split
        · rfl
        · rename_i h
          rw [Nat.add_mul, Nat.one_mul] at h1
          have : i % z.size = i - n * z.size := by
            have e1 : i = (i - n * z.size) + n * z.size := by omega
            conv => lhs; rw [e1]
            rw [Nat.add_mul_mod_self_right, Nat.mod_eq_of_lt (by omega)]
          rw [getElem!_pos z _ hlt]
          congr 1
    rw [this, ih, List.replicate_succ', List.flatten_append]
    simp

theorem appArg_zeros [tI : Tst] (hC : RowsOK P C) {st xt tt e : TypeId} (hst : (C.row st).td = .slice e) {k : IntKind} (hxt : (C.row xt).td = .int k) {j : IntKind} {n : Int} (h0 : 0 ≤ n) (h1 : n ≤ 140737488355328) (hb : n.toNat * (C.row e).bytes ≤ 140737488355328) :
    ∃ news, AppArg P C E w st xt tt e (.int j n) (C.row e).ty (List.replicate n.toNat (C.row e).ty.dflt) news ∧ n.toNat ≤ maxL := by
  obtain ⟨hu, -, -, he, hpos⟩ := hC.slice hst
  have hsz := (hC.row he).size
  obtain ⟨i, z, i1, i2, i3, i4, i5⟩ := (hC.row he).info
  have hs : ∀ w, (sizeOf e).run P w = .ok (C.row e).size w := fun w => size_pos_info hC he
  have hxu := (hC.int hxt).1
  have hzr : RepL E.m (C.row e).ty (C.row e).ty.dflt z.cells.toList := zeros_repL _ _ (by rw [(hC.row he).flat]; exact i5)
  have hzl : z.cells.size = (C.row e).size := by have := RepL.len _ _ _ hzr; simp at this; omega
  have hwrap : IntKind.i64.wrap n = n := by simp [IntKind.wrap, IntKind.bits, IntKind.signed]; omega
  have hn0 : ¬ n < 0 := by omega
  have hnb : ¬ (281474976710656 : Int) < n * (i.bytes : Int) := by
    rw [i3]
    have : n * ((C.row e).bytes : Int) = ((n.toNat * (C.row e).bytes : Nat) : Int) := by rw [Int.natCast_mul]; congr 1; omega
    omega
  have hlist := zeroCells_list z.cells (by omega)
  have hlen : ∀ m, (Builtin.zeroCells z.cells m).toList.length = m * (C.row e).size := by intro m; simp [Builtin.zeroCells, hzl]
  have hel : ∀ m i, i < m → (((Builtin.zeroCells z.cells m).toList).drop (i * (C.row e).size)).take (C.row e).size = z.cells.toList := by
    intro m
    rw [hlist m]
    induction m with
    | zero => intro i hi; omega
    | succ m ih =>
      intro i hi
      rw [List.replicate_succ, List.flatten_cons]
      have hl : z.cells.toList.length = (C.row e).size := by simpa using hzl
      cases i with
      | zero => rw [Nat.zero_mul, List.drop_zero, ← hl, List.take_left]
      | succ i => rw [show (i + 1) * (C.row e).size = z.cells.toList.length + i * (C.row e).size from by rw [hl, Nat.add_mul, Nat.one_mul, Nat.add_comm], ← List.drop_drop, List.drop_left]; exact ih i (by omega)
  have hlr : List.length (List.replicate n.toNat (C.row e).ty.dflt) = n.toNat := List.length_replicate
  have happ : ∀ w, (if n.toNat * (C.row e).size = 0 then pure #[] else do pure (Builtin.zeroCells (← zeroValue e).cells n.toNat) : Sem (Array Value)).run P w = .ok (Builtin.zeroCells z.cells n.toNat).toList.toArray w := by
    intro w
    have hz : (zeroValue e).run P w = .ok z w := by simp [zeroValue, typeInfo, i1, i4]
    by_cases h : n.toNat * (C.row e).size = 0
    · have : (Builtin.zeroCells z.cells n.toNat).toList = [] := List.eq_nil_of_length_eq_zero (by rw [hlen]; exact h)
      rw [this, if_pos h]; rfl
    · rw [if_neg h]; simp [hz]
  refine ⟨(Builtin.zeroCells z.cells n.toNat).toList, ⟨?_, ?_, ?_, ?_, ?_, ?_⟩, by simp only [maxL]; omega⟩
  · rw [hlen, hlr, hsz]
  · intro u hu'
    rw [hlist] at hu'
    obtain ⟨l, hl, hul⟩ := List.mem_flatten.1 hu'
    rw [(List.mem_replicate.1 hl).2] at hul
    exact RepL.one _ _ _ hzr u hul
  · intro i hi
    rw [hlr] at hi
    rw [hsz, hel _ _ hi, List.getElem_replicate]
    exact hzr
  · intro hl0 a m cap hm
    rw [hlr] at hl0
    have hn : n = 0 := by omega
    subst hn
    cases a <;> simp [Builtin.append_, run_underlying hu, run_underlying hxu, hs, asInt, asIntOf, IntKind.wrap, IntKind.bits, IntKind.signed, typeInfo, i1, hm, storeCells]
  · intro g m cap cur ty hg hroom hfit
    rw [hlr] at hroom ⊢
    have h2 := happ w
    have hst' := run_storeCells_at P g (m * (C.row e).size) ty (Builtin.zeroCells z.cells n.toNat).toList 0 cur w hg (by rw [← hsz]; simpa using hfit) (by
      intro u hu'
      rw [hlist] at hu'
      obtain ⟨l, hl, hul⟩ := List.mem_flatten.1 hu'
      rw [(List.mem_replicate.1 hl).2] at hul
      exact RepL.one _ _ _ hzr u hul)
    simp only [Nat.add_zero] at hst'
    rw [hsz]
    simp [Builtin.append_, run_underlying hu, run_underlying hxu, hs, asInt, asIntOf, hwrap, hn0, typeInfo, i1, hnb, hroom]
    have hzv : (zeroValue e).run P w = .ok z w := by simp [zeroValue, typeInfo, i1, i4]
    by_cases h : n.toNat * (C.row e).size = 0
    · have hnil : (Builtin.zeroCells z.cells n.toNat).toList = [] := List.eq_nil_of_length_eq_zero (by rw [hlen]; exact h)
      have hsz0 : (Builtin.zeroCells z.cells n.toNat).size = 0 := by simpa using congrArg List.length hnil
      rw [hnil] at hst'
      rw [if_pos h, Addr.add_lit, Nat.zero_add, hst', hnil, hsz0]
      simp
    · rw [if_neg h]
      simp [hzv, Addr.add_lit, hst']
  · intro a m cap olds hfo hg h63 hb'
    rw [hlr] at hg h63 hb' ⊢
    rw [hsz] at hfo
    have hn : ¬ (m + n.toNat ≤ cap) := by omega
    have h63' : ¬ (9223372036854775807 < ((m : Int) + (n.toNat : Int))) := by omega
    have h63'' : ¬ (9223372036854775807 < ((m : Int) + n)) := by omega
    have hfit := growslice_fits hg hb'
    have h48' : ¬ (281474976710656 < Builtin.nextslicecap (m + n.toNat) cap * i.bytes) := by rw [i3]; omega
    have hzv : ∀ w, (zeroValue e).run P w = .ok z w := by intro w; simp [zeroValue, typeInfo, i1, i4]
    refine ⟨(Builtin.zeroCells z.cells (grownCap w (m + n.toNat) cap e - (m + n.toNat))).toList, by rw [hlen, hsz], ?_⟩
    have h2 := happ w.drew
    simp [Builtin.append_, run_underlying hu, run_underlying hxu, hs, asInt, asIntOf, hwrap, hn0, typeInfo, i1, hnb, hn, h63', h63'', h48', Question.forced, hfo, newRow, grownCap, hzv]
    rw [if_neg (by omega)]
    by_cases h : n.toNat * (C.row e).size = 0
    · have hnil : (Builtin.zeroCells z.cells n.toNat).toList = [] := List.eq_nil_of_length_eq_zero (by rw [hlen]; exact h)
      rw [if_pos h, hnil]
      congr 3
      apply Array.ext'
      simp
    · rw [if_neg h]
      congr 3
      apply Array.ext'
      simp
end
end Go.Proofs.Ytmpmmfbgdpfnpaa.Ev
