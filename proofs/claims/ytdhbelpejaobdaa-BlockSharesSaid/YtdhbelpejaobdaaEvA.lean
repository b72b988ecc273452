/- A walker over plain values: what the translated code of a Go function does, told on numbers, bytes, lists and structs, with no memory in sight. (The definitions; EvB and on: that it tells the truth.) -/
import Derived.Calls
import Derived.Laws.Entries
namespace Go.Proofs.Ytdhbelpejaobdaa.Ev
open Go

/-- kinds of data: bools, numbers, strings, nil pointers, slices, structs (field by field), arrays -/
inductive Ty where
  | bo | it (k : IntKind) | st | ni
  | li (t : Ty)
  | ue | co (t r : Ty)
  | ar (n : Nat) (t : Ty)
  deriving Inhabited
def Ty.beq : Ty → Ty → Bool
  | .bo, .bo => true | .it k, .it j => decide (k = j) | .st, .st => true | .ni, .ni => true
  | .li s, .li t => s.beq t
  | .ue, .ue => true
  | .co a b, .co c d => a.beq c && b.beq d
  | .ar n s, .ar m t => Nat.beq n m && s.beq t
  | _, _ => false
theorem Ty.eq_of_beq : ∀ {s t : Ty}, s.beq t = true → s = t := by
  intro s
  induction s with
  | bo => intro t h; cases t <;> simp [Ty.beq] at h; rfl
  | it k => intro t h; cases t <;> simp [Ty.beq] at h; rw [h]
  | st => intro t h; cases t <;> simp [Ty.beq] at h; rfl
  | ni => intro t h; cases t <;> simp [Ty.beq] at h; rfl
  | li s ih => intro t h; cases t <;> simp [Ty.beq] at h; rw [ih h]
  | ue => intro t h; cases t <;> simp [Ty.beq] at h; rfl
  | co a b iha ihb => intro t h; cases t <;> simp [Ty.beq] at h; rw [iha h.1, ihb h.2]
  | ar n s ih => intro t h; cases t <;> simp [Ty.beq] at h; rw [h.1, ih h.2]
theorem Ty.beq_refl : ∀ (s : Ty), s.beq s = true := by
  intro s
  induction s with
  | bo => rfl
  | it k => simp [Ty.beq]
  | st => rfl
  | ni => rfl
  | li s ih => simpa [Ty.beq] using ih
  | ue => rfl
  | co a b iha ihb => simp [Ty.beq, iha, ihb]
  | ar n s ih => simp [Ty.beq, ih]
/-- by a test whose proof is short -/
instance : DecidableEq Ty := fun s t => match h : Ty.beq s t with
  | true => isTrue (Ty.eq_of_beq h)
  | false => isFalse (fun e => by rw [e, Ty.beq_refl] at h; cases h)

@[reducible] def Ty.den : Ty → Type
  | .bo => Bool | .it _ => Int | .st => List Int | .ni => Unit
  | .li t => List t.den
  | .ue => Unit
  | .co t r => t.den × r.den
  | .ar _ t => List t.den

def Ty.dflt : (t : Ty) → t.den
  | .bo => false | .it _ => (0 : Int) | .st => ([] : List Int) | .ni => ()
  | .li t => ([] : List t.den)
  | .ue => ()
  | .co t r => (t.dflt, r.dflt)
  | .ar n t => (List.replicate n t.dflt : List t.den)

/-- how many cells it takes -/
def Ty.size : Ty → Nat
  | .ue => 0 | .co t r => t.size + r.size | .ar n t => n * t.size | _ => 1
/-- laid down cell by cell: a struct, an array -/
def Ty.agg : Ty → Bool
  | .ue | .co _ _ | .ar _ _ => true | _ => false

abbrev Ty.by : Ty := .li (.it .u8)

inductive V where
  | bad
  | un
  | nils
  | d (t : Ty) (x : t.den)
  | own (o : Nat) (t : Ty) (xs : List t.den)
  | p (o off : Nat)
  | ro (t : Ty) (x : t.den)
  | sr (o off len cap sz : Nat)
  | pr (o i sz : Nat)
  | agg (cs : List V)
  | tup (vs : List V)
  | fn (f : FuncId) (fi cap : List V)
  | nn (t : Ty) (xs : List t.den)
  | ifc (t : TypeId) (x : V)
instance : Inhabited V := ⟨.bad⟩

/-- what lies in memory of the function's own: an object of cells, a row of elements, a slice's frontier -/
inductive Ent where
  | gone
  | obj (cells : List V)
  | row (t : Ty) (xs : List t.den)
  | fam (len : Nat)
  /-- a family whose block is surely its own -/
  | lit (len : Nat)
instance : Inhabited Ent := ⟨.gone⟩

/-- what a type is, as far as the walker asks -/
inductive TD where
  | int (k : IntKind) | bool | str | slice (e : TypeId) | arr (n : Nat) (e : TypeId) | struct (fs : List (Nat × TypeId)) | ptr (e : TypeId) | other
  deriving DecidableEq, Inhabited
structure TRow where
  td : TD
  size : Nat
  bytes : Nat
  ty : Ty
  cells : List Ty
  deriving Inhabited

structure Ctx where
  rows : List TRow
  live : Nat → List Nat × List Nat

def Ctx.row (C : Ctx) (t : TypeId) : TRow := C.rows.getD t ⟨.other, 0, 0, .ue, []⟩
def TD.good : TD → Bool | .other => false | _ => true
def TRow.isAgg (r : TRow) : Bool := match r.td with | .arr _ _ | .struct _ => true | _ => false

/-- a test, and the way that it opens: kept as they stand while the walker goes -/
class Tst where
  t : (p : Prop) → [Decidable p] → Bool
  ok : ∀ (p : Prop) [Decidable p], t p = decide p
def tst [Tst] (p : Prop) [Decidable p] : Bool := Tst.t p
theorem tst_eq [Tst] {p : Prop} [Decidable p] : tst p = decide p := Tst.ok p
/-- there is one way only -/
theorem Tst.one (a b : Tst) : a = b := by
  cases a with | mk f hf => cases b with | mk g hg =>
  have : @f = @g := by funext p d; rw [hf, hg]
  subst this; rfl
def br {A : Type} (x : Bool) (a b : A) : A := match x with | true => a | false => b
theorem tst_iff [tI : Tst] {p : Prop} [Decidable p] : tst p = true ↔ p := by rw [tst_eq]; exact decide_eq_true_iff
theorem tst_not [tI : Tst] {p : Prop} [Decidable p] : tst p = false ↔ ¬ p := by rw [tst_eq]; exact decide_eq_false_iff_not
theorem br_t {A : Type} {x : Bool} {a b : A} (h : x = true) : br x a b = a := by subst h; rfl
theorem br_f {A : Type} {x : Bool} {a b : A} (h : x = false) : br x a b = b := by subst h; rfl

def look : List V → Nat → V
  | [], _ => .bad
  | v :: _, 0 => v
  | _ :: vs, n + 1 => look vs n
def setK {R : Type} : List V → Nat → V → (List V → R) → R
  | [], _, _, k => k []
  | _ :: vs, 0, v, k => k (v :: vs)
  | u :: vs, n + 1, v, k => setK vs n v fun vs => k (u :: vs)
def ent : List Ent → Nat → Ent
  | [], _ => .gone
  | e :: _, 0 => e
  | _ :: es, n + 1 => ent es n
def setE {R : Type} : List Ent → Nat → Ent → (List Ent → R) → R
  | [], _, _, k => k []
  | _ :: es, 0, e, k => k (e :: es)
  | d :: es, n + 1, e, k => setE es n e fun es => k (d :: es)
def repK {R : Type} : Nat → List Ent → (List Ent → R) → R
  | 0, es, k => k es
  | n + 1, es, k => repK n (.gone :: es) k
/-- n places more -/
def growK {R : Type} : List Ent → Nat → (List Ent → R) → R
  | [], n, k => repK n [] k
  | e :: es, n, k => growK es n fun es => k (e :: es)
def setsE {R : Type} : List Ent → List (Nat × Ent) → (List Ent → R) → R
  | es, [], k => k es
  | es, (n, e) :: us, k => setE es n e fun es => setsE es us k

/-- a value's head is brought to light before it is laid down -/
def forceV {R : Type} (v : V) (k : V → R) : R :=
  match v with
  | .bad => k .bad | .un => k .un | .nils => k .nils | .d t x => k (.d t x) | .own o t xs => k (.own o t xs) | .p o a => k (.p o a) | .ro t x => k (.ro t x)
  | .sr o a l c s => k (.sr o a l c s) | .pr o i s => k (.pr o i s) | .agg cs => k (.agg cs) | .tup vs => k (.tup vs) | .fn f fs cs => k (.fn f fs cs) | .nn t x => k (.nn t x) | .ifc t x => k (.ifc t x)
theorem forceV_eq {R : Type} (v : V) (k : V → R) : forceV v k = k v := by cases v <;> rfl
def lenK {R : Type} : List Ent → Nat → (Nat → R) → R
  | [], n, k => k n
  | _ :: es, n, k => lenK es (n + 1) k
def addK {R : Type} : Nat → Nat → (Nat → R) → R
  | n, 0, k => k n
  | n, m + 1, k => addK (n + 1) m k
theorem lenK_eq {R : Type} (es : List Ent) (k : Nat → R) : ∀ n, lenK es n k = k (n + es.length) := by
  induction es with
  | nil => intro n; rfl
  | cons e es ih => intro n; rw [lenK, ih, List.length_cons]; congr 1; omega
theorem addK_eq {R : Type} (m : Nat) (k : Nat → R) : ∀ n, addK n m k = k (n + m) := by
  induction m with
  | zero => intro n; rfl
  | succ m ih => intro n; rw [addK, ih]; congr 1; omega

def strInts (s : ByteArray) : List Int := s.data.toList.map fun b => (b.toNat : Int)
def inR (k : IntKind) (n : Int) : Bool := decide (k.min ≤ n) && decide (n ≤ k.max)

/-- a number, a string .. that the code has in it -/
def constV : Value → V
  | .bool b => .d .bo b
  | .int k n => if inR k n then .d (.it k) n else .bad
  | .string s => if s.size ≤ 140737488355328 then .d .st (strInts s) else .bad
  | .pointer none => .d .ni ()
  | .slice none 0 0 => .nils
  | _ => .bad
def oneC : Value → Bool | .agg _ | .tuple _ => false | _ => true
def constA : Value → V
  | .agg cs => if cs.toList.all oneC then .agg (cs.toList.map constV) else .bad
  | v => constV v
def opd (sl : List V) : Operand → V
  | .tmp t => look sl t
  | .const v => constA v
  | .func f => .fn f [] []
  | .global _ => .bad

/-- data seen as of a kind -/
def cast? (s t : Ty) (x : s.den) : Option t.den := if h : s = t then some (h ▸ x) else none

/-- the cells of data -/
def flatT : (t : Ty) → t.den → List V
  | .ue, _ => []
  | .co t r, x => flatT t x.1 ++ flatT r x.2
  | .ar n t, xs => (List.range n).flatMap fun i => flatT t (List.getD xs i t.dflt)
  | .bo, x => [.d .bo x] | .it k, x => [.d (.it k) x] | .st, x => [.d .st x] | .ni, x => [.d .ni x] | .li t, x => [.d (.li t) x]
def flatV : V → Option (List V)
  | .agg cs => some cs
  | .d t x => some (flatT t x)
  | .bad | .un | .tup _ => none
  | v => some [v]

/-- a cell seen as data of a kind of one cell -/
def cellT (t : Ty) : V → Option t.den
  | .d s x => cast? s t x
  | .own _ s xs => cast? (.li s) t xs
  | .nn s xs => cast? (.li s) t xs
  | .nils => match t with | .li s => some ([] : List s.den) | _ => none
  | _ => none
/-- cells seen as data of a kind, and those that are left -/
def unflat : (t : Ty) → List V → Option (t.den × List V)
  | .ue, cs => some ((), cs)
  | .co t r, cs => (unflat t cs).bind fun x => (unflat r x.2).map fun y => ((x.1, y.1), y.2)
  | .ar n t, cs => (go (unflat t) n cs).map fun x => (x.1, x.2)
  | .bo, v :: cs => (cellT .bo v).map fun x => (x, cs)
  | .it k, v :: cs => (cellT (.it k) v).map fun x => (x, cs)
  | .st, v :: cs => (cellT .st v).map fun x => (x, cs)
  | .ni, v :: cs => (cellT .ni v).map fun x => (x, cs)
  | .li t, v :: cs => (cellT (.li t) v).map fun x => (x, cs)
  | _, [] => none
where
  go {α : Type} (f : List V → Option (α × List V)) : Nat → List V → Option (List α × List V)
    | 0, cs => some ([], cs)
    | n + 1, cs => (f cs).bind fun x => (go f n x.2).map fun y => (x.1 :: y.1, y.2)
def asT (t : Ty) (v : V) : Option t.den :=
  match v with
  | .d s x => cast? s t x
  | .agg cs => if t.agg then (match unflat t cs with | some (x, []) => some x | _ => none) else none
  | v => cellT t v

/-- field f of data: how many cells lie ahead of it, and it -/
def fieldT : Nat → (t : Ty) → t.den → Nat → Option (Nat × (s : Ty) × s.den)
  | 0, .co t _, x, off => some (off, ⟨t, x.1⟩)
  | n + 1, .co t r, x, off => fieldT n r x.2 (off + t.size)
  | _, _, _, _ => none

def binI [tI : Tst] (op : BinOp) (k : IntKind) (a : Int) (j : IntKind) (b : Int) : Option (Bool × V) :=
  match op with
  | .shl => some (tst (0 ≤ b), .d (.it k) (k.wrap (a * 2 ^ min b.toNat k.bits)))
  | .shr => some (tst (0 ≤ b), .d (.it k) (a.fdiv (2 ^ min b.toNat k.bits)))
  | _ =>
    if k = j then
      match op with
      | .add => some (true, .d (.it k) (k.wrap (a + b)))
      | .sub => some (true, .d (.it k) (k.wrap (a - b)))
      | .mul => some (true, .d (.it k) (k.wrap (a * b)))
      | .quo => some (!tst (b = 0), .d (.it k) (k.wrap (a.tdiv b)))
      | .rem => some (!tst (b = 0), .d (.it k) (a.tmod b))
      | .and | .or | .xor | .andNot => some (true, .d (.it k) (bits op k a b))
      | .eql => some (true, .d .bo (tst (a = b)))
      | .neq => some (true, .d .bo (tst (a ≠ b)))
      | .lss => some (true, .d .bo (tst (a < b)))
      | .leq => some (true, .d .bo (tst (a ≤ b)))
      | .gtr => some (true, .d .bo (tst (a > b)))
      | .geq => some (true, .d .bo (tst (a ≥ b)))
      | _ => none
    else none
def isNil : V → Option Bool
  | .d .ni _ => some true
  | .p _ _ | .ro _ _ | .pr _ _ _ => some false
  | _ => none
/-- is it the nil slice? (where that is known) -/
def nilS [tI : Tst] : V → Option (Bool × Bool)
  | .nils => some (true, true)
  | .nn _ _ => some (true, false)
  | .d (.li _) xs => some (tst (0 < List.length xs), false)
  | .own _ _ xs => some (tst (0 < List.length xs), false)
  | _ => none
def nilV [tI : Tst] (td : TD) (op : BinOp) (x y : V) : Option (Bool × V) :=
  match td, y with
  | .slice _, .nils => match op with
    | .eql => (nilS x).map fun r => (r.1, .d .bo r.2)
    | .neq => (nilS x).map fun r => (r.1, .d .bo (!r.2))
    | _ => none
  | _, _ => none
def binV [tI : Tst] (td : TD) (op : BinOp) (x y : V) : Option (Bool × V) :=
  match x, y with
  | .d (.it k) a, .d (.it j) b => binI op k a j b
  | .d .bo a, .d .bo b => match td, op with
    | .bool, .eql => some (true, .d .bo (tst (a = b)))
    | .bool, .neq => some (true, .d .bo (tst (a ≠ b)))
    | _, _ => none
  | .d .st a, .d .st b => match op with
    | .eql => some (true, .d .bo (tst (a = b)))
    | .neq => some (true, .d .bo (tst (a ≠ b)))
    | _ => none
  | x, y => match td, isNil x, isNil y, op with
    | .ptr _, some a, some b, .eql => if a || b then some (true, .d .bo (a && b)) else none
    | .ptr _, some a, some b, .neq => if a || b then some (true, .d .bo (!(a && b))) else none
    | _, _, _, _ => nilV td op x y
def unV (op : UnOp) (x : V) : Option V :=
  match op, x with
  | .neg, .d (.it k) n => some (.d (.it k) (k.wrap (0 - n)))
  | .xor, .d (.it k) n => some (.d (.it k) (bits .xor k (if k.signed then -1 else k.max) n))
  | .not, .d .bo b => some (.d .bo (!b))
  | _, _ => none

/-- the elements of a slice -/
def listV : V → Option ((t : Ty) × List t.den)
  | .d (.li t) xs => some ⟨t, xs⟩
  | .own _ t xs => some ⟨t, xs⟩
  | _ => none
def convV (C : Ctx) (src dst : TypeId) (x : V) : Option V :=
  match (C.row src).td, (C.row dst).td with
  | .int _, .int k => match x with | .d (.it _) n => some (.d (.it k) (k.wrap n)) | _ => none
  | .str, .str => match x with | .d .st l => some (.d .st l) | _ => none
  | .slice e, .str => match (C.row e).td with
    | .int .u8 => match x with
      | .nils => some (.d .st ([] : List Int))
      | .d (.li (.it .u8)) l => some (.d .st l)
      | .own _ (.it .u8) l => some (.d .st l)
      | _ => none
    | _ => none
  | .str, .slice e => match (C.row e).td with
    | .int .u8 => match x with | .d .st l => some (.d .by l) | _ => none
    | _ => none
  | _, _ => none
/-- a slice of the function's own, converted to its own type: its block is marked, and goes on no more -/
def convS [tI : Tst] (C : Ctx) (src dst : TypeId) (x : V) (S : List Ent) : Option (Bool × V × List (Nat × Ent)) :=
  match Nat.beq src dst, (C.row src).td, x with
  | true, .slice e, .own o (.it .u8) xs => match (C.row e).td, ent S o with
    | .int .u8, .lit n => some (tst (n = List.length xs), .d (.li (.it .u8)) xs, [(o, .gone)])
    | _, _ => none
  | _, _, _ => none
def lenV (td : TD) (x : V) : Option Int :=
  match td with
  | .str => match x with | .d .st l => some (List.length l) | _ => none
  | .slice _ => match x with
    | .d (.li _) xs => some (List.length xs)
    | .own _ _ xs => some (List.length xs)
    | .nils => some 0
    | .sr _ _ n _ _ => some n
    | _ => none
  | .arr n _ => if n ≤ 65536 then some n else none
  | _ => none
def minmax (mx : Bool) : List V → Option V
  | [.d (.it k) a, .d (.it j) b] => if k = j then some (.d (.it k) (if mx then (if b > a then b else a) else (if b < a then b else a))) else none
  | _ => none

/-- a slice's bounds: low, high, what is behind -/
def boundsV [tI : Tst] (n : Nat) (lo hi mx : Option V) : Option (Bool × Nat × Nat × Option Nat) :=
  let num : Option V → Int → Option Int := fun v z => match v with | none => some z | some (.d (.it _) a) => some a | _ => none
  (num hi n).bind fun h => (num lo 0).bind fun l =>
    match mx with
    | none => some (tst (0 ≤ l) && tst (l ≤ h) && tst (h ≤ n), l.toNat, h.toNat, none)
    | some m => if hi.isNone then none else (num (some m) 0).map fun m => (tst (0 ≤ l) && tst (l ≤ h) && tst (h ≤ m) && tst (m ≤ n), l.toNat, h.toNat, some m.toNat)

def replV : List V → Nat → List V → List V
  | _ :: cs, 0, v :: vs => v :: replV cs 0 vs
  | cs, 0, [] => cs
  | c :: cs, n + 1, vs => c :: replV cs n vs
  | [], _, _ => []

/-- fresh cells of types: each slice among them gets a frontier of its own, from 'id' on -/
def zeros : List Ty → Nat → List V
  | [], _ => []
  | .li t :: ts, id => .own id t ([] : List t.den) :: zeros ts (id + 1)
  | t :: ts, id => .d t t.dflt :: zeros ts id
def zeroFams : List Ty → Nat → List (Nat × Ent)
  | [], _ => []
  | .li _ :: ts, id => (id, .fam 0) :: zeroFams ts (id + 1)
  | _ :: ts, id => zeroFams ts id
def slices : List Ty → Nat
  | [] => 0
  | .li _ :: ts => slices ts + 1
  | _ :: ts => slices ts

/-- how many entries an operation may make -/
def need (C : Ctx) (o : Oper) : Nat :=
  match o.op with
  | .alloc t => 1 + slices (C.row t).cells
  | .assign _ => (match (C.row o.type).ty with | .li _ => 1 | _ => 0)
  | .store t _ _ => (match (C.row t).ty with | .li _ => 1 | _ => 0)
  | .box _ _ | .buildSlice _ _ _ | .slice _ _ _ _ (some _) | .call _ => 1
  | _ => 0

abbrev Out := Bool × V × List (Nat × Ent)
def val (v : V) : Option Out := some (true, v, [])

/-- a type is brought to light, as deep as it goes -/
def forceTy {R : Type} : Ty → (Ty → R) → R
  | .bo, k => k .bo | .it i, k => k (.it i) | .st, k => k .st | .ni, k => k .ni | .ue, k => k .ue
  | .li t, k => forceTy t fun t => k (.li t)
  | .co a b, k => forceTy a fun a => forceTy b fun b => k (.co a b)
  | .ar n t, k => forceTy t fun t => k (.ar n t)
theorem forceTy_eq {R : Type} : ∀ (t : Ty) (k : Ty → R), forceTy t k = k t
  | .bo, _ => rfl | .it _, _ => rfl | .st, _ => rfl | .ni, _ => rfl | .ue, _ => rfl
  | .li t, k => by rw [forceTy, forceTy_eq t]
  | .co a b, k => by rw [forceTy, forceTy_eq a, forceTy_eq b]
  | .ar n t, k => by rw [forceTy, forceTy_eq t]
def appendV [tI : Tst] (C : Ctx) (id : Nat) (S : List Ent) (st xt : TypeId) (s x : V) : Option Out :=
  match (C.row st).td with
  | .slice e => forceTy (C.row e).ty fun t =>
    let news : Option (Bool × List t.den) :=
      match (C.row xt).td, x with
      | .int _, .d (.it _) n => some (tst (0 ≤ n) && tst (n ≤ 140737488355328), List.replicate n.toNat t.dflt)
      | .str, .d .st l => (cast? .by (.li t) l).map fun l => (true, l)
      | .slice _, x => (asT (.li t) x).map fun l => (true, l)
      | _, _ => none
    news.bind fun (g, ys) =>
      match s with
      | .nils => some (g && tst (ys.length * (C.row e).bytes ≤ 140737488355328), .own id t ys, [(id, .fam ys.length)])
      | .own o t' xs' => (cast? (.li t') (.li t) xs').bind fun xs =>
        match ent S o with
        | .fam n => some (g && tst (n = List.length xs) && tst ((List.length xs + ys.length) * (C.row e).bytes ≤ 140737488355328), .own o t (xs ++ ys), [(o, .fam (List.length (xs ++ ys)))])
        | .lit n => some (g && tst (n = List.length xs) && tst ((List.length xs + ys.length) * (C.row e).bytes ≤ 140737488355328), .own o t (xs ++ ys), [(o, .fam (List.length (xs ++ ys)))])
        | _ => none
      | _ => none
  | _ => none

def loadV [tI : Tst] (C : Ctx) (S : List Ent) (t : TypeId) (a : V) : Option Out :=
  if (C.row t).td.good = false then none else
  match a with
  | .p o off => match ent S o with
    | .obj cs => if off + (C.row t).size ≤ cs.length then (if (C.row t).isAgg then val (.agg ((cs.drop off).take (C.row t).size)) else if (C.row t).size = 1 then val (look cs off) else none) else none
    | _ => none
  | .ro s x => if s.agg = (C.row t).isAgg ∧ s.size = (C.row t).size then val (.d s x) else none
  | .pr o i _ => match ent S o with
    | .row s xs => if s.agg = (C.row t).isAgg ∧ s.size = (C.row t).size then some (tst (i < xs.length), .d s (xs.getD i s.dflt), []) else none
    | _ => none
  | _ => none
def storeV [tI : Tst] (C : Ctx) (id : Nat) (S : List Ent) (t : TypeId) (a v : V) : Option Out :=
  if (C.row t).td.good = false then none else
  match a with
  | .p o off => match ent S o with
    | .obj cs =>
      let w : Option (List V × List (Nat × Ent)) := match v with
        | .nils => match (C.row t).ty with | .li e => some ([.own id e ([] : List e.den)], [(id, .fam 0)]) | _ => none
        | v => (flatV v).map fun vs => (vs, [])
      w.bind fun (vs, us) => if vs.length = (C.row t).size ∧ off + vs.length ≤ cs.length then some (true, .un, (o, .obj (replV cs off vs)) :: us) else none
    | _ => none
  | .pr o i _ => match ent S o with
    | .row s xs => if s.size = (C.row t).size then (asT s v).map fun x => (tst (i < xs.length), .un, [(o, .row s (xs.set i x))]) else none
    | _ => none
  | _ => none

def sliceV [tI : Tst] (C : Ctx) (id : Nat) (t : TypeId) (x : V) (lo hi mx : Option V) : Option Out :=
  match x with
  | .d .st l => match (C.row t).td with
    | .str => if mx.isNone then (boundsV (List.length l) lo hi none).map fun (g, a, b, _) => (g, .d .st ((List.take b l).drop a), []) else none
    | _ => none
  | .sr o off n c z => match (C.row t).td with
    | .slice e => if (C.row e).size = z ∧ n ≤ c then (boundsV n lo hi mx).map fun (g, a, b, m) => (g, .sr o (off + a) (b - a) ((m.getD c) - a) z, []) else none
    | _ => none
  | .nils => match (C.row t).td with
    | .slice _ => (boundsV 0 lo hi mx).map fun (g, _, _, _) => (g, .nils, [])
    | _ => none
  | x => match (C.row t).td with
    | .slice e => (listV x).bind fun ⟨s, xs⟩ => if (C.row e).size = s.size then (boundsV xs.length lo hi mx).map fun (g, a, b, m) =>
        match m with
        | none => (g, .d (.li s) ((List.take b xs).drop a), [])
        | some m => (g && tst (m = b), .own id s ((List.take b xs).drop a), [(id, .fam (List.length ((List.take b xs).drop a)))])
      else none
    | _ => none

def indexAddrV [tI : Tst] (C : Ctx) (t : TypeId) (x i : V) : Option Out :=
  match i with
  | .d (.it _) n => match (C.row t).td with
    | .slice e => match x with
      | .d (.li s) xs => if (C.row e).size = s.size then some (tst (0 ≤ n) && tst (n < (List.length xs : Int)), .ro s (List.getD xs n.toNat s.dflt), []) else none
      | .own _ s xs => if (C.row e).size = s.size then some (tst (0 ≤ n) && tst (n < (List.length xs : Int)), .ro s (List.getD xs n.toNat s.dflt), []) else none
      | .sr o off len _ z => if (C.row e).size = z then some (tst (0 ≤ n) && tst (n < (len : Int)), .pr o (off + n.toNat) z, []) else none
      | _ => none
    | .arr m e => match x with
      | .p o off => some (tst (0 ≤ n) && tst (n < (m : Int)), .p o (off + n.toNat * (C.row e).size), [])
      | .ro (.ar k s) xs => if k = m ∧ (C.row e).size = s.size then some (tst (0 ≤ n) && tst (n < (m : Int)), .ro s (List.getD xs n.toNat s.dflt), []) else none
      | _ => none
    | _ => none
  | _ => none
def indexV [tI : Tst] (C : Ctx) (t : TypeId) (x i : V) : Option Out :=
  match i with
  | .d (.it _) n => match (C.row t).td with
    | .str => match x with
      | .d .st l => some (tst (0 ≤ n) && tst (n < (List.length l : Int)), .d (.it .u8) (List.getD l n.toNat 0), [])
      | _ => none
    | .arr m e => match x with
      | .d (.ar k s) xs => if k = m ∧ (C.row e).size = s.size ∧ (C.row e).isAgg = s.agg then some (tst (0 ≤ n) && tst (n < (m : Int)), .d s (List.getD xs n.toNat s.dflt), []) else none
      | .agg cs => if cs.length = m * (C.row e).size then (if (C.row e).isAgg then some (tst (0 ≤ n) && tst (n < (m : Int)), .agg ((cs.drop (n.toNat * (C.row e).size)).take (C.row e).size), []) else some (tst (0 ≤ n) && tst (n < (m : Int)), look cs (n.toNat * (C.row e).size), [])) else none
      | _ => none
    | _ => none
  | _ => none
def fieldAddrV (C : Ctx) (t : TypeId) (x : V) (f : Nat) : Option Out :=
  match (C.row t).td with
  | .struct fs => match fs[f]? with
    | some (off, _) => match x with
      | .p o a => val (.p o (a + off))
      | .ro s x => match fieldT f s x 0 with
        | some (a, ⟨r, y⟩) => if a = off then val (.ro r y) else none
        | none => none
      | _ => none
    | none => none
  | _ => none
def fieldV (C : Ctx) (t : TypeId) (x : V) (f : Nat) : Option Out :=
  match (C.row t).td with
  | .struct fs => match fs[f]? with
    | some (off, e) => match x with
      | .agg cs => if off + (C.row e).size ≤ cs.length then (if (C.row e).isAgg then val (.agg ((cs.drop off).take (C.row e).size)) else val (look cs off)) else none
      | .d s x => match fieldT f s x 0 with
        | some (a, ⟨r, y⟩) => if a = off ∧ r.agg = (C.row e).isAgg ∧ r.size = (C.row e).size then val (.d r y) else none
        | none => none
      | _ => none
    | none => none
  | _ => none

def buildV (offs : Nat → Option (Nat × Nat)) : List (Nat × V) → List V → Option (List V)
  | [], cs => some cs
  | (i, v) :: ps, cs => match offs i with
    | some (off, size) => (flatV v).bind fun vs => if vs.length = size ∧ off + size ≤ cs.length then buildV offs ps (replV cs off vs) else none
    | none => none
def elemsV (t : Ty) : Nat → List (Nat × V) → Option (List t.den)
  | _, [] => some []
  | n, (i, v) :: ps => if i = n then (asT t v).bind fun x => (elemsV t (n + 1) ps).map fun xs => x :: xs else none

/-- one operation: whether it goes through, what it tells, what it turns -/
def evOp [tI : Tst] (C : Ctx) (o : Oper) (id : Nat) (r : Operand → V) (S : List Ent) : Option Out :=
  match o.op with
  | .move x => val (r x)
  | .assign x => match r x with
    | .nils => (match (C.row o.type).ty with | .li t => some (true, .own id t ([] : List t.den), [(id, .fam 0)]) | _ => val .nils)
    | v => val v
  | .pick c a b => match r c with | .d .bo x => val (br x (r a) (r b)) | _ => none
  | .alloc t => if (C.row t).td.good = true then some (true, .p id 0, (id, .obj (zeros (C.row t).cells (id + 1))) :: zeroFams (C.row t).cells (id + 1)) else none
  | .box _ x => (flatV (r x)).map fun vs => (true, .p id 0, [(id, .obj vs)])
  | .build t ps => match (C.row t).td with
    | .struct fs => (buildV (fun i => (fs[i]?).map fun f => (f.1, (C.row f.2).size)) (ps.toList.map fun (i, x) => (i, r x)) ((C.row t).cells.map fun t => .d t t.dflt)).bind fun cs => val (.agg cs)
    | .arr _ e => (buildV (fun i => some (i * (C.row e).size, (C.row e).size)) (ps.toList.map fun (i, x) => (i, r x)) ((C.row t).cells.map fun t => .d t t.dflt)).bind fun cs => val (.agg cs)
    | _ => none
  | .buildSlice t n ps => match (C.row t).td with
    | .slice e => if ps.size = n ∧ n * (C.row e).size ≤ 16777216 then forceTy (C.row e).ty fun t => (elemsV t 0 (ps.toList.map fun (i, x) => (i, r x))).bind fun xs => some (true, .own id t xs, [(id, .lit xs.length)]) else none
    | _ => none
  | .load t a => loadV C S t (r a)
  | .store t a x => storeV C id S t (r a) (r x)
  | .nilCheck x => match r x with
    | .p o a => val (.p o a) | .ro t x => val (.ro t x) | .pr o i s => val (.pr o i s) | .fn f fs c => val (.fn f fs c) | _ => none
  | .binOp op t x y _ => (binV (C.row t).td op (r x) (r y)).map fun (g, v) => (g, v, [])
  | .unOp op _ x => (unV op (r x)).bind val
  | .convert src dst x => match convS C src dst (r x) S with | some out => some out | none => (convV C src dst (r x)).bind val
  | .makeInterface t x => if (C.row t).td.good = true then val (.ifc t (r x)) else none
  | .makeFunc (.func f) first cap => val (.fn f (first.toList.map r) (cap.toList.map r))
  | .slice t x lo hi mx => sliceV C id t (r x) (lo.map r) (hi.map r) (mx.map r)
  | .fieldAddr t x f => fieldAddrV C t (r x) f
  | .field t x f => fieldV C t (r x) f
  | .indexAddr t x i => indexAddrV C t (r x) (r i)
  | .index t x i => indexV C t (r x) (r i)
  | .typeAssert x _ t ok => match r x with
    | .ifc s v => if (C.row t).td.good = true ∧ s = t then (if ok then val (.tup [v, .d .bo true]) else val v) else none
    | _ => none
  | .extract x i => match r x with | .tup vs => (match vs[i]? with | some v => val v | none => none) | _ => none
  | .call { callee := .builtin b, args, argTypes } =>
    match b, args.toList, argTypes.toList with
    | .len, [x], [t] => (lenV (C.row t).td (r x)).bind fun n => val (.d (.it .i64) n)
    | .append, [s, x], [st, xt] => appendV C id S st xt (r s) (r x)
    | .min, [x, y], _ => (minmax false [r x, r y]).bind val
    | .max, [x, y], _ => (minmax true [r x, r y]).bind val
    | _, _, _ => none
  | _ => none

inductive Ex where
  | normal | exit (id : Nat) | ret

section
variable {R : Type}
/-- a call that the walker goes into: of its arguments, what it may make first, and the memory -/
abbrev CallH (R : Type) := FuncId → List V → Nat → List Ent → (V → List Ent → Option R) → Option R
/-- calls by contract: the kinds of the arguments, and what is told of them -/
abbrev Tab := FuncId → Option (List Ty × (List V → Option (Bool × V)))

/-- what an operation touches of what is there already: nothing; nothing, but it makes something; one entry, reading or turning it; any -/
inductive Touch where
  | no | new | rd (o : Nat) | wr (o : Nat) | all
  deriving DecidableEq

/-- arguments seen as data of their kinds -/
def argsV : List Ty → List V → Option (List V)
  | [], [] => some []
  | t :: ts, v :: vs => (asT t v).bind fun x => (argsV ts vs).map fun ys => .d t x :: ys
  | _, _ => none
/-- what a contract tells, with a family for the first slice of its own -/
def importV (id : Nat) : V → V × Option Nat
  | .own _ t xs => (.own id t xs, some (List.length xs))
  | .tup vs => let r := go id vs; (.tup r.1, r.2)
  | v => (v, none)
where
  go (id : Nat) : List V → List V × Option Nat
    | [] => ([], none)
    | .own _ t xs :: vs => (.own id t xs :: rest vs, some (List.length xs))
    | v :: vs => let r := go id vs; (v :: r.1, r.2)
  rest : List V → List V
    | [] => []
    | .own _ t xs :: vs => .d (.li t) xs :: rest vs
    | v :: vs => v :: rest vs
def tabV (tab : Tab) (g : FuncId) (args : List V) (id : Nat) : Option Out :=
  match tab g with
  | some (ts, F) => (argsV ts args).bind fun xs => (F xs).map fun (g, v) => (g, (importV id v).1, match (importV id v).2 with | some n => [(id, .fam n)] | none => [])
  | none => none

def touch (tab : Tab) (o : Oper) (r : Operand → V) : Touch :=
  match o.op with
  | .alloc _ | .box _ _ | .buildSlice _ _ _ => .new
  | .assign x => match r x with | .nils => .new | _ => .no
  | .slice _ _ _ _ (some _) => .new
  | .load _ a => match r a with | .p o _ => .rd o | .pr o _ _ => .rd o | _ => .no
  | .convert s d x => match Nat.beq s d, r x with | true, .own o _ _ => .wr o | _, _ => .no
  | .store _ a _ => match r a with | .p o _ => .wr o | .pr o _ _ => .wr o | _ => .no
  | .call { callee := .builtin .append, args, .. } => match (args.toList[0]?).map r with | some (.own o _ _) => .wr o | _ => .new
  | .call { callee := .builtin _, .. } => .no
  | .call { callee := .value f, .. } => match r f with | .fn g _ _ => (match tab g with | some _ => .new | none => .all) | _ => .all
  | .call _ => .all
  | _ => .no

def forceT (t : Touch) (k : Touch → Option R) : Option R := match t with | .no => k .no | .new => k .new | .rd o => k (.rd o) | .wr o => k (.wr o) | .all => k .all
theorem forceT_eq (t : Touch) (k : Touch → Option R) : forceT t k = k t := by cases t <;> rfl
def dstK (dst : Option Tmp) (sl : List V) (v : V) (k : List V → Option R) : Option R :=
  match dst with
  | some d => forceV v fun v => setK sl d v k
  | none => k sl

/-- one operation, with what comes behind -/
def evOper [tI : Tst] (C : Ctx) (tab : Tab) (call : CallH R) (o : Oper) (id : Nat) (sl : List V) (S : List Ent) (k : List V → List Ent → Option R) : Option R :=
  match o.op with
  | .call { callee := .value f, args, .. } =>
    match opd sl f with
    | .fn g fi cap => match tab g with
      | some _ => (match tabV tab g (fi ++ args.toList.map (opd sl) ++ cap) id with
        | some (g, v, us) => br g (setsE S us fun S => dstK o.dst sl v fun sl => k sl S) none
        | none => none)
      | none => call g (fi ++ args.toList.map (opd sl) ++ cap) id S fun v S => dstK o.dst sl v fun sl => k sl S
    | _ => none
  | .call { callee := .invoke _ _, .. } => none
  | _ => match evOp C o id (opd sl) S with
    | some (g, v, us) => br g (setsE S us fun S => dstK o.dst sl v fun sl => k sl S) none
    | none => none

/-- one operation that is done, or left out, and what comes behind (which stands once) -/
def runK [tI : Tst] (C : Ctx) (tab : Tab) (call : CallH R) (o : Oper) (id : Nat) (sl : List V) (S : List Ent) (ts : List Touch) (rest : Nat → List V → List Ent → List Touch → Option R) : Option R :=
  evOper C tab call o id sl S fun sl' S => addK id (need C o) fun id => forceT (touch tab o (opd sl)) fun t => rest id sl' S (t :: ts)
def skipK (C : Ctx) (o : Oper) (id : Nat) (sl : List V) (S : List Ent) (ts : List Touch) (rest : Nat → List V → List Ent → List Touch → Option R) : Option R :=
  dstK o.dst sl .un fun sl => addK id (need C o) fun id => rest id sl S (.no :: ts)
def stepK [tI : Tst] (C : Ctx) (tab : Tab) (call : CallH R) (all : Array Oper) (o : Oper) (id : Nat) (sl : List V) (S : List Ent) (ts : List Touch) (rest : Nat → List V → List Ent → List Touch → Option R) : Option R :=
  match o.guard with
  | none => runK C tab call o id sl S ts rest
  | some (j, want) => match (all[j]?).bind (·.dst) with
    | some d => match look sl d with
      | .d .bo x => match want with
        | true => br x (setK sl d (.d .bo true) fun sl => runK C tab call o id sl S ts rest) (setK sl d (.d .bo false) fun sl => skipK C o id sl S ts rest)
        | false => br x (setK sl d (.d .bo true) fun sl => skipK C o id sl S ts rest) (setK sl d (.d .bo false) fun sl => runK C tab call o id sl S ts rest)
      | .un => skipK C o id sl S ts rest
      | _ => none
    | none => none
def evOps [tI : Tst] (C : Ctx) (tab : Tab) (call : CallH R) (all : Array Oper) : List Oper → Nat → List V → List Ent → List Touch → (List V → List Ent → List Touch → Option R) → Option R
  | [], _, sl, S, ts, k => k sl S ts
  | o :: os, id, sl, S, ts, k => stepK C tab call all o id sl S ts fun id sl S ts => evOps C tab call all os id sl S ts k

/-- behind a round what it made is let go: no slot speaks of it any more -/
def scrub (n : Nat) : V → V
  | .own o t xs => if o < n then .own o t xs else .d (.li t) xs
  | .p o a => if o < n then .p o a else .bad
  | .sr o a l c s => if o < n then .sr o a l c s else .bad
  | .pr o i s => if o < n then .pr o i s else .bad
  | .agg cs => .agg (scrubs n cs)
  | .fn f fs cs => .fn f (scrubs n fs) (scrubs n cs)
  | .tup _ => .bad
  | .ifc _ _ => .bad
  | v => v
where
  scrubs (n : Nat) : List V → List V
    | [] => []
    | c :: cs => (match c with
      | .own o t xs => if o < n then .own o t xs else .d (.li t) xs
      | .p o a => if o < n then .p o a else .bad
      | .d t x => .d t x
      | _ => .bad) :: scrubs n cs
def pickK (n : Nat) (live : List Nat) : Nat → List V → (List V → Option R) → Option R
  | _, [], k => k []
  | i, v :: vs, k => if live.contains i then pickK n live (i + 1) vs fun vs => forceV (scrub n v) fun v => k (v :: vs) else pickK n live (i + 1) vs fun vs => k (.bad :: vs)
def scrubsK (n : Nat) : List V → (List V → Option R) → Option R
  | [], k => k []
  | v :: vs, k => scrubsK n vs fun vs => forceV (scrub n v) fun v => k (v :: vs)
def truncK (n : Nat) : List Ent → (List Ent → Option R) → Option R := go n n
where
  go (m : Nat) : Nat → List Ent → (List Ent → Option R) → Option R
    | 0, _, k => k []
    | _ + 1, [], k => k []
    | j + 1, e :: es, k => go m j es fun es => match e with
      | .obj cs => scrubsK m cs fun cs => k (.obj cs :: es)
      | .gone => k (.gone :: es) | .row t xs => k (.row t xs :: es) | .fam l => k (.fam l :: es) | .lit l => k (.lit l :: es)

def loopN (n : Nat) (live : List Nat) (body : List V → List Ent → (Ex → List V → List Ent → Option R) → Option R) :
    Nat → List V → List Ent → (Ex → List V → List Ent → Option R) → Option R
  | 0, _, _, _ => none
  | f + 1, sl, S, k => body sl S fun e sl S => match e with
    | .normal => pickK n live 0 sl fun sl => truncK n S fun S => loopN n live body f sl S k
    | e => k e sl S

/-- may the order be left open? pairs that are not ordered touch nothing alike -/
def Touch.apart : Touch → Touch → Bool
  | .no, _ | _, .no => true
  | .all, _ | _, .all => false
  | .new, _ | _, .new => true
  | .rd _, .rd _ => true
  | .rd a, .wr b | .wr a, .rd b | .wr a, .wr b => a != b
def reads (all : Array Oper) (o : Oper) : List Nat :=
  (o.op.operands.toList.filterMap fun | .tmp t => some t | _ => none) ++ (match o.guard with | some (j, _) => (((all[j]?).bind (·.dst)).toList) | none => [])
def ancs : List Oper → List (List Nat) → List (List Nat)
  | [], acc => acc
  | o :: os, acc => ancs os (acc ++ [o.after.toList.foldl (fun s e => if Region.binds .any e then e.on :: (acc.getD e.on [] ++ s) else s) []])
def apartAt (all : Array Oper) (o p : Oper) : Bool :=
  (match o.dst with | some d => !(reads all p).contains d && p.dst != some d | none => true) && (match p.dst with | some d => !(reads all o).contains d | none => true)
def Touch.off : Touch → Nat → Nat → Bool
  | .rd n, a, b | .wr n, a, b => decide (n < a) || decide (b ≤ n)
  | _, _, _ => true
def idAt (C : Ctx) (all : Array Oper) (n : Nat) : Nat → Nat
  | 0 => n
  | i + 1 => idAt C all n i + (match all[i]? with | some o => need C o | none => 0)
def ordOK (C : Ctx) (all : Array Oper) (n0 : Nat) (ts : List Touch) : Bool :=
  let an := ancs all.toList []
  let n := all.size
  ts.length == n && (List.range n).all fun j => (all[j]?).any fun p => p.after.toList.all (fun e => !Region.binds .any e || decide (e.on < j)) && (List.range j).all fun i => (an.getD j []).contains i ||
    (all[i]?).any fun o => apartAt all o p && (ts.getD i .all).apart (ts.getD j .all) && (ts.getD i .all).off (idAt C all n0 j) (idAt C all n0 (j + 1)) && (ts.getD j .all).off (idAt C all n0 i) (idAt C all n0 (i + 1))
/-- kept as it stands while the walker goes -/
def ordB [tI : Tst] (C : Ctx) (all : Array Oper) (n0 : Nat) (ts : List Touch) : Bool := tst (ordOK C all n0 ts = true)
theorem ordB_of [tI : Tst] {C : Ctx} {all : Array Oper} {n0 : Nat} {ts : List Touch} (h : ordOK C all n0 ts = true) : ordB C all n0 ts = true := tst_iff.2 h

/-- of a region's text alone: pairs that are not ordered name nothing alike -/
def staticOK (all : Array Oper) : Bool :=
  let an := ancs all.toList []
  (List.range all.size).all fun j => (all[j]?).any fun p => p.after.toList.all (fun e => !Region.binds .any e || decide (e.on < j)) && (List.range j).all fun i => (an.getD j []).contains i || (all[i]?).any fun o => apartAt all o p
class StOK (all : Array Oper) : Prop where
  ok : staticOK all = true
def Touch.calm (n0 : Nat) : Touch → Bool
  | .no | .new => true
  | .rd n => decide (n < n0)
  | _ => false
def calmB (n0 : Nat) (all : Array Oper) (ts : List Touch) : Bool := ts.length == all.size && ts.all (Touch.calm n0)
theorem idAt_ge (C : Ctx) (all : Array Oper) (n : Nat) : ∀ i, n ≤ idAt C all n i
  | 0 => Nat.le_refl _
  | i + 1 => Nat.le_trans (idAt_ge C all n i) (Nat.le_add_right _ _)
theorem calm_apart {n0 : Nat} {s t : Touch} (hs : s.calm n0 = true) (ht : t.calm n0 = true) : s.apart t = true := by
  cases s <;> cases t <;> simp_all [Touch.calm, Touch.apart]
theorem calm_off {n0 : Nat} {s : Touch} (hs : s.calm n0 = true) {a b : Nat} (h : n0 ≤ a) : s.off a b = true := by
  cases s <;> simp_all [Touch.calm, Touch.off]
  omega
theorem ordB_st [tI : Tst] {C : Ctx} {all : Array Oper} {n0 : Nat} {ts : List Touch} [h : StOK all] (hc : calmB n0 all ts = true) : ordB C all n0 ts = true := by
  refine ordB_of ?_
  have hs := h.ok
  unfold staticOK at hs
  unfold calmB at hc
  rw [Bool.and_eq_true] at hc
  unfold ordOK
  simp only
  rw [Bool.and_eq_true]
  refine ⟨hc.1, ?_⟩
  have hl : ts.length = all.size := by simpa using hc.1
  have hq : ∀ i, i < all.size → (ts.getD i .all).calm n0 = true := by
    intro i hi
    rw [List.getD_eq_getElem?_getD, List.getElem?_eq_getElem (by omega)]
    exact List.all_eq_true.1 hc.2 _ (List.getElem_mem _)
  rw [List.all_eq_true] at hs ⊢
  intro j hj
  have hj' := List.mem_range.1 hj
  have := hs j hj
  revert this
  cases hp : all[j]? with
  | none => simp
  | some p =>
    simp only [Option.any_some, Bool.and_eq_true]
    rintro ⟨h1, h2⟩
    refine ⟨h1, ?_⟩
    rw [List.all_eq_true] at h2 ⊢
    intro i hi
    have hi' := List.mem_range.1 hi
    have := h2 i hi
    rw [Bool.or_eq_true] at this ⊢
    refine this.imp id ?_
    cases ho : all[i]? with
    | none => simp
    | some o =>
      simp only [Option.any_some]
      intro ha
      rw [ha, calm_apart (hq i (by omega)) (hq j hj'), calm_off (hq i (by omega)) (idAt_ge C all n0 j), calm_off (hq j hj') (idAt_ge C all n0 i)]
      rfl
def reserve (C : Ctx) (ops : List Oper) : Nat := (ops.map (need C)).foldl (· + ·) 0

/-- what comes behind, as a word: it stands once -/
def seqK (go : List V → List Ent → (Ex → List V → List Ent → Option R) → Option R) (k : Ex → List V → List Ent → Option R) : Ex → List V → List Ent → Option R
  | .normal, sl, S => go sl S k
  | .exit id, sl, S => k (.exit id) sl S
  | .ret, sl, S => k .ret sl S
def blockK (C : Ctx) (n id : Nat) (k : Ex → List V → List Ent → Option R) : Ex → List V → List Ent → Option R
  | .exit j, sl', S' => if j = id then pickK n (C.live id).2 0 sl' fun sl => truncK n S' fun S => k .normal sl S else k (.exit j) sl' S'
  | .normal, sl', S' => pickK n (C.live id).2 0 sl' fun sl => truncK n S' fun S => k .normal sl S
  | .ret, sl', S' => k .ret sl' S'
def evC [tI : Tst] (C : Ctx) (tab : Tab) (call : CallH R) (fuel : Nat) : Nat → Code → List V → List Ent → (Ex → List V → List Ent → Option R) → Option R
  | _, .skip, sl, S, k => k .normal sl S
  | _, .label _, sl, S, k => k .normal sl S
  | _, .region _ ops draw, sl, S, k =>
    lenK S 0 fun n => growK S (reserve C ops.toList) fun S' => evOps C tab call ops ops.toList n sl S' [] fun sl S ts =>
      match draw with
      | true => br (ordB C ops n ts.reverse) (k .normal sl S) none
      | false => k .normal sl S
  | cur, .seq a b, sl, S, k => evC C tab call fuel cur a sl S (seqK (fun sl S k => evC C tab call fuel cur b sl S k) k)
  | cur, .cond c t e, sl, S, k => match opd sl c with
    | .d .bo x => br x (evC C tab call fuel cur t sl S k) (evC C tab call fuel cur e sl S k)
    | _ => none
  | _, .block id body, sl, S, k => lenK S 0 fun n => evC C tab call fuel id body sl S (blockK C n id k)
  | cur, .loop body, sl, S, k => lenK S 0 fun n => pickK n (C.live cur).1 0 sl fun sl =>
      loopN n (C.live cur).1 (fun sl S k => evC C tab call fuel cur body sl S k) fuel sl S k
  | _, .exit id, sl, S, k => k (.exit id) sl S
  | _, .ret, sl, S, k => k .ret sl S
  | _, _, _, _, _ => none

/-- the results -/
def resV [tI : Tst] (C : Ctx) (S : List Ent) (sl : List V) : List ResultVar → Option (List V)
  | [] => some []
  | .tmp t :: rs => (resV C S sl rs).map fun vs => look sl t :: vs
  | .cell a t :: rs => match look sl a with
    | .p o off => match loadV C S t (.p o off) with
      | some (true, v, _) => (resV C S sl rs).map fun vs => v :: vs
      | _ => none
    | _ => none
def evFn [tI : Tst] (C : Ctx) (tab : Tab) (call : CallH R) (fuel : Nat) (fn : Func) (args : List V) (S : List Ent) (k : V → List Ent → Option R) : Option R :=
  match fn.body with
  | none => none
  | some c => evC C tab call fuel 0 c (args ++ List.replicate (fn.ntmps - args.length) .un) S fun e sl S =>
    match e with
    | .exit _ => none
    | _ => match resV C S sl fn.results.toList with
      | some [v] => k v S
      | some vs => k (.tup vs) S
      | none => none
end
end Go.Proofs.Ytdhbelpejaobdaa.Ev
