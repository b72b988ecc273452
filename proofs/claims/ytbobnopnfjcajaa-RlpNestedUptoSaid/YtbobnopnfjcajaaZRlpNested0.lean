/- RlpNested: the Go law of that name returns true for every input and leaves its arguments as they were. Conditions: none but the statement's own. Written by a program of this session out of the translation. -/
import Derived.Test.YtbobnopnfjcajaaPx0
import Derived.Test.YtbobnopnfjcajaaPx18
import Derived.Test.YtbobnopnfjcajaaRows
import Derived.WalkKit
import Derived.ProofKit
import Derived.OpenShut
import Derived.ShutString
import Derived.ChangeOld
import Derived.Below
import Derived.SizedLaws
import Derived.JoinedCond
/- Plain Lean tools for the pure statements: a function with rounds that comes to a value for all great numbers of rounds, and what the fixed-width operations tell. -/
namespace Go.Proofs.Ytbobnopnfjcajaa.Base
open Go Go.RowKit Go.Proofs.YtbobnopnfjcajaaW.PrintWords Go.Proofs.YtbobnopnfjcajaaW.PrintLast Go.Proofs.YtbobnopnfjcajaaW.PrintMore

/-- from some number of rounds on, the function tells this value -/
def Conv {α : Type} (f : Nat → Option α) (v : α) : Prop := ∃ K, ∀ k, K ≤ k → f k = some v

theorem Conv.pure {α : Type} (v : α) : Conv (fun _ => some v) v := ⟨0, fun _ _ => rfl⟩
theorem Conv.const {α : Type} {x : Option α} {v : α} (h : x = some v) : Conv (fun _ => x) v := ⟨0, fun _ _ => h⟩
theorem Conv.succ {α : Type} {f : Nat → Option α} {v : α} (h : Conv (fun k => f (k + 1)) v) : Conv f v := by
  obtain ⟨K, h⟩ := h
  refine ⟨K + 1, fun k hk => ?_⟩
  obtain ⟨j, rfl⟩ : ∃ j, k = j + 1 := ⟨k - 1, by omega⟩
  exact h j (by omega)
theorem Conv.bind {α β : Type} {f : Nat → Option α} {g : Nat → α → Option β} {a : α} {v : β} (hf : Conv f a) (hg : Conv (fun k => g k a) v) : Conv (fun k => (f k).bind (g k)) v := by
  obtain ⟨K, hf⟩ := hf
  obtain ⟨L, hg⟩ := hg
  refine ⟨max K L, fun k hk => ?_⟩
  show (f k).bind (g k) = some v
  rw [hf k (by omega)]
  exact hg k (by omega)
theorem Conv.bindc {α β : Type} {x : Option α} {g : Nat → α → Option β} {a : α} {v : β} (hf : x = some a) (hg : Conv (fun k => g k a) v) : Conv (fun k => x.bind (g k)) v := by
  subst hf; exact hg
theorem Conv.iteT {α : Type} {c : Prop} [Decidable c] {f g : Nat → Option α} {v : α} (hc : c) (h : Conv f v) : Conv (fun k => if c then f k else g k) v := by
  simpa only [if_pos hc] using h
theorem Conv.iteF {α : Type} {c : Prop} [Decidable c] {f g : Nat → Option α} {v : α} (hc : ¬ c) (h : Conv g v) : Conv (fun k => if c then f k else g k) v := by
  simpa only [if_neg hc] using h
theorem Conv.ite {α : Type} {c : Prop} [Decidable c] {f g : Nat → Option α} {v : α} (h1 : c → Conv f v) (h2 : ¬ c → Conv g v) : Conv (fun k => if c then f k else g k) v := by
  by_cases hc : c
  · exact Conv.iteT hc (h1 hc)
  · exact Conv.iteF hc (h2 hc)
theorem Conv.ex {α : Type} {f : Nat → Option α} {v : α} (h : Conv f v) : ∃ k, f k = some v := by
  obtain ⟨K, h⟩ := h; exact ⟨K, h K (Nat.le_refl _)⟩
theorem Conv.of_eq {α : Type} {f g : Nat → Option α} {v : α} (e : ∀ k, f k = g k) (h : Conv g v) : Conv f v := by
  obtain ⟨K, h⟩ := h; exact ⟨K, fun k hk => by rw [e k]; exact h k hk⟩
theorem Conv.eq {α : Type} {f : Nat → Option α} {v u : α} (h : Conv f v) (e : v = u) : Conv f u := e ▸ h

theorem wrap64_id {n : Int} (h : -9223372036854775808 ≤ n) (h' : n < 9223372036854775808) : wrap64 n = n := by unfold wrap64; omega
theorem wrapU64 (n : Int) : IntKind.u64.wrap n = n % 18446744073709551616 := by simp [IntKind.wrap, IntKind.bits, IntKind.signed]
theorem wrapU64_id {n : Int} (h : 0 ≤ n) (h' : n < 18446744073709551616) : IntKind.u64.wrap n = n := by rw [wrapU64]; omega
theorem wrapU32 (n : Int) : IntKind.u32.wrap n = n % 4294967296 := by simp [IntKind.wrap, IntKind.bits, IntKind.signed]
theorem wrapU8 (n : Int) : IntKind.u8.wrap n = n % 256 := by simp [IntKind.wrap, IntKind.bits, IntKind.signed]
theorem wf_u8 {x : Int} (h : (Lit.int .u8 x).wf = true) : 0 ≤ x ∧ x < 256 := by
  simp [Lit.wf, IntKind.min, IntKind.max, IntKind.bits, IntKind.signed] at h; omega
theorem wf_u64 {x : Int} (h : (Lit.int .u64 x).wf = true) : 0 ≤ x ∧ x < 18446744073709551616 := by
  simp [Lit.wf, IntKind.min, IntKind.max, IntKind.bits, IntKind.signed] at h; omega
theorem wf_i64 {x : Int} (h : (Lit.int .i64 x).wf = true) : -9223372036854775808 ≤ x ∧ x < 9223372036854775808 := by
  simp [Lit.wf, IntKind.min, IntKind.max, IntKind.bits, IntKind.signed] at h; omega

/-- all are bytes -/
def Bytes (l : List Int) : Prop := ∀ x ∈ l, 0 ≤ x ∧ x < 256
theorem bytes_of_wf {l : List Int} (h : ∀ x ∈ l, (Lit.int .u8 x).wf = true) : Bytes l := fun x hx => wf_u8 (h x hx)
theorem Bytes.append {a b : List Int} (ha : Bytes a) (hb : Bytes b) : Bytes (a ++ b) := fun x hx => by
  rcases List.mem_append.mp hx with h | h
  · exact ha x h
  · exact hb x h
theorem Bytes.take {a : List Int} (ha : Bytes a) (n : Nat) : Bytes (a.take n) := fun x hx => ha x (List.mem_of_mem_take hx)
theorem Bytes.drop {a : List Int} (ha : Bytes a) (n : Nat) : Bytes (a.drop n) := fun x hx => ha x (List.mem_of_mem_drop hx)
theorem rd_get {l : List Int} {i : Nat} (h : i < l.length) : rd l (i : Int) = l[i] := by
  simp [rd, List.getD_eq_getElem?_getD, h]
theorem rd_bytes {l : List Int} (hl : Bytes l) (i : Int) : 0 ≤ rd l i ∧ rd l i < 256 := by
  by_cases h : i.toNat < l.length
  · have : rd l i = l[i.toNat] := by simp [rd, List.getD_eq_getElem?_getD, h]
    rw [this]; exact hl _ (List.getElem_mem h)
  · have : rd l i = 0 := by simp [rd, List.getD_eq_getElem?_getD, Nat.le_of_not_lt h]
    rw [this]; omega
theorem drop_cons {l : List Int} {i : Nat} (h : i < l.length) : l.drop i = rd l (i : Int) :: l.drop (i + 1) := by
  rw [rd_get h, List.drop_eq_getElem_cons h]

/-- the numbers told back as bytes and again as numbers -/
theorem strOfNums_inj {a b : List Int} (ha : Bytes a) (hb : Bytes b) (h : (strOfNums a).toList = (strOfNums b).toList) : a = b := by
  have key : ∀ l : List Int, (strOfNums l).toList = l.map fun n => UInt8.ofNat n.toNat := by intro l; rw [Go.ByteArray.toList_eq, Go.strOfNums_data]
  rw [key, key] at h
  have hlen : a.length = b.length := by simpa using congrArg List.length h
  refine List.ext_getElem hlen fun i h1 h2 => ?_
  have this : (a.map fun n => UInt8.ofNat n.toNat)[i]? = (b.map fun n => UInt8.ofNat n.toNat)[i]? := by rw [h]
  simp only [List.getElem?_map, List.getElem?_eq_getElem h1, List.getElem?_eq_getElem h2, Option.map_some, Option.some.injEq] at this
  have p := ha _ (List.getElem_mem h1)
  have q := hb _ (List.getElem_mem h2)
  have e : a[i].toNat % 2 ^ 8 = b[i].toNat % 2 ^ 8 := by
    have := congrArg UInt8.toNat this
    rwa [UInt8.toNat_ofNat', UInt8.toNat_ofNat'] at this
  omega
theorem strOfNums_beq {a b : List Int} (ha : Bytes a) (hb : Bytes b) : ((strOfNums a).toList == (strOfNums b).toList) = (a == b) := by
  by_cases h : a = b
  · subst h; simp
  · have : ¬ (strOfNums a).toList = (strOfNums b).toList := fun e => h (strOfNums_inj ha hb e)
    rw [beq_eq_false_iff_ne.mpr h, beq_eq_false_iff_ne.mpr this]

theorem bits_xor32 (x y : Int) : Go.bits .xor .u32 x y = ((BitVec.ofInt 32 x ^^^ BitVec.ofInt 32 y).toNat : Int) := by
  unfold Go.bits
  rw [wrapU32]
  exact Int.emod_eq_of_lt (Int.natCast_nonneg _) (Int.ofNat_lt.mpr (BitVec.isLt _))
theorem bits_and32 (x y : Int) : Go.bits .and .u32 x y = ((BitVec.ofInt 32 x &&& BitVec.ofInt 32 y).toNat : Int) := by
  unfold Go.bits
  rw [wrapU32]
  exact Int.emod_eq_of_lt (Int.natCast_nonneg _) (Int.ofNat_lt.mpr (BitVec.isLt _))
theorem bits_xor8 (x y : Int) : Go.bits .xor .u8 x y = ((BitVec.ofInt 8 x ^^^ BitVec.ofInt 8 y).toNat : Int) := by
  unfold Go.bits
  rw [wrapU8]
  exact Int.emod_eq_of_lt (Int.natCast_nonneg _) (Int.ofNat_lt.mpr (BitVec.isLt _))
theorem ofInt_toNat {w : Nat} (b : BitVec w) : BitVec.ofInt w ((b.toNat : Nat) : Int) = b := by
  simp [BitVec.ofInt_natCast]
end Go.Proofs.Ytbobnopnfjcajaa.Base
/- RlpNested's pure statement: lists one in another, up to forty, told one by one. -/
namespace Go.Proofs.Ytbobnopnfjcajaa.Pure
set_option linter.unusedVariables false
open Go Go.RowKit Go.Proofs.Ytbobnopnfjcajaa.P Go.Proofs.YtbobnopnfjcajaaW.PrintWords Go.Proofs.YtbobnopnfjcajaaW.PrintLast Go.Proofs.Ytbobnopnfjcajaa.Base

theorem nested_each : ∀ n : Fin 40, morainelaw4_RlpNested.f 300 ((n.val : Int) + 1) = some true := by decide +kernel
theorem nested_few (a : Int) (h : ¬ (1 ≤ a ∧ a ≤ 40)) : morainelaw4_RlpNested.f 300 a = some true := by
  have hk : morainelaw4_known.f 300 = some true := rfl
  unfold morainelaw4_RlpNested.f
  rw [hk]
  by_cases h1 : a < 1
  · simp only [Option.bind_some, if_pos h1]
    rfl
  · simp only [Option.bind_some, if_neg h1]
    rw [show decide (a > 40) = true from decide_eq_true (by omega)]
    rfl
theorem RlpNested : morainelaw4_RlpNested.Pure := by
  intro a hwf
  refine ⟨300, ?_⟩
  by_cases h : 1 ≤ a ∧ a ≤ 40
  · have := nested_each ⟨(a - 1).toNat, by omega⟩
    rw [show (((⟨(a - 1).toNat, by omega⟩ : Fin 40).val : Nat) : Int) + 1 = a by simp only; omega] at this
    exact this
  · exact nested_few a h
end Go.Proofs.Ytbobnopnfjcajaa.Pure
namespace Go.Proofs.Ytbobnopnfjcajaa.rlpNestedUpto
open Go.ChangeShapes Go.WideShapes Go.ChangeAt Go.RowKit
open Go.ChangeMaps (open_string shut_string)
set_option linter.unusedVariables false
theorem own : ownKnob Try.prog.godebug = none := by kernel_rfl
set_option maxRecDepth 100000 in
theorem lifted (os : Os) (started : os.Started) (H : Type) (enc : TypeId × Value → H) (F : Stop.Interp) :
    ReturnsInHanded {} Try.checked os 5 .any ((Rows.OpenSpec.upto Rows.rlpNestedSpec).pre6 enc Try.prog Try.f5 Rows.rlpNestedUptoRow.domain false) (((Rows.OpenSpec.upto Rows.rlpNestedSpec).at F).post enc Try.prog Try.f5 false true false false) := by
  refine returnsInHanded_of_cond (C := Try.checked) (s := (Rows.OpenSpec.upto Rows.rlpNestedSpec)) (k := Rows.uptoSmall) rfl own started (by kernel_rfl) Try.func5
    (OpenSpec.witness (enc := enc) (C := Try.checked) (s := (Rows.OpenSpec.upto Rows.rlpNestedSpec)) (k := Rows.uptoSmall) rfl false ⟨#[], #[.int .i64 0], []⟩ 8 (by kernel_rfl) (by kernel_rfl) (by kernel_rfl)
      (x := ([.lit (.int .i64 0)], [], [])) (by kernel_rfl) rfl (by kernel_rfl)) ?_
  intro W base args ds gs before hval0 hW _ hk _
  have hval : ∀ (j : Nat) t v, Try.f5.params[j]? = some t → args[j]? = some v → Value.okWide Try.prog W .any base t v := hval0
  have hW' := hW
  obtain ⟨p, q, hA0, hV, rfl, hfz, hnd⟩ := hW
  have hA : DataW.TrodAll enc Try.prog W 0 (fun _ => true) true Try.f5.params.toList args.toList ds p := hA0
  rw [Try.params5] at hA hval
  obtain ⟨v0, vs0, d0, ds0, p0, q0, hargs, rfl, rfl, h0, r0⟩ := trodAll_cons hA
  obtain ⟨rfl, rfl, rfl⟩ := trodAll_nil r0
  obtain rfl : args = #[v0] := by cases args; simp_all
  obtain ⟨rfl, rfl⟩ := trodVars_none hV
  obtain ⟨a0, rfl, rfl, rfl, w0⟩ := open_int Try.underlying3 (hval 0 3 v0 rfl rfl) h0
  clear hA0 hval0
  refine (P.morainelaw4_RlpNested.walk Pure.RlpNested a0 W w0).mono fun e W' ⟨he, bel⟩ => ?_
  subst he
  exact ⟨_, rfl, _, _, _, [], _, [], hW', trodAll_mk1 (shut_bool Try.underlying4 _), (trodAll_cons_mk (shut_int Try.underlying3 w0) trodAll_mk0), rfl, bel.frame _, fun h => by cases h⟩
theorem over : Rows.rlpNestedUptoRow.holds Try.pinned (Rows.OpenSpec.upto Rows.rlpNestedSpec) :=
  OpenClaim.holds_of_cond 5 Try.f5 rfl rfl rfl rfl rfl rfl rfl ⟨rfl, rfl, rfl, rfl, rfl⟩ rfl rfl rfl rfl rfl (by kernel_rfl) Try.func5 (by kernel_rfl)
    (of_decide_eq_true (by kernel_rfl)) (by unfold Func.isWrapper; first | (rw [if_pos (by decide +kernel)]; kernel_rfl) | (rw [if_neg (by decide +kernel)]; exact ⟨rfl, rfl⟩))
    (fun os started H enc _ F => lifted os started H enc F)
theorem proved : Rows.RlpNestedUptoSaid := over
#print axioms proved
end Go.Proofs.Ytbobnopnfjcajaa.rlpNestedUpto
namespace Go.Proofs.Ytbobnopnfjcajaa
/-- The row, under a short name, for the claim. -/
theorem rlpNestedUpto_holds : Rows.RlpNestedUptoSaid := rlpNestedUpto.proved
end Go.Proofs.Ytbobnopnfjcajaa
