/- RlpDecodes: the Go law of that name returns true for every input and leaves its arguments as they were. Conditions: none but the statement's own. Written by a program of this session out of the translation. -/
import Derived.Test.YtbobnopnfjcajaaPx0
import Derived.Test.YtbobnopnfjcajaaPx5
import Derived.Test.YtbobnopnfjcajaaPx7
import Derived.Test.YtbobnopnfjcajaaPx8
import Derived.Test.YtbobnopnfjcajaaPx9
import Derived.Test.YtbobnopnfjcajaaPx10
import Derived.Test.YtbobnopnfjcajaaPx29
import Derived.Test.YtbobnopnfjcajaaPx12
import Derived.Test.YtbobnopnfjcajaaPx31
import Derived.Test.YtbobnopnfjcajaaPx19
import Derived.Test.YtbobnopnfjcajaaPx20
import Derived.Test.YtbobnopnfjcajaaPx17
import Derived.Test.YtbobnopnfjcajaaPx34
import Derived.Test.YtbobnopnfjcajaaRows
import Derived.WalkKit
import Derived.ProofKit
import Derived.OpenShut
import Derived.ShutString
import Derived.ChangeOld
import Derived.Below
import Derived.SizedLaws
import Derived.Test.YtbobnopnfjcajaaWSized
/- Plain Lean tools for the pure statements: a function with rounds that comes to a value for all great numbers of rounds, and what the fixed-width operations tell. -/
namespace Go.Proofs.Ytbobnopnfjcajaa.Base
open Go Go.RowKit Go.Proofs.YtbobnopnfjcajaaW.PrintWords Go.Proofs.YtbobnopnfjcajaaW.PrintLast Go.Proofs.YtbobnopnfjcajaaW.PrintMore

/-- from some number of rounds on, the function tells this value -/
def Conv {α : Type} (f : Nat → Option α) (v : α) : Prop := ∃ K, ∀ k, K ≤ k → f k = some v

theorem Conv.pure {α : Type} (v : α) : Conv (fun _ => some v) v := ⟨0, fun _ _ => rfl⟩
theorem Conv.const {α : Type} {x : Option α} {v : α} (h : x = some v) : Conv (fun _ => x) v := ⟨0, fun _ _ => h⟩
theorem Conv.succ {α : Type} {f : Nat → Option α} {v : α} (h : Conv (fun k => f (k + 1)) v) : Conv f v := by
  obtain ⟨K, h⟩ := h
  refine ⟨K + 1, fun k hk => ?_⟩
  obtain ⟨j, rfl⟩ : ∃ j, k = j + 1 := ⟨k - 1, by omega⟩
  exact h j (by omega)
theorem Conv.bind {α β : Type} {f : Nat → Option α} {g : Nat → α → Option β} {a : α} {v : β} (hf : Conv f a) (hg : Conv (fun k => g k a) v) : Conv (fun k => (f k).bind (g k)) v := by
  obtain ⟨K, hf⟩ := hf
  obtain ⟨L, hg⟩ := hg
  refine ⟨max K L, fun k hk => ?_⟩
  show (f k).bind (g k) = some v
  rw [hf k (by omega)]
  exact hg k (by omega)
theorem Conv.bindc {α β : Type} {x : Option α} {g : Nat → α → Option β} {a : α} {v : β} (hf : x = some a) (hg : Conv (fun k => g k a) v) : Conv (fun k => x.bind (g k)) v := by
  subst hf; exact hg
theorem Conv.iteT {α : Type} {c : Prop} [Decidable c] {f g : Nat → Option α} {v : α} (hc : c) (h : Conv f v) : Conv (fun k => if c then f k else g k) v := by
  simpa only [if_pos hc] using h
theorem Conv.iteF {α : Type} {c : Prop} [Decidable c] {f g : Nat → Option α} {v : α} (hc : ¬ c) (h : Conv g v) : Conv (fun k => if c then f k else g k) v := by
  simpa only [if_neg hc] using h
theorem Conv.ite {α : Type} {c : Prop} [Decidable c] {f g : Nat → Option α} {v : α} (h1 : c → Conv f v) (h2 : ¬ c → Conv g v) : Conv (fun k => if c then f k else g k) v := by
  by_cases hc : c
  · exact Conv.iteT hc (h1 hc)
  · exact Conv.iteF hc (h2 hc)
theorem Conv.ex {α : Type} {f : Nat → Option α} {v : α} (h : Conv f v) : ∃ k, f k = some v := by
  obtain ⟨K, h⟩ := h; exact ⟨K, h K (Nat.le_refl _)⟩
theorem Conv.of_eq {α : Type} {f g : Nat → Option α} {v : α} (e : ∀ k, f k = g k) (h : Conv g v) : Conv f v := by
  obtain ⟨K, h⟩ := h; exact ⟨K, fun k hk => by rw [e k]; exact h k hk⟩
theorem Conv.eq {α : Type} {f : Nat → Option α} {v u : α} (h : Conv f v) (e : v = u) : Conv f u := e ▸ h

theorem wrap64_id {n : Int} (h : -9223372036854775808 ≤ n) (h' : n < 9223372036854775808) : wrap64 n = n := by unfold wrap64; omega
theorem wrapU64 (n : Int) : IntKind.u64.wrap n = n % 18446744073709551616 := by simp [IntKind.wrap, IntKind.bits, IntKind.signed]
theorem wrapU64_id {n : Int} (h : 0 ≤ n) (h' : n < 18446744073709551616) : IntKind.u64.wrap n = n := by rw [wrapU64]; omega
theorem wrapU32 (n : Int) : IntKind.u32.wrap n = n % 4294967296 := by simp [IntKind.wrap, IntKind.bits, IntKind.signed]
theorem wrapU8 (n : Int) : IntKind.u8.wrap n = n % 256 := by simp [IntKind.wrap, IntKind.bits, IntKind.signed]
theorem wf_u8 {x : Int} (h : (Lit.int .u8 x).wf = true) : 0 ≤ x ∧ x < 256 := by
  simp [Lit.wf, IntKind.min, IntKind.max, IntKind.bits, IntKind.signed] at h; omega
theorem wf_u64 {x : Int} (h : (Lit.int .u64 x).wf = true) : 0 ≤ x ∧ x < 18446744073709551616 := by
  simp [Lit.wf, IntKind.min, IntKind.max, IntKind.bits, IntKind.signed] at h; omega
theorem wf_i64 {x : Int} (h : (Lit.int .i64 x).wf = true) : -9223372036854775808 ≤ x ∧ x < 9223372036854775808 := by
  simp [Lit.wf, IntKind.min, IntKind.max, IntKind.bits, IntKind.signed] at h; omega

/-- all are bytes -/
def Bytes (l : List Int) : Prop := ∀ x ∈ l, 0 ≤ x ∧ x < 256
theorem bytes_of_wf {l : List Int} (h : ∀ x ∈ l, (Lit.int .u8 x).wf = true) : Bytes l := fun x hx => wf_u8 (h x hx)
theorem Bytes.append {a b : List Int} (ha : Bytes a) (hb : Bytes b) : Bytes (a ++ b) := fun x hx => by
  rcases List.mem_append.mp hx with h | h
  · exact ha x h
  · exact hb x h
theorem Bytes.take {a : List Int} (ha : Bytes a) (n : Nat) : Bytes (a.take n) := fun x hx => ha x (List.mem_of_mem_take hx)
theorem Bytes.drop {a : List Int} (ha : Bytes a) (n : Nat) : Bytes (a.drop n) := fun x hx => ha x (List.mem_of_mem_drop hx)
theorem rd_get {l : List Int} {i : Nat} (h : i < l.length) : rd l (i : Int) = l[i] := by
  simp [rd, List.getD_eq_getElem?_getD, h]
theorem rd_bytes {l : List Int} (hl : Bytes l) (i : Int) : 0 ≤ rd l i ∧ rd l i < 256 := by
  by_cases h : i.toNat < l.length
  · have : rd l i = l[i.toNat] := by simp [rd, List.getD_eq_getElem?_getD, h]
    rw [this]; exact hl _ (List.getElem_mem h)
  · have : rd l i = 0 := by simp [rd, List.getD_eq_getElem?_getD, Nat.le_of_not_lt h]
    rw [this]; omega
theorem drop_cons {l : List Int} {i : Nat} (h : i < l.length) : l.drop i = rd l (i : Int) :: l.drop (i + 1) := by
  rw [rd_get h, List.drop_eq_getElem_cons h]

/-- the numbers told back as bytes and again as numbers -/
theorem strOfNums_inj {a b : List Int} (ha : Bytes a) (hb : Bytes b) (h : (strOfNums a).toList = (strOfNums b).toList) : a = b := by
  have key : ∀ l : List Int, (strOfNums l).toList = l.map fun n => UInt8.ofNat n.toNat := by intro l; rw [Go.ByteArray.toList_eq, Go.strOfNums_data]
  rw [key, key] at h
  have hlen : a.length = b.length := by simpa using congrArg List.length h
  refine List.ext_getElem hlen fun i h1 h2 => ?_
  have this : (a.map fun n => UInt8.ofNat n.toNat)[i]? = (b.map fun n => UInt8.ofNat n.toNat)[i]? := by rw [h]
  simp only [List.getElem?_map, List.getElem?_eq_getElem h1, List.getElem?_eq_getElem h2, Option.map_some, Option.some.injEq] at this
  have p := ha _ (List.getElem_mem h1)
  have q := hb _ (List.getElem_mem h2)
  have e : a[i].toNat % 2 ^ 8 = b[i].toNat % 2 ^ 8 := by
    have := congrArg UInt8.toNat this
    rwa [UInt8.toNat_ofNat', UInt8.toNat_ofNat'] at this
  omega
theorem strOfNums_beq {a b : List Int} (ha : Bytes a) (hb : Bytes b) : ((strOfNums a).toList == (strOfNums b).toList) = (a == b) := by
  by_cases h : a = b
  · subst h; simp
  · have : ¬ (strOfNums a).toList = (strOfNums b).toList := fun e => h (strOfNums_inj ha hb e)
    rw [beq_eq_false_iff_ne.mpr h, beq_eq_false_iff_ne.mpr this]

theorem bits_xor32 (x y : Int) : Go.bits .xor .u32 x y = ((BitVec.ofInt 32 x ^^^ BitVec.ofInt 32 y).toNat : Int) := by
  unfold Go.bits
  rw [wrapU32]
  exact Int.emod_eq_of_lt (Int.natCast_nonneg _) (Int.ofNat_lt.mpr (BitVec.isLt _))
theorem bits_and32 (x y : Int) : Go.bits .and .u32 x y = ((BitVec.ofInt 32 x &&& BitVec.ofInt 32 y).toNat : Int) := by
  unfold Go.bits
  rw [wrapU32]
  exact Int.emod_eq_of_lt (Int.natCast_nonneg _) (Int.ofNat_lt.mpr (BitVec.isLt _))
theorem bits_xor8 (x y : Int) : Go.bits .xor .u8 x y = ((BitVec.ofInt 8 x ^^^ BitVec.ofInt 8 y).toNat : Int) := by
  unfold Go.bits
  rw [wrapU8]
  exact Int.emod_eq_of_lt (Int.natCast_nonneg _) (Int.ofNat_lt.mpr (BitVec.isLt _))
theorem ofInt_toNat {w : Nat} (b : BitVec w) : BitVec.ofInt w ((b.toNat : Nat) : Int) = b := by
  simp [BitVec.ofInt_natCast]
end Go.Proofs.Ytbobnopnfjcajaa.Base
/- What is laid down for an item, and how long it is: the program's walks told as plain functions over trees. -/
namespace Go.Proofs.Ytbobnopnfjcajaa.Base
set_option linter.unusedVariables false
set_option linter.unusedSimpArgs false
open Go Go.RowKit Go.Proofs.YtbobnopnfjcajaaW.PrintWords Go.Proofs.YtbobnopnfjcajaaW.PrintLast Go.Proofs.YtbobnopnfjcajaaW.PrintMore Go.Proofs.Ytbobnopnfjcajaa.P

theorem Conv.of_mono {α : Type} {f : Nat → Option α} {v : α} (m : ∀ k, LeO (f k) (f (k + 1))) {K : Nat} (h : f K = some v) : Conv f v := by
  refine ⟨K, fun k hk => ?_⟩
  induction k with
  | zero => rw [show K = 0 by omega] at h; exact h
  | succ k ih =>
    by_cases e : K = k + 1
    · rw [← e]; exact h
    · exact m k _ (ih (by omega))

/-- a number's bytes, the highest first -/
def digS (n : Nat) : List Int := if h : n = 0 then [] else digS (n / 256) ++ [((n % 256 : Nat) : Int)]
termination_by n
decreasing_by omega
theorem digS_zero : digS 0 = [] := by unfold digS; simp
theorem digS_pos {n : Nat} (h : 0 < n) : digS n = digS (n / 256) ++ [((n % 256 : Nat) : Int)] := by
  rw [digS, dif_neg (by omega)]
theorem digS_length (j : Nat) : ∀ n : Nat, n < 256 ^ j → (digS n).length ≤ j := by
  induction j with
  | zero => intro n h; rw [show n = 0 by simp at h; exact h, digS_zero]; simp
  | succ j ih =>
    intro n h
    by_cases h0 : n = 0
    · rw [h0, digS_zero]; simp
    · rw [digS_pos (by omega), List.length_append]
      have := ih (n / 256) (by rw [Nat.div_lt_iff_lt_mul (by decide)]; rw [Nat.pow_succ] at h; exact h)
      simp; omega
theorem digS_bytes (n : Nat) : Bytes (digS n) := by
  induction n using Nat.strongRecOn with
  | ind n ih =>
    by_cases h0 : n = 0
    · rw [h0, digS_zero]; intro x hx; cases hx
    · rw [digS_pos (by omega)]
      refine (ih (n / 256) (by omega)).append fun x hx => ?_
      rw [List.mem_singleton.mp hx]; omega
theorem digits_l0 (n : Nat) : ∀ acc : List Int, acc.length + (digS n).length < 140737488355328 → Conv (fun k => rlp_digits.l0 k (n : Int) acc) (digS n ++ acc) := by
  induction n using Nat.strongRecOn with
  | ind n ih =>
    intro acc hl
    refine Conv.succ ?_
    simp only [rlp_digits.l0]
    by_cases h0 : n = 0
    · subst h0
      rw [digS_zero]
      exact Conv.iteF (by omega) (Conv.pure _)
    · rw [digS_pos (by omega)] at hl ⊢
      simp only [List.length_append, List.length_singleton] at hl
      refine Conv.iteT (by omega) (Conv.bindc rfl (Conv.iteT (by simp; omega) ?_))
      have e1 : (n : Int) / 256 = ((n / 256 : Nat) : Int) := by omega
      have e2 : (n : Int) % 256 = ((n % 256 : Nat) : Int) := by omega
      rw [e1, e2]
      have := ih (n / 256) (by omega) ([((n % 256 : Nat) : Int)] ++ acc) (by simp; omega)
      rwa [← List.append_assoc] at this
theorem digits_conv {n : Nat} (h : n < 18446744073709551616) : Conv (fun k => rlp_digits.f k (n : Int)) (digS n) := by
  have hl := digS_length 8 n (by have : (256 : Nat) ^ 8 = 18446744073709551616 := by decide
                                 rw [this]; exact h)
  have := digits_l0 n [] (by simp; omega)
  rwa [List.append_nil] at this
/-- the head of so many bytes -/
def headS (base n : Nat) : List Int := if n ≤ 55 then [((base + n : Nat) : Int)] else ((base + 55 + (digS n).length : Nat) : Int) :: digS n
theorem headS_length (b c n : Nat) : (headS b n).length = (headS c n).length := by
  unfold headS; split <;> simp
theorem headS_le {b n : Nat} (h : n < 18446744073709551616) : 1 ≤ (headS b n).length ∧ (headS b n).length ≤ 9 := by
  have hl := digS_length 8 n (by have : (256 : Nat) ^ 8 = 18446744073709551616 := by decide
                                 rw [this]; exact h)
  unfold headS
  split <;> simp; omega
theorem headS_bytes {b n : Nat} (hb : b ≤ 192) (h : n < 18446744073709551616) : Bytes (headS b n) := by
  have hl := digS_length 8 n (by have : (256 : Nat) ^ 8 = 18446744073709551616 := by decide
                                 rw [this]; exact h)
  unfold headS
  split
  · intro x hx; rw [List.mem_singleton.mp hx]; omega
  · intro x hx
    rcases List.mem_cons.mp hx with h | h
    · rw [h]; omega
    · exact digS_bytes n x h
theorem head_conv {b n : Nat} (hb : b ≤ 192) (h : n < 9223372036854775000) : Conv (fun k => rlp_head.f k (n : Int) (b : Int)) (headS b n) := by
  have hl := digS_length 8 n (by have : (256 : Nat) ^ 8 = 18446744073709551616 := by decide
                                 rw [this]; omega)
  unfold rlp_head.f headS
  by_cases hn : n ≤ 55
  · rw [if_pos hn]
    refine Conv.iteT (by omega) (Conv.eq (Conv.pure _) ?_)
    rw [wrap64_id (by omega) (by omega)]
    congr 1
    omega
  · rw [if_neg hn]
    refine Conv.iteF (by omega) ?_
    rw [wrapU64_id (by omega) (by omega)]
    refine Conv.bind (digits_conv (by omega)) (Conv.bindc rfl (Conv.iteT (by simp; omega) (Conv.eq (Conv.pure _) ?_)))
    rw [wrap64_id (n := (b : Int) + 55) (by omega) (by omega), wrap64_id (by omega) (by omega)]
    simp only [List.cons_append, List.nil_append]
    congr 1
    omega
def ownS (l : List Int) : Bool := decide (l.length = 1 ∧ rd l 0 < 128)
theorem own_eq (l : List Int) : rlp_own.f l = some (ownS l) := by
  unfold rlp_own.f ownS
  by_cases h : l.length = 1
  · rw [if_pos (by omega), if_pos (by omega)]
    congr 1
    simp [h]
  · rw [if_neg (by omega)]
    congr 1
    simp [h]
mutual
/-- an item's bytes -/
def encS : S25 → List Int
  | ⟨b, s, l⟩ => if b = true then headS 192 (encL l).length ++ encL l else if ownS s = true then s else headS 128 s.length ++ s
def encL : List S25 → List Int
  | [] => []
  | x :: l => encS x ++ encL l
end
theorem encL_append (a b : List S25) : encL (a ++ b) = encL a ++ encL b := by
  induction a with
  | nil => rfl
  | cons x a ih => simp [encL, ih]
theorem encL_mem {x : S25} {l : List S25} (h : x ∈ l) : (encS x).length ≤ (encL l).length := by
  induction l with
  | nil => cases h
  | cons y l ih =>
    simp only [encL, List.length_append]
    rcases List.mem_cons.mp h with h | h
    · rw [h]; omega
    · have := ih h; omega
theorem rdT_get {l : List S25} {i : Nat} (h : i < l.length) : rd_T25 l (i : Int) = l[i] := by
  simp [rd_T25, List.getD_eq_getElem?_getD, h]
theorem rdT_mem {l : List S25} {i : Nat} (h : i < l.length) : rd_T25 l (i : Int) ∈ l := by
  rw [rdT_get h]; exact List.getElem_mem h
theorem dropT {l : List S25} {i : Nat} (h : i < l.length) : l.drop i = rd_T25 l (i : Int) :: l.drop (i + 1) := by
  rw [rdT_get h, List.drop_eq_getElem_cons h]
theorem put_l0 (l : List S25) (hl : l.length < 140737488355328) (hp : ∀ x ∈ l, Conv (fun k => rlp_put.f k x.f0 x.f1 x.f2) (encS x)) (j : Nat) :
    ∀ (i : Nat) (acc : List Int), i + j = l.length → acc.length + (encL (l.drop i)).length < 140737488000000 →
      Conv (fun k => rlp_put.l0 k acc l (l.length : Int) (i : Int)) (headS 192 (acc ++ encL (l.drop i)).length ++ (acc ++ encL (l.drop i))) := by
  induction j with
  | zero =>
    intro i acc hi hb
    refine Conv.succ ?_
    simp only [rlp_put.l0]
    rw [List.drop_eq_nil_of_le (by omega)] at hb ⊢
    simp only [encL, List.append_nil] at hb ⊢
    have := headS_le (b := 192) (n := acc.length) (by omega)
    exact Conv.iteF (by omega) (Conv.bind (head_conv (b := 192) (by omega) (by omega)) (Conv.iteT (by omega) (Conv.pure _)))
  | succ j ih =>
    intro i acc hi hb
    refine Conv.succ ?_
    simp only [rlp_put.l0]
    rw [dropT (l := l) (i := i) (by omega)] at hb ⊢
    simp only [encL, List.length_append] at hb
    refine Conv.iteT (by omega) (Conv.iteT (by omega) (Conv.iteT (by omega) (Conv.bind (hp _ (rdT_mem (by omega))) (Conv.iteT (by omega) ?_))))
    rw [wrap64_id (by omega) (by omega)]
    have := ih (i + 1) (acc ++ encS (rd_T25 l (i : Int))) (by omega) (by rw [List.length_append]; omega)
    rw [show acc ++ encL (rd_T25 l (i : Int) :: l.drop (i + 1)) = acc ++ encS (rd_T25 l (i : Int)) ++ encL (l.drop (i + 1)) by simp only [encL, List.append_assoc]]
    exact this
theorem put_conv (hw : ∀ l : List S25, l.length ≤ (encL l).length) : ∀ (x : S25) (hx : (encS x).length < 140737488000000), Conv (fun k => rlp_put.f k x.f0 x.f1 x.f2) (encS x)
  | ⟨b, s, l⟩, hx => by
    refine Conv.succ ?_
    simp only [rlp_put.f]
    rw [encS] at hx ⊢
    by_cases hb : b = true
    · rw [if_pos hb] at hx
      simp only [List.length_append] at hx
      refine Conv.iteT hb (Conv.eq ?_ (if_pos hb).symm)
      have hll := hw l
      have := put_l0 l (by omega) (fun y hy => put_conv hw y (by have := encL_mem hy; omega)) l.length 0 [] (by omega) (by simp; omega)
      simpa using this
    · rw [if_neg hb] at hx
      refine Conv.iteF hb (Conv.eq ?_ (if_neg hb).symm)
      refine Conv.bindc (own_eq s) ?_
      by_cases ho : ownS s = true
      · rw [if_pos ho] at hx
        refine Conv.iteT ho (Conv.eq ?_ (if_pos ho).symm)
        exact Conv.bindc (a := s) (by unfold bytes_Clone.f; rw [if_pos (by omega)]) (Conv.pure _)
      · rw [if_neg ho] at hx
        simp only [List.length_append] at hx
        refine Conv.iteF ho (Conv.eq ?_ (if_neg ho).symm)
        exact Conv.bind (head_conv (b := 128) (by omega) (by omega)) (Conv.iteT (by omega) (Conv.pure _))
termination_by x => SizeOf.sizeOf x
decreasing_by
  have := List.sizeOf_lt_of_mem hy
  simp only [S25.mk.sizeOf_spec]
  omega
theorem encS_pos (x : S25) : 1 ≤ (encS x).length := by
  obtain ⟨b, s, l⟩ := x
  rw [encS]
  split
  · have : 1 ≤ (headS 192 (encL l).length).length := by unfold headS; split <;> simp
    rw [List.length_append]; omega
  · split
    · rename_i h
      unfold ownS at h
      have := (of_decide_eq_true h).1
      omega
    · have : 1 ≤ (headS 128 s.length).length := by unfold headS; split <;> simp
      rw [List.length_append]; omega
theorem encL_len (l : List S25) : l.length ≤ (encL l).length := by
  induction l with
  | nil => simp
  | cons x l ih =>
    have := encS_pos x
    simp only [encL, List.length_append, List.length_cons]; omega
theorem put_conv' {x : S25} (hx : (encS x).length < 140737488000000) : Conv (fun k => rlp_put.f k x.f0 x.f1 x.f2) (encS x) := put_conv encL_len x hx

mutual
/-- how long an item's bytes are, or what is wrong; how many items were met -/
def sizeS : S25 → Int → Int → Int × Int × Int
  | ⟨b, s, l⟩, n, d => if d > 16 ∨ n = 4096 then (0, 43, n) else if (b = true ∧ 0 < s.length) ∨ (b = false ∧ 0 < l.length) then (0, 40, n + 1)
    else if ownS s = true then (1, 0, n + 1) else sizeL l (n + 1) (d + 1) (s.length : Int)
def sizeL : List S25 → Int → Int → Int → Int × Int × Int
  | [], n, _, acc => (acc + ((headS 0 acc.toNat).length : Int), 0, n)
  | x :: l, n, d, acc => if (sizeS x n d).2.1 = 0 then sizeL l (sizeS x n d).2.2 d (acc + (sizeS x n d).1) else (0, (sizeS x n d).2.1, (sizeS x n d).2.2)
end
mutual
/-- a bound on an item's length -/
def totS : S25 → Nat
  | ⟨_, s, l⟩ => 9 + s.length + totL l
def totL : List S25 → Nat
  | [] => 0
  | x :: l => totS x + totL l
end
theorem totL_mem {x : S25} {l : List S25} (h : x ∈ l) : totS x ≤ totL l := by
  induction l with
  | nil => cases h
  | cons y l ih =>
    simp only [totL]
    rcases List.mem_cons.mp h with h | h
    · rw [h]; omega
    · have := ih h; omega
theorem totL_len (l : List S25) : l.length ≤ totL l := by
  induction l with
  | nil => simp
  | cons x l ih =>
    have : 9 ≤ totS x := by obtain ⟨b, s, l⟩ := x; rw [totS]; omega
    simp only [totL, List.length_cons]; omega
mutual
theorem sizeS_range : ∀ (x : S25) (n d : Int) (hn : 0 ≤ n ∧ n ≤ 4096) (ht : totS x < 4611686018427387904), 0 ≤ (sizeS x n d).1 ∧ (sizeS x n d).1 ≤ totS x ∧ 0 ≤ (sizeS x n d).2.2 ∧ (sizeS x n d).2.2 ≤ 4096
  | ⟨b, s, l⟩, n, d, hn, ht => by
    rw [totS] at ht
    rw [sizeS, totS]
    split
    · simp; omega
    · rename_i h1
      split
      · simp; omega
      · split
        · simp; omega
        · have := sizeL_range l (n + 1) (d + 1) (s.length : Int) (by omega) (by omega) (by omega)
          omega
theorem sizeL_range : ∀ (l : List S25) (n d acc : Int) (hn : 0 ≤ n ∧ n ≤ 4096) (ha : 0 ≤ acc) (ht : acc + totL l + 9 < 4611686018427387904 + 9), 0 ≤ (sizeL l n d acc).1 ∧ (sizeL l n d acc).1 ≤ acc + totL l + 9 ∧ 0 ≤ (sizeL l n d acc).2.2 ∧ (sizeL l n d acc).2.2 ≤ 4096
  | [], n, d, acc, hn, ha, ht => by
    rw [sizeL, totL]
    have := headS_le (b := 0) (n := acc.toNat) (by simp [totL] at ht; omega)
    simp only
    omega
  | x :: l, n, d, acc, hn, ha, ht => by
    rw [totL] at ht
    have h1 := sizeS_range x n d hn (by omega)
    rw [sizeL, totL]
    split
    · have := sizeL_range l (sizeS x n d).2.2 d (acc + (sizeS x n d).1) (by omega) (by omega) (by omega)
      omega
    · simp only; omega
end
theorem size_l0 (l : List S25) (hl : l.length < 4611686018427387904) (d : Int) (hd : -1 ≤ d ∧ d ≤ 17) (hp : ∀ x ∈ l, ∀ n : Int, 0 ≤ n ∧ n ≤ 4096 → Conv (fun k => rlp_walker_size.f k n x.f0 x.f1 x.f2 (d + 1)) (sizeS x n (d + 1))) (j : Nat) :
    ∀ (i : Nat) (n acc : Int), i + j = l.length → 0 ≤ n ∧ n ≤ 4096 → 0 ≤ acc → acc + totL (l.drop i) < 4611686018427387904 →
      Conv (fun k => rlp_walker_size.l0 k d acc l (l.length : Int) (i : Int) n) (sizeL (l.drop i) n (d + 1) acc) := by
  induction j with
  | zero =>
    intro i n acc hi hn ha hb
    refine Conv.succ ?_
    simp only [rlp_walker_size.l0]
    rw [List.drop_eq_nil_of_le (by omega)] at hb ⊢
    rw [totL] at hb
    rw [sizeL]
    have hh := headS_le (b := 0) (n := acc.toNat) (by omega)
    have hc := head_conv (b := 0) (n := acc.toNat) (by omega) (by omega)
    rw [Int.toNat_of_nonneg ha] at hc
    refine Conv.iteF (by omega) (Conv.bind hc (Conv.eq (Conv.pure _) ?_))
    rw [wrap64_id (by omega) (by omega)]
  | succ j ih =>
    intro i n acc hi hn ha hb
    refine Conv.succ ?_
    simp only [rlp_walker_size.l0]
    rw [dropT (l := l) (i := i) (by omega)] at hb ⊢
    rw [totL] at hb
    rw [sizeL]
    have hr := sizeS_range (rd_T25 l (i : Int)) n (d + 1) hn (by omega)
    rw [wrap64_id (n := d + 1) (by omega) (by omega)]
    refine Conv.iteT (by omega) (Conv.iteT (by omega) (Conv.iteT (by omega) (Conv.bind (hp _ (rdT_mem (by omega)) n hn) ?_)))
    refine Conv.ite (fun c => ?_) fun c => ?_
    · rw [if_pos c, wrap64_id (n := acc + _) (by omega) (by omega), wrap64_id (n := (i : Int) + 1) (by omega) (by omega)]
      exact ih (i + 1) _ _ (by omega) (by omega) (by omega) (by omega)
    · rw [if_neg c]; exact Conv.pure _
theorem size_conv : ∀ (x : S25) (n d : Int) (hn : 0 ≤ n ∧ n ≤ 4096) (hd : 0 ≤ d ∧ d ≤ 17) (ht : totS x < 4611686018427387904), Conv (fun k => rlp_walker_size.f k n x.f0 x.f1 x.f2 d) (sizeS x n d)
  | ⟨b, s, l⟩, n, d, hn, hd, ht => by
    rw [totS] at ht
    rw [sizeS]
    refine Conv.succ ?_
    simp only [rlp_walker_size.f]
    by_cases h1 : d > 16 ∨ n = 4096
    · rw [if_pos h1]
      refine Conv.bindc (a := (43, n)) (by unfold rlp_walker_meets.f; by_cases h : d > 16 <;> simp [h]; omega) ?_
      exact Conv.iteF (show ¬ (43 : Int) = 0 by decide) (Conv.pure _)
    · rw [if_neg h1]
      refine Conv.bindc (a := (0, n + 1)) (by unfold rlp_walker_meets.f; rw [if_neg (by omega), if_neg (by omega), wrap64_id (by omega) (by omega)]) ?_
      refine Conv.iteT rfl ?_
      have rest : ∀ c : Bool, c = false → ¬ ((b = true ∧ 0 < s.length) ∨ (b = false ∧ 0 < l.length)) → Conv (fun k => rlp_walker_size.j1 k d c (n + 1) b s l) (if ownS s = true then (1, 0, n + 1) else sizeL l (n + 1) (d + 1) (s.length : Int)) := by
        intro c hc hq
        subst hc
        refine Conv.succ ?_
        simp only [rlp_walker_size.j1]
        refine Conv.iteF (by decide) (Conv.bindc (own_eq s) ?_)
        refine Conv.ite (fun c => ?_) fun c => ?_
        · rw [if_pos c]; exact Conv.pure _
        · rw [if_neg c]
          have hll := totL_len l
          have hd1 := h1
          have := size_l0 l (by omega) d (by omega) (fun y hy m hm => size_conv y m (d + 1) hm (by omega) (by have := totL_mem hy; omega)) l.length 0 (n + 1) (s.length : Int) (by omega) (by omega) (by omega) (by rw [List.drop_zero]; omega)
          simpa using this
      have bad : ∀ c : Bool, c = true → Conv (fun k => rlp_walker_size.j1 k d c (n + 1) b s l) (0, 40, n + 1) := by
        intro c hc
        subst hc
        refine Conv.succ ?_
        simp only [rlp_walker_size.j1]
        exact Conv.iteT (by trivial) (Conv.pure _)
      by_cases hb : b = true
      · refine Conv.iteT hb ?_
        refine Conv.succ ?_
        simp only [rlp_walker_size.j0]
        by_cases h2 : 0 < s.length
        · rw [if_pos (.inl ⟨hb, h2⟩)]
          exact Conv.iteT (by simp; omega) (bad _ (by simp; omega))
        · have hq : ¬ ((b = true ∧ 0 < s.length) ∨ (b = false ∧ 0 < l.length)) := fun h => h.elim (fun h => h2 h.2) (fun h => by rw [hb] at h; exact absurd h.1 (by decide))
          rw [if_neg hq]
          exact Conv.iteF (by simpa using h2) (Conv.iteT hb (rest _ rfl hq))
      · have hbf : b = false := by cases b <;> simp_all
        refine Conv.iteF hb ?_
        refine Conv.succ ?_
        simp only [rlp_walker_size.j0]
        refine Conv.iteF (by decide) (Conv.iteF hb ?_)
        by_cases h2 : 0 < l.length
        · rw [if_pos (.inr ⟨hbf, h2⟩)]
          exact bad _ (by simp; omega)
        · have hq : ¬ ((b = true ∧ 0 < s.length) ∨ (b = false ∧ 0 < l.length)) := fun h => h.elim (fun h => hb h.1) (fun h => h2 h.2)
          rw [if_neg hq]
          exact rest _ (decide_eq_false (by omega)) hq
termination_by x => SizeOf.sizeOf x
decreasing_by
  have := List.sizeOf_lt_of_mem hy
  simp only [S25.mk.sizeOf_spec]
  omega
mutual
theorem sizeS_enc : ∀ (x : S25) (n d : Int) (h : (sizeS x n d).2.1 = 0), (sizeS x n d).1 = ((encS x).length : Int)
  | ⟨b, s, l⟩, n, d, h => by
    rw [sizeS] at h ⊢
    rw [encS]
    split at h
    · simp at h
    · rename_i h1
      rw [if_neg h1]
      split at h
      · simp at h
      · rename_i h2
        rw [if_neg h2]
        split at h
        · rename_i h3
          rw [if_pos h3]
          have h4 := (of_decide_eq_true h3).1
          have hb : ¬ b = true := fun hb => h2 (.inl ⟨hb, by omega⟩)
          rw [if_neg hb, if_pos h3, h4]
          rfl
        · rename_i h3
          rw [if_neg h3]
          have := sizeL_enc l (n + 1) (d + 1) (s.length : Int) (by omega) h
          rw [this]
          by_cases hb : b = true
          · have hs : s.length = 0 := by
              by_cases e : 0 < s.length
              · exact absurd (.inl ⟨hb, e⟩) h2
              · omega
            rw [if_pos hb, List.length_append, headS_length 192 0, hs]
            simp; omega
          · have hl : l = [] := by
              have : ¬ 0 < l.length := fun e => h2 (.inr ⟨by cases b <;> simp_all, e⟩)
              exact List.eq_nil_of_length_eq_zero (by omega)
            subst hl
            rw [if_neg hb, if_neg h3, List.length_append, headS_length 128 0]
            simp [encL]; omega
theorem sizeL_enc : ∀ (l : List S25) (n d acc : Int) (ha : 0 ≤ acc) (h : (sizeL l n d acc).2.1 = 0), (sizeL l n d acc).1 = acc + ((encL l).length : Int) + ((headS 0 (acc + ((encL l).length : Int)).toNat).length : Int)
  | [], n, d, acc, ha, h => by rw [sizeL]; simp [encL]
  | x :: l, n, d, acc, ha, h => by
    rw [sizeL] at h ⊢
    split at h
    · rename_i h1
      rw [if_pos h1]
      have e1 := sizeS_enc x n d h1
      have e2 := sizeL_enc l (sizeS x n d).2.2 d (acc + (sizeS x n d).1) (by omega) h
      rw [e2, e1]
      simp only [encL, List.length_append]
      have e3 : acc + ((encS x).length : Int) + ((encL l).length : Int) = acc + (((encS x).length + (encL l).length : Nat) : Int) := by omega
      rw [e3]
    · rename_i h1
      exact absurd h h1
end
/-- Encode, told -/
def encode (x : S25) : List Int × Int := if (sizeS x 0 1).2.1 ≠ 0 then ([], (sizeS x 0 1).2.1) else if 65536 < (encS x).length then ([], 44) else (encS x, 0)
theorem encode_conv (x : S25) (ht : totS x < 4611686018427387904) : Conv (fun k => rlp_Encode.f k x.f0 x.f1 x.f2) (encode x) := by
  unfold rlp_Encode.f encode
  refine Conv.bind (size_conv x 0 1 (by omega) (by omega) ht) ?_
  refine Conv.ite (fun c => ?_) fun c => ?_
  · have e := sizeS_enc x 0 1 c
    rw [if_neg (by simpa using c), e]
    refine Conv.ite (fun c2 => ?_) fun c2 => ?_
    · rw [if_pos (by omega)]; exact Conv.pure _
    · rw [if_neg (by omega)]
      exact Conv.bind (put_conv' (by omega)) (Conv.pure _)
  · rw [if_pos c]; exact Conv.pure _
end Go.Proofs.Ytbobnopnfjcajaa.Base
/- What a head says: the program's words and the reference's, told as one plain function. -/
namespace Go.Proofs.Ytbobnopnfjcajaa.Base
set_option linter.unusedVariables false
set_option linter.unusedSimpArgs false
open Go Go.RowKit Go.Proofs.YtbobnopnfjcajaaW.PrintWords Go.Proofs.YtbobnopnfjcajaaW.PrintLast Go.Proofs.YtbobnopnfjcajaaW.PrintMore Go.Proofs.Ytbobnopnfjcajaa.P

theorem or_low {y x : Int} (hx : 0 ≤ x ∧ x < 256) (hy : 0 ≤ y ∧ y * 256 < 18446744073709551616) : Go.bits .or .u64 (y * 256) x = 256 * y + x := by
  obtain ⟨a, rfl⟩ := Int.eq_ofNat_of_zero_le hx.1
  obtain ⟨b, rfl⟩ := Int.eq_ofNat_of_zero_le hy.1
  have h1 : a < 2 ^ 8 := by omega
  have h2 : b * 2 ^ 8 < 18446744073709551616 := by omega
  rw [show (b : Int) * 256 = ((b * 2 ^ 8 : Nat) : Int) by omega]
  unfold Go.bits
  rw [wrapU64]
  have eo : BitVec.ofInt IntKind.u64.bits ((b * 2 ^ 8 : Nat) : Int) ||| BitVec.ofInt IntKind.u64.bits (a : Int) = BitVec.ofNat 64 (a + b * 2 ^ 8) := by
    apply BitVec.eq_of_toNat_eq
    rw [BitVec.toNat_or, BitVec.ofInt_natCast, BitVec.ofInt_natCast]
    simp only [IntKind.bits, BitVec.toNat_ofNat]
    rw [Nat.mod_eq_of_lt (by omega), Nat.mod_eq_of_lt (by omega)]
    have := Nat.shiftLeft_add_eq_or_of_lt h1 b
    rw [Nat.shiftLeft_eq] at this
    rw [← this, Nat.add_comm (b * _), Nat.mod_eq_of_lt (by omega)]
  have et : (BitVec.ofInt IntKind.u64.bits ((b * 2 ^ 8 : Nat) : Int) ||| BitVec.ofInt IntKind.u64.bits (a : Int)).toNat = a + b * 2 ^ 8 := by
    rw [eo]
    show (BitVec.ofNat 64 (a + b * 2 ^ 8)).toNat = _
    rw [BitVec.toNat_ofNat, Nat.mod_eq_of_lt (by omega)]
  show ((BitVec.ofInt IntKind.u64.bits ((b * 2 ^ 8 : Nat) : Int) ||| BitVec.ofInt IntKind.u64.bits (a : Int)).toNat : Int) % 18446744073709551616 = _
  rw [et]
  omega
/-- the number that bytes are, the highest first -/
def numS : List Int → Int → Int
  | [], n => n
  | x :: l, n => numS l (256 * n + x)
theorem numS_range {L : List Int} (hL : Bytes L) : ∀ n : Int, 0 ≤ n → n * ((256 ^ L.length : Nat) : Int) ≤ numS L n ∧ numS L n < (n + 1) * ((256 ^ L.length : Nat) : Int) := by
  induction L with
  | nil => intro n h; simp only [numS, List.length_nil, Nat.pow_zero]; omega
  | cons x L ih =>
    intro n h
    have hx := hL x List.mem_cons_self
    have := ih (fun y hy => hL y (List.mem_cons_of_mem _ hy)) (256 * n + x) (by omega)
    rw [numS, List.length_cons, Nat.pow_succ]
    have e : ((256 ^ L.length * 256 : Nat) : Int) = 256 * ((256 ^ L.length : Nat) : Int) := by omega
    have hp : (0 : Int) ≤ ((256 ^ L.length : Nat) : Int) := Int.natCast_nonneg _
    generalize ((256 ^ L.length : Nat) : Int) = P at *
    rw [e]
    refine ⟨?_, ?_⟩
    · refine Int.le_trans ?_ this.1
      rw [← Int.mul_assoc]
      refine Int.mul_le_mul_of_nonneg_right (by omega) hp
    · refine Int.lt_of_lt_of_le this.2 ?_
      rw [← Int.mul_assoc]
      refine Int.mul_le_mul_of_nonneg_right (by omega) hp
theorem num_eq {L : List Int} (hL : Bytes L) : ∀ n : Int, 0 ≤ n → (n + 1) * ((256 ^ L.length : Nat) : Int) ≤ 18446744073709551616 → rlp_reads.num L n = numS L n := by
  induction L with
  | nil => intro n h hn; rfl
  | cons x L ih =>
    intro n h hn
    have hx := hL x List.mem_cons_self
    rw [List.length_cons, Nat.pow_succ] at hn
    have e : ((256 ^ L.length * 256 : Nat) : Int) = 256 * ((256 ^ L.length : Nat) : Int) := by omega
    have hp : (1 : Int) ≤ ((256 ^ L.length : Nat) : Int) := by have := Nat.pow_pos (n := L.length) (show 0 < 256 by decide); omega
    rw [e, ← Int.mul_assoc] at hn
    have h2 : (n + 1) * 256 ≤ 18446744073709551616 := by
      refine Int.le_trans ?_ hn
      have := Int.mul_le_mul_of_nonneg_left hp (show (0 : Int) ≤ (n + 1) * 256 by omega)
      omega
    rw [rlp_reads.num, numS, wrapU64_id (n := n * 256) (by omega) (by omega), wrapU64_id (by omega) (by omega), or_low hx ⟨h, by omega⟩]
    refine ih (fun y hy => hL y (List.mem_cons_of_mem _ hy)) _ (by omega) ?_
    refine Int.le_trans (Int.mul_le_mul_of_nonneg_right (by omega) (by omega)) hn
theorem num_eq0 {L : List Int} (hL : Bytes L) (h8 : L.length ≤ 8) : rlp_reads.num L 0 = numS L 0 := by
  refine num_eq hL 0 (by omega) ?_
  have : (256 : Nat) ^ L.length ≤ 256 ^ 8 := Nat.pow_le_pow_right (by decide) h8
  have h2 : (256 : Nat) ^ 8 = 18446744073709551616 := by decide
  omega
theorem numS_snoc (L : List Int) (x : Int) : ∀ n, numS (L ++ [x]) n = 256 * numS L n + x := by
  induction L with
  | nil => intro n; rfl
  | cons y L ih => intro n; exact ih _
theorem numS_digS (n : Nat) : numS (digS n) 0 = (n : Int) := by
  induction n using Nat.strongRecOn with
  | ind n ih =>
    by_cases h0 : n = 0
    · rw [h0, digS_zero]; rfl
    · rw [digS_pos (by omega), numS_snoc, ih (n / 256) (by omega)]; omega
theorem digS_head (n : Nat) : ∀ (h : 0 < (digS n).length), 0 < (digS n)[0] := by
  induction n using Nat.strongRecOn with
  | ind n ih =>
    intro h
    by_cases h0 : n = 0
    · subst h0; rw [digS_zero] at h; simp at h
    · have e := digS_pos (n := n) (by omega)
      simp only [e]
      by_cases h1 : n / 256 = 0
      · simp only [h1, digS_zero, List.nil_append, List.getElem_cons_zero]; omega
      · have h2 : 0 < (digS (n / 256)).length := by rw [digS_pos (by omega)]; simp
        rw [List.getElem_append_left h2]
        exact ih (n / 256) (by omega) h2
/-- bytes with none of them 0 ahead are a number's -/
theorem digS_numS (j : Nat) : ∀ (L : List Int), L.length = j → Bytes L → (L.length = 0 ∨ 0 < rd L 0) → digS (numS L 0).toNat = L := by
  induction j with
  | zero =>
    intro L hl hL h0
    rw [List.eq_nil_of_length_eq_zero hl]
    exact digS_zero
  | succ j ih =>
    intro L hl hL h0
    obtain ⟨M, x, rfl⟩ : ∃ M x, L = M ++ [x] := ⟨L.dropLast, L.getLast (by intro e; rw [e] at hl; simp at hl), (List.dropLast_concat_getLast _).symm⟩
    rw [List.length_append, List.length_singleton] at hl
    have hx := hL x (by simp)
    have hM : Bytes M := fun y hy => hL y (by simp [hy])
    have h0' : M.length = 0 ∨ 0 < rd M 0 := by
      by_cases e : M.length = 0
      · exact .inl e
      · refine .inr ?_
        rcases h0 with h0 | h0
        · simp at h0
        · have e1 := rd_get (l := M) (i := 0) (by omega)
          have e2 := rd_get (l := M ++ [x]) (i := 0) (by simp)
          simp only [Int.natCast_zero] at e1 e2
          rw [e1]
          rw [e2, List.getElem_append_left (by omega)] at h0
          exact h0
    have h1 := ih M (by omega) hM h0'
    have hr := numS_range hM 0 (by omega)
    rw [numS_snoc]
    have hpos : 0 < (256 * numS M 0 + x).toNat := by
      rcases h0' with e | e
      · have := List.eq_nil_of_length_eq_zero e
        subst this
        rcases h0 with h0 | h0
        · simp at h0
        · have : rd ([] ++ [x]) 0 = x := by simp [rd]
          rw [this] at h0
          simp only [numS]; omega
      · by_cases hz : numS M 0 = 0
        · rw [hz] at h1
          simp only [Int.toNat_zero, digS_zero] at h1
          rw [← h1] at e
          simp [rd] at e
        · omega
    rw [digS_pos hpos, show (256 * numS M 0 + x).toNat / 256 = (numS M 0).toNat by omega, show (256 * numS M 0 + x).toNat % 256 = x.toNat by omega, h1, Int.toNat_of_nonneg hx.1]
/-- the reference's number, that goes on no further than it must -/
def refS : List Int → Int → Int
  | [], n => n
  | x :: l, n => refS l (if n ≤ 2147483648 then 256 * n + x else n)
theorem refS_range {L : List Int} (hL : Bytes L) : ∀ n : Int, 0 ≤ n ∧ n ≤ 549755814143 → 0 ≤ refS L n ∧ refS L n ≤ 549755814143 := by
  induction L with
  | nil => intro n h; exact h
  | cons x L ih =>
    intro n h
    have hx := hL x List.mem_cons_self
    refine ih (fun y hy => hL y (List.mem_cons_of_mem _ hy)) _ ?_
    split <;> omega
theorem refS_great {L : List Int} : ∀ n : Int, ¬ n ≤ 2147483648 → refS L n = n := by
  induction L with
  | nil => intro n h; rfl
  | cons x L ih => intro n h; rw [refS, if_neg h]; exact ih n h
theorem numS_le {L : List Int} (hL : Bytes L) (n : Int) (h : 0 ≤ n) : n ≤ numS L n := by
  have := (numS_range hL n h).1
  refine Int.le_trans ?_ this
  have hp : (1 : Int) ≤ ((256 ^ L.length : Nat) : Int) := by have := Nat.pow_pos (n := L.length) (show 0 < 256 by decide); omega
  have := Int.mul_le_mul_of_nonneg_left hp h
  omega
theorem refS_eq {L : List Int} (hL : Bytes L) : ∀ n : Int, 0 ≤ n → (numS L n ≤ 2147483648 → refS L n = numS L n) ∧ (numS L n > 2147483648 → refS L n > 2147483648) := by
  induction L with
  | nil => intro n h; exact ⟨fun _ => rfl, fun h => h⟩
  | cons x L ih =>
    intro n h
    have hx := hL x List.mem_cons_self
    have hL' : Bytes L := fun y hy => hL y (List.mem_cons_of_mem _ hy)
    rw [numS, refS]
    by_cases c : n ≤ 2147483648
    · rw [if_pos c]; exact ih hL' _ (by omega)
    · rw [if_neg c, refS_great n c]
      have := numS_le hL' (256 * n + x) (by omega)
      refine ⟨fun h => ?_, fun _ => ?_⟩ <;> omega
/-- of a head of 128 or more: where what is in it begins, how much that is, the fault -/
def hdS (b : List Int) : Nat × Nat × Int :=
  if (rd b 0).toNat - (if 192 ≤ rd b 0 then 192 else 128) ≤ 55 then (1, (rd b 0).toNat - (if 192 ≤ rd b 0 then 192 else 128), 0)
  else if b.length < 1 + ((rd b 0).toNat - (if 192 ≤ rd b 0 then 192 else 128) - 55) then (0, 0, 41)
  else if rd b 1 = 0 ∨ numS ((b.drop 1).take ((rd b 0).toNat - (if 192 ≤ rd b 0 then 192 else 128) - 55)) 0 ≤ 55 ∨ numS ((b.drop 1).take ((rd b 0).toNat - (if 192 ≤ rd b 0 then 192 else 128) - 55)) 0 > 2147483648 then (0, 0, 40)
  else (1 + ((rd b 0).toNat - (if 192 ≤ rd b 0 then 192 else 128) - 55), (numS ((b.drop 1).take ((rd b 0).toNat - (if 192 ≤ rd b 0 then 192 else 128) - 55)) 0).toNat, 0)
theorem reads_own {b : List Int} (hb : Bytes b) (hl : 0 < b.length) (hc : rd b 0 < 128) : rlp_reads.f b = some (false, 0, 1, true, false, 0) := by
  have := rd_bytes hb 0
  rw [rlp_reads.f, if_pos ⟨hl, this.1, this.2⟩, if_pos hc]
theorem reads_hd {b : List Int} (hb : Bytes b) (hl : 0 < b.length) (hc : ¬ rd b 0 < 128) :
    (hdS b).2.2 = 0 ∧ rlp_reads.f b = some (decide (192 ≤ rd b 0), ((hdS b).1 : Int), ((hdS b).2.1 : Int), false, false, 0) ∨ (hdS b).2.2 ≠ 0 ∧ ∃ x y z, rlp_reads.f b = some (x, y, z, false, false, (hdS b).2.2) := by
  have h0 := rd_bytes hb 0
  have key : ∀ (base : Nat), (base = if 192 ≤ rd b 0 then 192 else 128) → rlp_reads.f b = rlp_reads.long b (decide (192 ≤ rd b 0)) (base : Int) := by
    intro base e
    rw [rlp_reads.f, if_pos ⟨hl, h0.1, h0.2⟩, if_neg hc]
    by_cases h : 192 ≤ rd b 0
    · rw [if_pos h, e, if_pos h, decide_eq_true h]; rfl
    · rw [if_neg h, e, if_neg h, decide_eq_false h]; rfl
  obtain ⟨base, hbase⟩ : ∃ base : Nat, base = if 192 ≤ rd b 0 then 192 else 128 := ⟨_, rfl⟩
  rw [key base hbase]
  unfold hdS rlp_reads.long
  rw [← hbase]
  have hb1 : (base : Int) ≤ rd b 0 ∧ rd b 0 - base ≤ 63 := by split at hbase <;> omega
  by_cases h1 : (rd b 0).toNat - base ≤ 55
  · rw [if_pos h1, if_pos (show rd b 0 - (base : Int) ≤ 55 by omega)]
    refine .inl ⟨rfl, ?_⟩
    simp only [Option.some.injEq, Prod.mk.injEq, true_and, and_true]
    omega
  · rw [if_neg h1, if_neg (show ¬ rd b 0 - (base : Int) ≤ 55 by omega)]
    by_cases h2 : b.length < 1 + ((rd b 0).toNat - base - 55)
    · rw [if_pos h2, if_pos (show (b.length : Int) < 1 + (rd b 0 - (base : Int) - 55) by omega)]
      exact .inr ⟨by decide, _, _, _, rfl⟩
    · rw [if_neg h2, if_neg (show ¬ (b.length : Int) < 1 + (rd b 0 - (base : Int) - 55) by omega), show (rd b 0 - (base : Int) - 55).toNat = (rd b 0).toNat - base - 55 by omega]
      rw [num_eq0 ((hb.drop 1).take _) (by rw [List.length_take, List.length_drop]; omega)]
      by_cases h3 : rd b 1 = 0 ∨ numS ((b.drop 1).take ((rd b 0).toNat - base - 55)) 0 ≤ 55 ∨ numS ((b.drop 1).take ((rd b 0).toNat - base - 55)) 0 > 2147483648
      · rw [if_pos h3, if_pos h3]
        exact .inr ⟨by decide, _, _, _, rfl⟩
      · rw [if_neg h3, if_neg h3]
        refine .inl ⟨rfl, ?_⟩
        simp only [Option.some.injEq, Prod.mk.injEq, true_and, and_true]
        omega
/-- what a head that is right is made of -/
theorem hd_head {b : List Int} (hb : Bytes b) (hl : 0 < b.length) (hc : ¬ rd b 0 < 128) (h : (hdS b).2.2 = 0) :
    1 ≤ (hdS b).1 ∧ (hdS b).1 ≤ b.length ∧ (hdS b).1 ≤ 9 ∧ (hdS b).2.1 ≤ 2147483648 ∧ b.take (hdS b).1 = headS (if 192 ≤ rd b 0 then 192 else 128) (hdS b).2.1 := by
  have h0 := rd_bytes hb 0
  obtain ⟨base, hbase⟩ : ∃ base : Nat, base = if 192 ≤ rd b 0 then 192 else 128 := ⟨_, rfl⟩
  unfold hdS at h ⊢
  rw [← hbase] at h ⊢
  have hb1 : (base : Int) ≤ rd b 0 ∧ rd b 0 - base ≤ 63 := by split at hbase <;> omega
  have hcons : b = rd b 0 :: b.drop 1 := by
    have := drop_cons (l := b) (i := 0) hl
    simpa using this
  by_cases h1 : (rd b 0).toNat - base ≤ 55
  · rw [if_pos h1]
    refine ⟨by simp, by simp; omega, by simp, by simp; omega, ?_⟩
    simp only
    unfold headS
    rw [if_pos h1]
    have : b.take 1 = [rd b 0] := by rw [hcons]; simp [rd]
    rw [this]
    congr 1
    omega
  · rw [if_neg h1] at h ⊢
    by_cases h2 : b.length < 1 + ((rd b 0).toNat - base - 55)
    · rw [if_pos h2] at h; exact absurd h (by decide)
    · rw [if_neg h2] at h ⊢
      by_cases h3 : rd b 1 = 0 ∨ numS ((b.drop 1).take ((rd b 0).toNat - base - 55)) 0 ≤ 55 ∨ numS ((b.drop 1).take ((rd b 0).toNat - base - 55)) 0 > 2147483648
      · rw [if_pos h3] at h; exact absurd h (by decide)
      · rw [if_neg h3] at h ⊢
        refine ⟨by dsimp only; omega, by dsimp only; omega, by dsimp only; omega, by dsimp only; omega, ?_⟩
        simp only
        have hBt := (hb.drop 1).take ((rd b 0).toNat - base - 55)
        have hlt : ((b.drop 1).take ((rd b 0).toNat - base - 55)).length = (rd b 0).toNat - base - 55 := by rw [List.length_take, List.length_drop]; omega
        have hdg := digS_numS _ _ rfl hBt (.inr (by
          have e1 := rd_get (l := b) (i := 1) (by omega)
          have e2 := rd_get (l := (b.drop 1).take ((rd b 0).toNat - base - 55)) (i := 0) (by omega)
          have h4 := rd_bytes hb 1
          simp only [Int.natCast_zero, Int.natCast_one] at e1 e2
          rw [e2]
          simp only [List.getElem_take, List.getElem_drop]
          have e3 : b[1 + 0]'(by omega) = rd b 1 := by rw [e1]
          rw [e3]; omega))
        unfold headS
        rw [if_neg (by omega), hdg, hlt]
        rw [Nat.add_comm 1, hcons]
        simp only [List.take_succ_cons, List.drop_succ_cons, List.drop_zero]
        have e5 : rd (rd b 0 :: b.drop 1) 0 = rd b 0 := by simp [rd]
        congr 1
        omega
/-- and the other way -/
theorem hd_of {base n : Nat} (hbase : base = 192 ∨ base = 128) (hn : n ≤ 2147483648) (more : List Int) :
    ¬ rd (headS base n ++ more) 0 < 128 ∧ decide (192 ≤ rd (headS base n ++ more) 0) = decide (base = 192) ∧ hdS (headS base n ++ more) = ((headS base n).length, n, 0) := by
  have hl8 := digS_length 8 n (by have : (256 : Nat) ^ 8 = 18446744073709551616 := by decide
                                  rw [this]; omega)
  by_cases h1 : n ≤ 55
  · have e : headS base n = [((base + n : Nat) : Int)] := by unfold headS; rw [if_pos h1]
    have er : rd (headS base n ++ more) 0 = ((base + n : Nat) : Int) := by rw [e]; simp [rd]
    have hd : (if 192 ≤ rd (headS base n ++ more) 0 then 192 else 128) = base := by
      rw [er]; split <;> omega
    refine ⟨by rw [er]; omega, by rw [er]; exact decide_eq_decide.mpr (by omega), ?_⟩
    unfold hdS
    rw [hd, er, if_pos (by omega), e]
    simp only [List.length_singleton, Prod.mk.injEq, true_and, and_true]
    omega
  · have e : headS base n = ((base + 55 + (digS n).length : Nat) : Int) :: digS n := by unfold headS; rw [if_neg h1]
    have er : rd (headS base n ++ more) 0 = ((base + 55 + (digS n).length : Nat) : Int) := by rw [e]; simp [rd]
    have hpos : 0 < (digS n).length := by rw [digS_pos (by omega)]; simp
    have hl4 := digS_length 4 n (by have : (256 : Nat) ^ 4 = 4294967296 := by decide
                                    rw [this]; omega)
    have hd : (if 192 ≤ rd (headS base n ++ more) 0 then 192 else 128) = base := by
      rw [er]; split <;> omega
    refine ⟨by rw [er]; omega, by rw [er]; exact decide_eq_decide.mpr (by omega), ?_⟩
    have ek : ((((base + 55 + (digS n).length : Nat) : Int)).toNat - base - 55) = (digS n).length := by omega
    have et : ((headS base n ++ more).drop 1).take (digS n).length = digS n := by rw [e]; simp
    have e1 : 0 < rd (headS base n ++ more) 1 := by
      have h := digS_head n hpos
      have e2 := rd_get (l := headS base n ++ more) (i := 1) (by rw [e]; simp; omega)
      simp only [Int.natCast_one] at e2
      rw [e2]
      simp only [e, List.cons_append, List.getElem_cons_succ]
      rw [List.getElem_append_left hpos]
      exact h
    unfold hdS
    rw [hd, er, ek, et, numS_digS, if_neg (by omega), if_neg (by rw [List.length_append, e, List.length_cons]; omega), if_neg (by omega), e]
    simp only [List.length_cons, Prod.mk.injEq, and_true]
    omega
end Go.Proofs.Ytbobnopnfjcajaa.Base
/- The program's reading and the reference's come to the same item, the same length, the same fault; what is read is encoded so. -/
namespace Go.Proofs.Ytbobnopnfjcajaa.Base
set_option linter.unusedVariables false
set_option linter.unusedSimpArgs false
open Go Go.RowKit Go.Proofs.YtbobnopnfjcajaaW.PrintWords Go.Proofs.YtbobnopnfjcajaaW.PrintLast Go.Proofs.YtbobnopnfjcajaaW.PrintMore Go.Proofs.Ytbobnopnfjcajaa.P

theorem sub_length {b0 b : List Int} {a e : Nat} (h : (b0.take e).drop a = b) (he : e ≤ b0.length) : b.length = e - a := by
  rw [← h, List.length_drop, List.length_take]; omega
theorem sub_rd {b0 b : List Int} {a e : Nat} (h : (b0.take e).drop a = b) (he : e ≤ b0.length) {i : Nat} (hi : i < b.length) : rd b (i : Int) = rd b0 ((a : Int) + (i : Int)) := by
  have hl := sub_length h he
  rw [show (a : Int) + (i : Int) = ((a + i : Nat) : Int) by omega, rd_get hi, rd_get (by omega)]
  subst h
  simp only [List.getElem_drop, List.getElem_take]
theorem sub_sub {b0 b : List Int} {a e : Nat} (h : (b0.take e).drop a = b) (he : e ≤ b0.length) (p q : Nat) (hq : a + q ≤ e) : (b0.take (a + q)).drop (a + p) = (b.take q).drop p := by
  subst h
  rw [List.take_drop, List.take_take, Nat.min_eq_left (by omega), List.drop_drop]
theorem item_loop (b0 L : List Int) (hb0 : Bytes b0) (hlen : b0.length ≤ 65536) (fr kk : Nat) (hk : kk ≤ 8) (hf : fr + kk ≤ b0.length) (hL : ∀ i : Nat, i < kk → L.drop i = rd b0 ((fr : Int) + (i : Int)) :: L.drop (i + 1)) (hLl : L.length = kk)
    (e d base N m : Int) (v : Bool × List Int × List S25 × Int × Int × Int) (hv : Conv (fun k => moraineref4_reader_item.l0 k e d base N (fr : Int) (kk : Int) (kk : Int) b0 m 0) v) (j : Nat) :
    ∀ (i : Nat) (n : Int), i + j = kk → 0 ≤ n ∧ n ≤ 549755814143 → refS (L.drop i) n = N → Conv (fun k => moraineref4_reader_item.l0 k e d base n (fr : Int) (kk : Int) (i : Int) b0 m 0) v := by
  induction j with
  | zero =>
    intro i n hi hn hN
    rw [List.drop_eq_nil_of_le (by omega)] at hN
    rw [show i = kk by omega, show n = N from hN]
    exact hv
  | succ j ih =>
    intro i n hi hn hN
    refine Conv.succ ?_
    simp only [moraineref4_reader_item.l0]
    rw [hL i (by omega), refS] at hN
    have hx := rd_bytes hb0 ((fr : Int) + (i : Int))
    rw [wrap64_id (n := (fr : Int) + (i : Int)) (by omega) (by omega), wrap64_id (n := rd b0 _) (by omega) (by omega), wrap64_id (n := (i : Int) + 1) (by omega) (by omega)]
    refine Conv.iteT (by omega) (Conv.iteT (by omega) (Conv.ite (fun c => ?_) fun c => ?_))
    · rw [if_pos c] at hN
      refine Conv.iteT (by omega) (Conv.iteT (by omega) ?_)
      rw [wrap64_id (n := 256 * n) (by omega) (by omega), wrap64_id (n := 256 * n + _) (by omega) (by omega)]
      exact ih (i + 1) _ (by omega) (by omega) hN
    · rw [if_neg c] at hN
      exact ih (i + 1) n (by omega) hn hN
theorem item_hd {b0 b : List Int} {a e : Nat} (h : (b0.take e).drop a = b) (hb0 : Bytes b0) (hlen : b0.length ≤ 65536) (ha : a < e) (he : e ≤ b0.length) (m d : Int) (hm : 0 ≤ m ∧ m < 4096) (hd : 1 ≤ d ∧ d ≤ 16) (hc : ¬ rd b 0 < 128) :
    ((hdS b).2.2 ≠ 0 → Conv (fun k => moraineref4_reader_item.f k b0 m 0 (a : Int) (e : Int) d) (false, [], [], 0, m + 1, (hdS b).2.2)) ∧
    ((hdS b).2.2 = 0 → ∀ v, Conv (fun k => moraineref4_reader_item.j3 k (e : Int) d (if 192 ≤ rd b 0 then 192 else 128) ((hdS b).2.1 : Int) ((a : Int) + ((hdS b).1 : Int)) b0 (m + 1) 0) v → Conv (fun k => moraineref4_reader_item.f k b0 m 0 (a : Int) (e : Int) d) v) := by
  have hl := sub_length h he
  have hbl : 0 < b.length := by omega
  have e0 : rd b 0 = rd b0 (a : Int) := by
    have := sub_rd h he (i := 0) hbl
    simpa using this
  have hb : Bytes b := by rw [← h]; exact (hb0.take _).drop _
  have hr := rd_bytes hb 0
  obtain ⟨base, hbase⟩ : ∃ base : Nat, base = if 192 ≤ rd b 0 then 192 else 128 := ⟨_, rfl⟩
  have hbase' : (if 192 ≤ rd b 0 then 192 else 128 : Int) = (base : Int) := by split at hbase <;> (rename_i c; rw [hbase]; simp [c])
  have hb1 : (base : Int) ≤ rd b 0 ∧ rd b 0 - base ≤ 63 := by split at hbase <;> omega
  have start : ∀ v, Conv (fun k => moraineref4_reader_item.j1 k (a : Int) (e : Int) d (rd b 0) (base : Int) b0 (m + 1) 0) v → Conv (fun k => moraineref4_reader_item.f k b0 m 0 (a : Int) (e : Int) d) v := by
    intro v hv
    refine Conv.succ ?_
    simp only [moraineref4_reader_item.f]
    rw [show (m == 4096) = false from beq_eq_false_iff_ne.mpr (by omega)]
    refine Conv.iteF (by omega) (Conv.iteF (by omega) (Conv.succ ?_))
    simp only [moraineref4_reader_item.j0]
    rw [← e0, wrap64_id (n := rd b 0) (by omega) (by omega), wrap64_id (n := m + 1) (by omega) (by omega)]
    refine Conv.iteF (by decide) (Conv.iteT (by omega) (Conv.iteT (by omega) (Conv.iteF hc (Conv.ite (fun c => ?_) fun c => ?_))))
    · rw [if_pos (by omega)] at hbase; rw [hbase] at hv; exact hv
    · rw [if_neg (by omega)] at hbase; rw [hbase] at hv; exact hv
  rw [hbase']
  unfold hdS
  rw [← hbase]
  by_cases h1 : (rd b 0).toNat - base ≤ 55
  · rw [if_pos h1]
    refine ⟨fun x => absurd rfl x, fun _ v hv => start v (Conv.succ ?_)⟩
    simp only [moraineref4_reader_item.j1]
    rw [wrap64_id (n := rd b 0 - (base : Int)) (by omega) (by omega), wrap64_id (n := (a : Int) + 1) (by omega) (by omega)]
    refine Conv.iteF (by omega) ?_
    rw [show (((rd b 0).toNat - base : Nat) : Int) = rd b 0 - (base : Int) by omega] at hv
    exact hv
  · rw [if_neg h1]
    have step : ∀ v, (¬ b.length < 1 + ((rd b 0).toNat - base - 55) → Conv (fun k => moraineref4_reader_item.l0 k (e : Int) d (base : Int) 0 (((a + 1 : Nat) : Int)) ((((rd b 0).toNat - base - 55 : Nat)) : Int) ((0 : Nat) : Int) b0 (m + 1) 0) v) → (b.length < 1 + ((rd b 0).toNat - base - 55) → v = (false, [], [], 0, m + 1, 41)) → Conv (fun k => moraineref4_reader_item.f k b0 m 0 (a : Int) (e : Int) d) v := by
      intro v hv hv2
      refine start v (Conv.succ ?_)
      simp only [moraineref4_reader_item.j1]
      rw [wrap64_id (n := rd b 0 - (base : Int)) (by omega) (by omega), wrap64_id (n := (a : Int) + 1) (by omega) (by omega), wrap64_id (n := rd b 0 - (base : Int) - 55) (by omega) (by omega), wrap64_id (n := (a : Int) + 1 + _) (by omega) (by omega)]
      refine Conv.iteT (by omega) (Conv.ite (fun c => ?_) fun c => ?_)
      · rw [hv2 (by omega)]
        exact Conv.bindc (by unfold moraineref4_reader_fault.f; rw [if_pos rfl]) (Conv.pure _)
      · have := hv (by omega)
        rw [show ((((rd b 0).toNat - base - 55 : Nat)) : Int) = rd b 0 - (base : Int) - 55 by omega] at this
        exact this
    by_cases h2 : b.length < 1 + ((rd b 0).toNat - base - 55)
    · rw [if_pos h2]
      exact ⟨fun _ => step _ (fun x => absurd h2 x) (fun _ => rfl), fun x => absurd x (by decide)⟩
    · rw [if_neg h2]
      obtain ⟨kk, hkk⟩ : ∃ kk, kk = (rd b 0).toNat - base - 55 := ⟨_, rfl⟩
      rw [← hkk] at h2 step ⊢
      obtain ⟨L, hLe⟩ : ∃ L, L = (b.drop 1).take kk := ⟨_, rfl⟩
      rw [← hLe]
      have hLb : Bytes L := by rw [hLe]; exact (hb.drop 1).take kk
      have hLl : L.length = kk := by rw [hLe, List.length_take, List.length_drop]; omega
      have hL : ∀ i : Nat, i < kk → L.drop i = rd b0 (((a + 1 : Nat) : Int) + (i : Int)) :: L.drop (i + 1) := by
        intro i hi
        rw [drop_cons (l := L) (i := i) (by omega)]
        congr 1
        have e1 := sub_rd h he (i := 1 + i) (by omega)
        have e2 := rd_get (l := L) (i := i) (by omega)
        have e3 := rd_get (l := b) (i := 1 + i) (by omega)
        have e4 : L[i]'(by omega) = b[1 + i]'(by omega) := by subst hLe; simp only [List.getElem_take, List.getElem_drop]
        rw [e2, e4, ← e3, e1]
        congr 1
        omega
      have hrg := refS_range hLb 0 (by omega)
      have hre := refS_eq hLb 0 (by omega)
      have hrl := numS_le hLb 0 (by omega)
      have loop := fun v hv => item_loop b0 L hb0 hlen (a + 1) kk (by omega) (by omega) hL hLl (e : Int) d (base : Int) (refS L 0) (m + 1) v hv kk 0 0 (by omega) (by omega) rfl
      have hr1 := rd_bytes hb 1
      have e1 : rd b 1 = rd b0 (((a + 1 : Nat) : Int)) := by
        have := sub_rd h he (i := 1) (by omega)
        rw [show (((a + 1 : Nat) : Int)) = (a : Int) + ((1 : Nat) : Int) by omega, ← this]
        rfl
      have bad : ∀ f : Int, Conv (fun k => (moraineref4_reader_fault.f b0 (m + 1) 0 f).bind fun bt => (some (bt.1, bt.2.1, bt.2.2.1, bt.2.2.2.1, bt.2.2.2.2.1, bt.2.2.2.2.2))) (false, [], [], 0, m + 1, f) := fun f =>
        Conv.bindc (by unfold moraineref4_reader_fault.f; rw [if_pos rfl]) (Conv.pure _)
      by_cases h3 : rd b 1 = 0 ∨ numS L 0 ≤ 55 ∨ numS L 0 > 2147483648
      · rw [if_pos h3]
        refine ⟨fun _ => step _ (fun _ => loop _ (Conv.succ ?_)) (fun x => absurd x h2), fun x => absurd x (by decide)⟩
        simp only [moraineref4_reader_item.l0]
        rw [← e1]
        refine Conv.iteF (by omega) (Conv.iteT (by omega) (Conv.iteT (by omega) (Conv.ite (fun _ => bad 40) fun c1 => Conv.ite (fun _ => bad 40) fun c2 => Conv.ite (fun _ => bad 40) fun c3 => ?_)))
        exfalso
        rcases h3 with h3 | h3 | h3
        · exact c1 h3
        · have := hre.1 (by omega); omega
        · have := hre.2 h3; omega
      · rw [if_neg h3]
        refine ⟨fun x => absurd rfl x, fun _ v hv => step v (fun _ => loop v (Conv.succ ?_)) (fun x => absurd x h2)⟩
        simp only [moraineref4_reader_item.l0]
        have h4 := hre.1 (by omega)
        rw [← e1, h4, wrap64_id (n := ((a + 1 : Nat) : Int) + _) (by omega) (by omega)]
        refine Conv.iteF (by omega) (Conv.iteT (by omega) (Conv.iteT (by omega) (Conv.iteF (by omega) (Conv.iteF (by omega) (Conv.iteF (by omega) ?_)))))
        simp only at hv
        rw [show (((numS L 0).toNat : Nat) : Int) = numS L 0 by omega, show (a : Int) + ((1 + kk : Nat) : Int) = ((a + 1 : Nat) : Int) + (kk : Int) by omega] at hv
        exact hv
/-- one item at the beginning -/
def PA (b : List Int) : Prop := Bytes b → b.length ≤ 65536 → ∀ m d : Int, 0 ≤ m ∧ m ≤ 4096 → 1 ≤ d ∧ d ≤ 17 → ∃ (x : S25) (n : Nat) (e m' : Int), 0 ≤ m' ∧ m' ≤ 4096 ∧
  Conv (fun k => rlp_walker_first.f k m b d) (x.f0, x.f1, x.f2, (n : Int), e, m') ∧
  (∀ (b0 : List Int) (a z : Nat), Bytes b0 → b0.length ≤ 65536 → a ≤ z → z ≤ b0.length → (b0.take z).drop a = b → Conv (fun k => moraineref4_reader_item.f k b0 m 0 (a : Int) (z : Int) d) (if e = 0 then (x.f0, x.f1, x.f2, ((a + n : Nat) : Int), m', 0) else (false, [], [], 0, m', e))) ∧
  (e ≠ 0 → x = ⟨false, [], []⟩ ∧ n = 0) ∧ (e = 0 → 1 ≤ n ∧ n ≤ b.length ∧ encS x = b.take n ∧ sizeS x m d = ((n : Int), 0, m'))
/-- items to the end -/
def PL (b : List Int) : Prop := Bytes b → b.length ≤ 65536 → ∀ m d : Int, 0 ≤ m ∧ m ≤ 4096 → 1 ≤ d ∧ d ≤ 16 → ∃ (l : List S25) (e m' : Int), 0 ≤ m' ∧ m' ≤ 4096 ∧
  (∀ (acc : List S25) (E : Int), acc.length + b.length ≤ 65536 → Conv (fun k => rlp_walker_first.l0 k d b E m true acc) (if e = 0 then (true, [], acc ++ l, E, 0, m') else (false, [], [], 0, e, m'))) ∧
  (∀ (acc : List S25) (b0 : List Int) (a z : Nat), acc.length + b.length ≤ 65536 → Bytes b0 → b0.length ≤ 65536 → a ≤ z → z ≤ b0.length → (b0.take z).drop a = b → Conv (fun k => moraineref4_reader_item.l1 k d (a : Int) (z : Int) b0 m 0 true acc) (if e = 0 then (true, [], acc ++ l, (z : Int), m', 0) else (false, [], [], 0, m', e))) ∧
  (e = 0 → encL l = b ∧ ∀ s : Int, 0 ≤ s → sizeL l m (d + 1) s = (s + (b.length : Int) + ((headS 0 (s + (b.length : Int)).toNat).length : Int), 0, m'))
theorem pl_of (b : List Int) (ha : PA b) (ih : ∀ c : List Int, c.length < b.length → PL c) : PL b := by
  intro hb hl m d hm hd
  by_cases h0 : b.length = 0
  · have hb0 := List.eq_nil_of_length_eq_zero h0
    subst hb0
    refine ⟨[], 0, m, hm.1, hm.2, fun acc E hacc => Conv.succ ?_, fun acc b0 a z hacc hB hBl haz hz hs => Conv.succ ?_, fun _ => ⟨by rw [encL], fun s hs => by rw [sizeL]; simp⟩⟩
    · simp only [rlp_walker_first.l0]
      exact Conv.iteF (by simp) (Conv.eq (Conv.pure _) (by simp))
    · have := sub_length hs hz
      simp only [List.length_nil] at this
      simp only [moraineref4_reader_item.l1]
      exact Conv.iteF (by omega) (Conv.iteT trivial (Conv.eq (Conv.pure _) (by simp)))
  · obtain ⟨⟨xb, xs, xl⟩, n, e, m1, hm1, hm2, hp, hr, hbad, hok⟩ := ha hb hl m (d + 1) hm (by omega)
    by_cases h1 : e = 0
    · subst h1
      obtain ⟨hn1, hn2, henc, hsz⟩ := hok rfl
      obtain ⟨l, e, m2, hm3, hm4, hp2, hr2, hok2⟩ := ih (b.drop n) (by rw [List.length_drop]; omega) (hb.drop n) (by rw [List.length_drop]; omega) m1 d ⟨hm1, hm2⟩ hd
      refine ⟨⟨xb, xs, xl⟩ :: l, e, m2, hm3, hm4, fun acc E hacc => Conv.succ ?_, fun acc b0 a z hacc hB hBl haz hz hs => Conv.succ ?_, fun he => ?_⟩
      · simp only [rlp_walker_first.l0]
        rw [wrap64_id (n := d + 1) (by omega) (by omega)]
        refine Conv.iteT (by omega) (Conv.bind hp (Conv.iteT rfl (Conv.iteT (by omega) (Conv.iteT (by dsimp only; omega) (Conv.iteT (by dsimp only; omega) ?_)))))
        dsimp only
        have := hp2 (acc ++ [⟨xb, xs, xl⟩]) E (by rw [List.length_append, List.length_drop, List.length_singleton]; omega)
        rw [List.append_assoc, List.singleton_append] at this
        rw [Int.toNat_natCast]
        exact this
      · have hsl := sub_length hs hz
        simp only [moraineref4_reader_item.l1]
        rw [wrap64_id (n := d + 1) (by omega) (by omega)]
        have h2 := hr b0 a z hB hBl haz hz hs
        rw [if_pos rfl] at h2
        refine Conv.iteT (by omega) (Conv.iteT trivial (Conv.bind h2 (Conv.iteT (by omega) ?_)))
        dsimp only
        have h3 := hr2 (acc ++ [⟨xb, xs, xl⟩]) b0 (a + n) z (by rw [List.length_append, List.length_drop, List.length_singleton]; omega) hB hBl (by omega) hz (by rw [← hs, List.drop_drop])
        rw [List.append_assoc, List.singleton_append] at h3
        exact h3
      · obtain ⟨k1, k2⟩ := hok2 he
        refine ⟨by rw [encL, henc, k1, List.take_append_drop], fun s hs => ?_⟩
        rw [sizeL, hsz]
        simp only
        rw [if_pos trivial, k2 (s + n) (by omega), List.length_drop, show s + (n : Int) + ((b.length - n : Nat) : Int) = s + (b.length : Int) by omega]
    · refine ⟨[], e, m1, hm1, hm2, fun acc E hacc => Conv.succ ?_, fun acc b0 a z hacc hB hBl haz hz hs => Conv.succ ?_, fun he => absurd he h1⟩
      · simp only [rlp_walker_first.l0]
        rw [wrap64_id (n := d + 1) (by omega) (by omega), if_neg h1]
        exact Conv.iteT (by omega) (Conv.bind hp (Conv.iteF h1 (Conv.pure _)))
      · have hsl := sub_length hs hz
        simp only [moraineref4_reader_item.l1]
        rw [wrap64_id (n := d + 1) (by omega) (by omega), if_neg h1]
        have h2 := hr b0 a z hB hBl haz hz hs
        rw [if_neg h1] at h2
        refine Conv.iteT (by omega) (Conv.iteT trivial (Conv.bind h2 (Conv.iteT (by omega) (Conv.succ ?_))))
        simp only [moraineref4_reader_item.l1]
        exact Conv.ite (fun _ => Conv.iteF h1 (Conv.pure _)) (fun _ => Conv.iteF h1 (Conv.pure _))
theorem pa_of (b : List Int) (ih : ∀ c : List Int, c.length < b.length → PL c) : PA b := by
  intro hb hl m d hm hd
  by_cases h0 : b.length = 0
  · have hb0 := List.eq_nil_of_length_eq_zero h0
    subst hb0
    refine ⟨⟨false, [], []⟩, 0, 41, m, hm.1, hm.2, Conv.succ ?_, fun b0 a z hB hBl haz hz hs => Conv.succ ?_, fun _ => ⟨rfl, rfl⟩, fun h => absurd h (by decide)⟩
    · simp only [rlp_walker_first.f]
      exact Conv.iteT (by simp) (Conv.pure _)
    · have := sub_length hs hz
      simp only [List.length_nil] at this
      simp only [moraineref4_reader_item.f]
      exact Conv.iteT (by omega) (Conv.bindc (by unfold moraineref4_reader_fault.f; rw [if_pos rfl]) (Conv.pure _))
  by_cases hdeep : d > 16 ∨ m = 4096
  · refine ⟨⟨false, [], []⟩, 0, 43, m, hm.1, hm.2, Conv.succ ?_, fun b0 a z hB hBl haz hz hs => Conv.succ ?_, fun _ => ⟨rfl, rfl⟩, fun h => absurd h (by decide)⟩
    · simp only [rlp_walker_first.f]
      refine Conv.iteF (by omega) (Conv.bindc (a := (43, m)) ?_ (Conv.iteF (show ¬ (43 : Int) = 0 by decide) (Conv.pure _)))
      unfold rlp_walker_meets.f
      by_cases h : d > 16
      · rw [if_pos h]
      · rw [if_neg h, if_pos (by omega)]
    · have hsl := sub_length hs hz
      have deep : ∀ c : Bool, c = true → Conv (fun k => moraineref4_reader_item.j0 k (a : Int) (z : Int) d c b0 m 0) (false, [], [], 0, m, 43) := by
        intro c hc
        subst hc
        refine Conv.succ ?_
        simp only [moraineref4_reader_item.j0]
        exact Conv.iteT (by trivial) (Conv.bindc (by unfold moraineref4_reader_fault.f; rw [if_pos rfl]) (Conv.pure _))
      simp only [moraineref4_reader_item.f]
      exact Conv.iteF (by omega) (Conv.ite (fun _ => deep _ rfl) (fun c => deep _ (beq_iff_eq.mpr (by omega))))
  have hmeets : rlp_walker_meets.f m d = some (0, m + 1) := by
    unfold rlp_walker_meets.f
    rw [if_neg (by omega), if_neg (by omega), wrap64_id (by omega) (by omega)]
  by_cases hc : rd b 0 < 128
  · have hr0 := rd_bytes hb 0
    have ht1 : b.take 1 = [rd b 0] := by
      have := drop_cons (l := b) (i := 0) (by omega)
      rw [List.drop_zero] at this
      rw [this]; simp [rd]
    refine ⟨⟨false, [rd b 0], []⟩, 1, 0, m + 1, by omega, by omega, Conv.succ ?_, fun b0 a z hB hBl haz hz hs => Conv.succ ?_, fun h => absurd rfl h, fun _ => ⟨by omega, by omega, ?_, ?_⟩⟩
    · simp only [rlp_walker_first.f]
      refine Conv.iteF (by omega) (Conv.bindc hmeets (Conv.iteT rfl (Conv.bindc (reads_own hb (by omega) hc) (Conv.iteT rfl ?_))))
      simp only
      rw [wrap64_id (n := (b.length : Int) - 0) (by omega) (by omega), wrap64_id (n := (0 : Int) + 1) (by omega) (by omega)]
      refine Conv.iteF (by omega) (Conv.iteT (by omega) (Conv.iteT (by omega) (Conv.iteT (by omega) (Conv.bindc rfl (Conv.iteF (by decide) (Conv.iteT trivial ?_))))))
      refine Conv.bindc (a := [rd b 0]) ?_ (Conv.pure _)
      unfold bytes_Clone.f
      simp only [Int.toNat_zero, List.drop_zero, show (0 + 1 : Int).toNat = 1 by decide, ht1]
      rw [if_pos (by simp)]
    · have hsl := sub_length hs hz
      have e0 : rd b 0 = rd b0 (a : Int) := by
        have := sub_rd hs hz (i := 0) (by omega)
        simpa using this
      simp only [moraineref4_reader_item.f]
      rw [show (m == 4096) = false from beq_eq_false_iff_ne.mpr (by omega)]
      refine Conv.iteF (by omega) (Conv.iteF (by omega) (Conv.succ ?_))
      simp only [moraineref4_reader_item.j0]
      rw [← e0, wrap64_id (n := rd b 0) (by omega) (by omega), wrap64_id (n := m + 1) (by omega) (by omega), wrap64_id (n := (a : Int) + 1) (by omega) (by omega)]
      refine Conv.iteF (by decide) (Conv.iteT (by omega) (Conv.iteT (by omega) (Conv.iteT hc (Conv.eq (Conv.pure _) ?_))))
      rw [if_pos trivial, show rd b 0 % 256 = rd b 0 by omega]
      rfl
    · have ho : ownS [rd b 0] = true := decide_eq_true ⟨rfl, by simpa [rd] using hc⟩
      rw [encS, if_neg (by decide), if_pos ho, ht1]
    · have ho : ownS [rd b 0] = true := decide_eq_true ⟨rfl, by simpa [rd] using hc⟩
      rw [sizeS, if_neg hdeep, if_neg (by simp), if_pos ho]
      rfl
  have hbl : 0 < b.length := by omega
  rcases reads_hd hb hbl hc with ⟨he, hrd⟩ | ⟨he, x1, x2, x3, hrd⟩
  case inr =>
    refine ⟨⟨false, [], []⟩, 0, (hdS b).2.2, m + 1, by omega, by omega, Conv.succ ?_, fun b0 a z hB hBl haz hz hs => ?_, fun _ => ⟨rfl, rfl⟩, fun h => absurd h he⟩
    · simp only [rlp_walker_first.f]
      exact Conv.iteF (by omega) (Conv.bindc hmeets (Conv.iteT rfl (Conv.bindc hrd (Conv.iteF he (Conv.pure _)))))
    · have hsl := sub_length hs hz
      rw [if_neg he]
      exact (item_hd hs hB hBl (by omega) hz m d (by omega) (by omega) hc).1 he
  case inl =>
    obtain ⟨hh1, hh2, hh3, hh4, hh5⟩ := hd_head hb hbl hc he
    obtain ⟨a0, ha0⟩ : ∃ a0, a0 = (hdS b).1 := ⟨_, rfl⟩
    obtain ⟨n0, hn0⟩ : ∃ n0, n0 = (hdS b).2.1 := ⟨_, rfl⟩
    have hit := fun (b0 : List Int) (a z : Nat) hB hBl haz hz hs => (item_hd (b0 := b0) (a := a) (e := z) (b := b) hs hB hBl haz hz m d (by omega) (by omega) hc).2 he
    rw [← ha0, ← hn0] at hrd hh5
    rw [← ha0] at hh1 hh2 hh3
    rw [← hn0] at hh4
    rw [← ha0, ← hn0] at hit
    by_cases hlong : b.length - a0 < n0
    · refine ⟨⟨false, [], []⟩, 0, 41, m + 1, by omega, by omega, Conv.succ ?_, fun b0 a z hB hBl haz hz hs => ?_, fun _ => ⟨rfl, rfl⟩, fun h => absurd h (by decide)⟩
      · simp only [rlp_walker_first.f]
        refine Conv.iteF (by omega) (Conv.bindc hmeets (Conv.iteT rfl (Conv.bindc hrd (Conv.iteT rfl ?_))))
        simp only
        rw [wrap64_id (n := (b.length : Int) - a0) (by omega) (by omega)]
        exact Conv.iteT (by omega) (Conv.pure _)
      · have hsl := sub_length hs hz
        refine hit b0 a z hB hBl (by omega) hz hs _ (Conv.succ ?_)
        simp only [moraineref4_reader_item.j3]
        rw [wrap64_id (n := (z : Int) - _) (by omega) (by omega)]
        exact Conv.iteT (by omega) (Conv.bindc (by unfold moraineref4_reader_fault.f; rw [if_pos rfl]) (Conv.pure _))
    obtain ⟨inn, hinn⟩ : ∃ inn, inn = (b.take (a0 + n0)).drop a0 := ⟨_, rfl⟩
    have hil : inn.length = n0 := by rw [hinn, List.length_drop, List.length_take]; omega
    have hib : Bytes inn := by rw [hinn]; exact (hb.take _).drop _
    have htk : b.take (a0 + n0) = b.take a0 ++ inn := by
      have := List.take_append_drop a0 (b.take (a0 + n0))
      rw [List.take_take, Nat.min_eq_left (by omega)] at this
      rw [hinn, this]
    have hsub : ∀ (b0 : List Int) (a z : Nat), z ≤ b0.length → a ≤ z → (b0.take z).drop a = b → (b0.take (a + (a0 + n0))).drop (a + a0) = inn := by
      intro b0 a z hz haz hs
      have hsl := sub_length hs hz
      rw [sub_sub hs hz a0 (a0 + n0) (by omega), hinn]
    have prog : ∀ v, Conv (fun k => (if decide (192 ≤ rd b 0) = true then (rlp_walker_first.l0 k d inn ((a0 + n0 : Nat) : Int) (m + 1) true ([] : List (S25))) else ((rlp_own.f inn).bind fun t183 => (if t183 = true then (some (false, ([] : List Int), ([] : List (S25)), 0, 40, m + 1)) else ((bytes_Clone.f inn).bind fun t184 => (some (false, t184, ([] : List (S25)), ((a0 + n0 : Nat) : Int), 0, m + 1))))))) v → Conv (fun k => rlp_walker_first.f k m b d) v := by
      intro v hv
      refine Conv.succ ?_
      simp only [rlp_walker_first.f]
      refine Conv.iteF (by omega) (Conv.bindc hmeets (Conv.iteT rfl (Conv.bindc hrd (Conv.iteT rfl ?_))))
      simp only
      rw [wrap64_id (n := (b.length : Int) - a0) (by omega) (by omega), wrap64_id (n := (a0 : Int) + n0) (by omega) (by omega)]
      refine Conv.iteF (by omega) (Conv.iteT (by omega) (Conv.iteT (by omega) (Conv.iteT (by omega) (Conv.bindc (a := inn) ?_ ?_))))
      · rw [hinn, show ((a0 : Int) + (n0 : Int)).toNat = a0 + n0 by omega, Int.toNat_natCast]
      · rw [show (a0 : Int) + (n0 : Int) = ((a0 + n0 : Nat) : Int) by omega]
        simpa only [Bool.false_eq_true, if_false] using hv
    by_cases hlist : 192 ≤ rd b 0
    · have hhd : b.take a0 = headS 192 n0 := by rw [hh5, if_pos hlist]
      obtain ⟨l, e, m2, hm3, hm4, hp2, hr2, hok2⟩ := ih inn (by omega) hib (by omega) (m + 1) d (by omega) (by omega)
      have hp3 := hp2 [] ((a0 + n0 : Nat) : Int) (by simp; omega)
      by_cases h1 : e = 0
      · subst h1
        rw [if_pos rfl, List.nil_append] at hp3
        obtain ⟨k1, k2⟩ := hok2 rfl
        refine ⟨⟨true, [], l⟩, a0 + n0, 0, m2, hm3, hm4, prog _ (Conv.iteT (decide_eq_true hlist) hp3), fun b0 a z hB hBl haz hz hs => ?_, fun h => absurd rfl h, fun _ => ⟨by omega, by omega, ?_, ?_⟩⟩
        · have hsl := sub_length hs hz
          refine hit b0 a z hB hBl (by omega) hz hs _ (Conv.succ ?_)
          simp only [moraineref4_reader_item.j3]
          rw [if_pos hlist, wrap64_id (n := (z : Int) - _) (by omega) (by omega), wrap64_id (n := (a : Int) + (a0 : Int) + (n0 : Int)) (by omega) (by omega)]
          refine Conv.iteF (by omega) (Conv.iteF (by decide) ?_)
          have h3 := hr2 [] b0 (a + a0) (a + (a0 + n0)) (by simp; omega) hB hBl (by omega) (by omega) (hsub b0 a z hz haz hs)
          rw [show (a : Int) + (a0 : Int) + (n0 : Int) = ((a + (a0 + n0) : Nat) : Int) by omega, show (a : Int) + (a0 : Int) = ((a + a0 : Nat) : Int) by omega]
          rw [List.nil_append] at h3
          exact h3
        · rw [encS, if_pos rfl, k1, hil, htk, hhd]
        · have hq : ¬ ownS [] = true := fun h => absurd (of_decide_eq_true h).1 (by simp)
          rw [sizeS, if_neg hdeep, if_neg (by simp), if_neg hq]
          have := k2 0 (by omega)
          simp only [List.length_nil, Int.natCast_zero]
          rw [this, Int.zero_add, hil, Int.toNat_natCast]
          have hl3 : (headS 0 n0).length = a0 := by rw [headS_length 0 192, ← hhd, List.length_take]; omega
          rw [hl3]
          simp only [Prod.mk.injEq, and_true]
          omega
      · rw [if_neg h1] at hp3
        refine ⟨⟨false, [], []⟩, 0, e, m2, hm3, hm4, prog _ (Conv.iteT (decide_eq_true hlist) hp3), fun b0 a z hB hBl haz hz hs => ?_, fun _ => ⟨rfl, rfl⟩, fun h => absurd h h1⟩
        have hsl := sub_length hs hz
        refine hit b0 a z hB hBl (by omega) hz hs _ (Conv.succ ?_)
        simp only [moraineref4_reader_item.j3]
        rw [if_pos hlist, wrap64_id (n := (z : Int) - _) (by omega) (by omega), wrap64_id (n := (a : Int) + (a0 : Int) + (n0 : Int)) (by omega) (by omega)]
        refine Conv.iteF (by omega) (Conv.iteF (by decide) ?_)
        have h3 := hr2 [] b0 (a + a0) (a + (a0 + n0)) (by simp; omega) hB hBl (by omega) (by omega) (hsub b0 a z hz haz hs)
        rw [show (a : Int) + (a0 : Int) + (n0 : Int) = ((a + (a0 + n0) : Nat) : Int) by omega, show (a : Int) + (a0 : Int) = ((a + a0 : Nat) : Int) by omega]
        rw [if_neg h1] at h3 ⊢
        exact h3
    · have hhd : b.take a0 = headS 128 n0 := by rw [hh5, if_neg hlist]
      have hst : ∀ (b0 : List Int) (a z : Nat), Bytes b0 → b0.length ≤ 65536 → a ≤ z → z ≤ b0.length → (b0.take z).drop a = b → ∀ v, (ownS inn = true → v = (false, [], [], 0, m + 1, 40)) → (¬ ownS inn = true → v = (false, inn, [], ((a + (a0 + n0) : Nat) : Int), m + 1, 0)) → Conv (fun k => moraineref4_reader_item.f k b0 m 0 (a : Int) (z : Int) d) v := by
        intro b0 a z hB hBl haz hz hs v hv1 hv2
        have hsl := sub_length hs hz
        have hsb := hsub b0 a z hz haz hs
        refine hit b0 a z hB hBl (by omega) hz hs v (Conv.succ ?_)
        simp only [moraineref4_reader_item.j3]
        rw [if_neg hlist, wrap64_id (n := (z : Int) - _) (by omega) (by omega), wrap64_id (n := (a : Int) + (a0 : Int) + (n0 : Int)) (by omega) (by omega)]
        refine Conv.iteF (by omega) (Conv.iteT rfl ?_)
        have fin : ¬ ownS inn = true → Conv (fun k => (if (a : Int) + (a0 : Int) ≤ (a : Int) + (a0 : Int) + (n0 : Int) then (if (a : Int) + (a0 : Int) + (n0 : Int) ≤ (b0.length : Int) then (if ([] : List Int).length + ((b0.take ((a : Int) + (a0 : Int) + (n0 : Int)).toNat).drop ((a : Int) + (a0 : Int)).toNat).length < 140737488355328 then (some (false, (([] : List Int) ++ ((b0.take ((a : Int) + (a0 : Int) + (n0 : Int)).toNat).drop ((a : Int) + (a0 : Int)).toNat)), ([] : List (S25)), (a : Int) + (a0 : Int) + (n0 : Int), m + 1, 0)) else (none)) else (none)) else (none))) v := by
          intro ho
          rw [show ((a : Int) + (a0 : Int) + (n0 : Int)).toNat = a + (a0 + n0) by omega, show ((a : Int) + (a0 : Int)).toNat = a + a0 by omega, hsb]
          refine Conv.iteT (by omega) (Conv.iteT (by omega) (Conv.iteT (by simp; omega) (Conv.eq (Conv.pure _) ?_)))
          rw [hv2 ho, List.nil_append, show (a : Int) + (a0 : Int) + (n0 : Int) = ((a + (a0 + n0) : Nat) : Int) by omega]
        refine Conv.ite (fun c => ?_) fun c => ?_
        · have hn1 : n0 = 1 := by omega
          have hri : rd b0 ((a : Int) + (a0 : Int)) = rd inn 0 := by
            have := sub_rd hsb (by omega) (i := 0) (by omega)
            rw [show ((0 : Nat) : Int) = 0 by rfl] at this
            rw [this]
            congr 1
          refine Conv.iteT (by omega) (Conv.iteT (by omega) ?_)
          rw [hri]
          refine Conv.ite (fun c2 => ?_) fun c2 => ?_
          · rw [hv1 (decide_eq_true ⟨by omega, c2⟩)]
            exact Conv.bindc (by unfold moraineref4_reader_fault.f; rw [if_pos rfl]) (Conv.pure _)
          · exact fin (fun h => c2 (of_decide_eq_true h).2)
        · exact Conv.iteT (by omega) (fin (fun h => c (by have := (of_decide_eq_true h).1; omega)))
      by_cases ho : ownS inn = true
      · refine ⟨⟨false, [], []⟩, 0, 40, m + 1, by omega, by omega, prog _ (Conv.iteF (by rw [decide_eq_false hlist]; decide) (Conv.bindc (own_eq inn) (Conv.iteT ho (Conv.pure _)))), fun b0 a z hB hBl haz hz hs => ?_, fun _ => ⟨rfl, rfl⟩, fun h => absurd h (by decide)⟩
        exact hst b0 a z hB hBl haz hz hs _ (fun _ => rfl) (fun h => absurd ho h)
      · have hcl : bytes_Clone.f inn = some inn := by unfold bytes_Clone.f; rw [if_pos (by omega)]
        refine ⟨⟨false, inn, []⟩, a0 + n0, 0, m + 1, by omega, by omega, prog _ (Conv.iteF (by rw [decide_eq_false hlist]; decide) (Conv.bindc (own_eq inn) (Conv.iteF ho (Conv.bindc hcl (Conv.pure _))))), fun b0 a z hB hBl haz hz hs => ?_, fun h => absurd rfl h, fun _ => ⟨by omega, by omega, ?_, ?_⟩⟩
        · exact hst b0 a z hB hBl haz hz hs _ (fun h => absurd h ho) (fun _ => rfl)
        · rw [encS, if_neg (by decide), if_neg ho, hil, htk, hhd]
        · have hl3 : (headS 0 n0).length = a0 := by rw [headS_length 0 128, ← hhd, List.length_take]; omega
          rw [sizeS, if_neg hdeep, if_neg (by simp), if_neg ho, sizeL, hil, Int.toNat_natCast, hl3]
          simp only [Prod.mk.injEq, and_true]
          omega
theorem pl_all (j : Nat) : ∀ b : List Int, b.length ≤ j → PL b := by
  induction j with
  | zero => intro b hb; exact pl_of b (pa_of b fun c hc => by omega) fun c hc => by omega
  | succ j ih => intro b hb; exact pl_of b (pa_of b fun c hc => ih c (by omega)) fun c hc => ih c (by omega)
theorem pa_all (b : List Int) : PA b := pa_of b fun c _ => pl_all _ c (Nat.le_refl _)
end Go.Proofs.Ytbobnopnfjcajaa.Base
/- First and Decode of both sides. -/
namespace Go.Proofs.Ytbobnopnfjcajaa.Base
set_option linter.unusedVariables false
set_option linter.unusedSimpArgs false
open Go Go.RowKit Go.Proofs.YtbobnopnfjcajaaW.PrintWords Go.Proofs.YtbobnopnfjcajaaW.PrintLast Go.Proofs.YtbobnopnfjcajaaW.PrintMore Go.Proofs.Ytbobnopnfjcajaa.P

theorem first_both {b : List Int} (hb : Bytes b) : ∃ (x : S25) (n : Nat) (e : Int), Conv (fun k => rlp_First.f k b) (x.f0, x.f1, x.f2, (n : Int), e) ∧ Conv (fun k => moraineref4_First.f k b) (x.f0, x.f1, x.f2, (n : Int), e) ∧
    (e ≠ 0 → x = ⟨false, [], []⟩ ∧ n = 0) ∧ (e = 0 → 1 ≤ n ∧ n ≤ b.length ∧ b.length ≤ 65536 ∧ encS x = b.take n ∧ ∃ m, sizeS x 0 1 = ((n : Int), 0, m)) := by
  by_cases hl : b.length ≤ 65536
  · obtain ⟨x, n, e, m, hm1, hm2, hp, hr, hbad, hok⟩ := pa_all b hb hl 0 1 (by omega) (by omega)
    have hr0 := hr b 0 b.length hb hl (by omega) (Nat.le_refl _) (by rw [List.take_length, List.drop_zero])
    refine ⟨x, n, e, ?_, ?_, hbad, fun he => ?_⟩
    · unfold rlp_First.f
      exact Conv.iteF (by omega) (Conv.bind hp (Conv.pure _))
    · unfold moraineref4_First.f
      refine Conv.iteF (by omega) ?_
      by_cases he : e = 0
      · rw [if_pos he] at hr0
        refine Conv.bind hr0 (Conv.iteT rfl (Conv.eq (Conv.pure _) ?_))
        rw [he, Nat.zero_add]
      · rw [if_neg he] at hr0
        obtain ⟨e1, e2⟩ := hbad he
        refine Conv.bind hr0 (Conv.iteF he (Conv.eq (Conv.pure _) ?_))
        rw [e1, e2]
        rfl
    · obtain ⟨h1, h2, h3, h4⟩ := hok he
      exact ⟨h1, h2, hl, h3, m, h4⟩
  · refine ⟨⟨false, [], []⟩, 0, 44, ?_, ?_, fun _ => ⟨rfl, rfl⟩, fun h => absurd h (by decide)⟩
    · unfold rlp_First.f
      exact Conv.iteT (by omega) (Conv.pure _)
    · unfold moraineref4_First.f
      exact Conv.iteT (by omega) (Conv.pure _)
theorem decode_both {b : List Int} (hb : Bytes b) : ∃ (x : S25) (e : Int), Conv (fun k => rlp_Decode.f k b) (x.f0, x.f1, x.f2, e) ∧ Conv (fun k => moraineref4_Decode.f k b) (x.f0, x.f1, x.f2, e) ∧
    (e ≠ 0 → x = ⟨false, [], []⟩) ∧ (e = 0 → b.length ≤ 65536 ∧ encS x = b ∧ ∃ m, sizeS x 0 1 = ((b.length : Int), 0, m)) := by
  obtain ⟨x, n, e, hp, hr, hbad, hok⟩ := first_both hb
  by_cases he : e = 0
  · subst he
    obtain ⟨h1, h2, h3, h4, m, h5⟩ := hok rfl
    by_cases hn : n < b.length
    · refine ⟨⟨false, [], []⟩, 42, ?_, ?_, fun _ => rfl, fun h => absurd h (by decide)⟩
      · unfold rlp_Decode.f
        exact Conv.bind hp (Conv.iteT rfl (Conv.iteT (by dsimp only; omega) (Conv.pure _)))
      · unfold moraineref4_Decode.f
        refine Conv.bind hr (Conv.iteT rfl (Conv.succ ?_))
        simp only [moraineref4_Decode.j0]
        exact Conv.iteT (decide_eq_true (by omega)) (Conv.pure _)
    · have hnb : n = b.length := by omega
      refine ⟨x, 0, ?_, ?_, fun h => absurd rfl h, fun _ => ⟨h3, by rw [h4, hnb, List.take_length], m, by rw [h5, hnb]⟩⟩
      · unfold rlp_Decode.f
        exact Conv.bind hp (Conv.iteT rfl (Conv.iteF (by dsimp only; omega) (Conv.pure _)))
      · unfold moraineref4_Decode.f
        refine Conv.bind hr (Conv.iteT rfl (Conv.succ ?_))
        simp only [moraineref4_Decode.j0]
        exact Conv.iteF (by rw [decide_eq_false (by omega)]; decide) (Conv.iteT trivial (Conv.pure _))
  · refine ⟨⟨false, [], []⟩, e, ?_, ?_, fun _ => rfl, fun h => absurd h he⟩
    · unfold rlp_Decode.f
      exact Conv.bind hp (Conv.iteF he (Conv.pure _))
    · unfold moraineref4_Decode.f
      refine Conv.bind hr (Conv.iteF he (Conv.succ ?_))
      simp only [moraineref4_Decode.j0]
      exact Conv.iteF (by decide) (Conv.iteF he (Conv.pure _))
end Go.Proofs.Ytbobnopnfjcajaa.Base
/- How great an item may be that a law looks at. -/
namespace Go.Proofs.Ytbobnopnfjcajaa.Base
set_option linter.unusedVariables false
set_option linter.unusedSimpArgs false
open Go Go.RowKit Go.Proofs.YtbobnopnfjcajaaW.PrintWords Go.Proofs.YtbobnopnfjcajaaW.PrintLast Go.Proofs.YtbobnopnfjcajaaW.PrintMore Go.Proofs.Ytbobnopnfjcajaa.P

mutual
def cntS : S25 → Int → Int
  | ⟨_, s, l⟩, d => if d = 0 ∧ 0 < l.length then 401 else cntL l (d - 1) (1 + (s.length : Int) / 50)
def cntL : List S25 → Int → Int → Int
  | [], _, n => n
  | x :: l, d, n => if n ≤ 400 then cntL l d (n + cntS x d) else n
end
/-- the lengths that a law's argument may have -/
def lenS : S25 → Prop
  | ⟨_, s, l⟩ => s.length ≤ 140737488351232 ∧ l.length ≤ 140737488351232 ∧ lenL l
where lenL : List S25 → Prop
  | [] => True
  | x :: l => lenS x ∧ lenL l
theorem lenL_mem {l : List S25} (h : lenS.lenL l) : ∀ x ∈ l, lenS x := by
  induction l with
  | nil => intro x hx; cases hx
  | cons y l ih =>
    intro x hx
    rcases List.mem_cons.mp hx with e | e
    · rw [e]; exact h.1
    · exact ih h.2 x e
mutual
theorem cntS_range : ∀ (x : S25) (d : Int) (hd : 0 ≤ d) (hx : lenS x), 1 ≤ cntS x d ∧ cntS x d ≤ 2814749768000 + 400 * (d + 2)
  | ⟨b, s, l⟩, d, hd, hx => by
    rw [lenS] at hx
    rw [cntS]
    split
    · omega
    · rename_i h
      by_cases h0 : d = 0
      · have hl : l = [] := List.eq_nil_of_length_eq_zero (by
          have : ¬ 0 < l.length := fun e => h ⟨h0, e⟩
          omega)
        rw [hl, cntL]; omega
      · have := cntL_range l (d - 1) (1 + (s.length : Int) / 50) (by omega) hx.2.2
        omega
theorem cntL_range : ∀ (l : List S25) (d n : Int) (hd : 0 ≤ d) (hx : lenS.lenL l), n ≤ cntL l d n ∧ (cntL l d n ≤ n ∨ cntL l d n ≤ 400 + 2814749768000 + 400 * (d + 2))
  | [], d, n, hd, hx => by rw [cntL]; omega
  | x :: l, d, n, hd, hx => by
    rw [cntL]
    split
    · have h1 := cntS_range x d hd hx.1
      have h2 := cntL_range l d (n + cntS x d) hd hx.2
      omega
    · omega
end
mutual
theorem cntS_tot : ∀ (x : S25) (d : Int) (hd : 0 ≤ d) (hx : lenS x) (h : cntS x d ≤ 400), (totS x : Int) ≤ 58 * cntS x d
  | ⟨b, s, l⟩, d, hd, hx, h => by
    rw [lenS] at hx
    rw [cntS] at h ⊢
    rw [totS]
    split at h
    · omega
    · rename_i hc
      rw [if_neg hc]
      by_cases h0 : d = 0
      · have hl : l = [] := List.eq_nil_of_length_eq_zero (by
          have : ¬ 0 < l.length := fun e => hc ⟨h0, e⟩
          omega)
        rw [hl, cntL, totL]; omega
      · have := cntL_tot l (d - 1) (1 + (s.length : Int) / 50) (by omega) (by omega) hx.2.2 h
        omega
theorem cntL_tot : ∀ (l : List S25) (d n : Int) (hd : 0 ≤ d) (hn : 1 ≤ n) (hx : lenS.lenL l) (h : cntL l d n ≤ 400), (totL l : Int) ≤ 58 * (cntL l d n - n)
  | [], d, n, hd, hn, hx, h => by rw [cntL, totL]; omega
  | x :: l, d, n, hd, hn, hx, h => by
    rw [cntL] at h ⊢
    rw [totL]
    split at h
    · rename_i hc
      rw [if_pos hc]
      have h1 := cntS_range x d hd hx.1
      have h2 := cntL_range l d (n + cntS x d) hd hx.2
      have h3 := cntL_tot l d (n + cntS x d) hd (by omega) hx.2 h
      have h4 := cntS_tot x d hd hx.1 (by omega)
      omega
    · omega
end
theorem count_l0 (b : Bool) (s : List Int) (l : List S25) (hl : l.length ≤ 140737488351232) (hx : lenS.lenL l) (d : Int) (hd : 1 ≤ d ∧ d ≤ 18) (hp : ∀ x ∈ l, Conv (fun k => morainelaw4_count.f k x.f0 x.f1 x.f2 (d - 1)) (cntS x (d - 1))) (j : Nat) :
    ∀ (i : Nat) (n : Int), i + j = l.length → 1 ≤ n ∧ n ≤ 140737488351232 → Conv (fun k => morainelaw4_count.l0 k d n (i : Int) b s l) (cntL (l.drop i) (d - 1) n) := by
  induction j with
  | zero =>
    intro i n hi hn
    refine Conv.succ ?_
    simp only [morainelaw4_count.l0]
    rw [List.drop_eq_nil_of_le (by omega), cntL]
    exact Conv.iteF (by omega) (Conv.pure _)
  | succ j ih =>
    intro i n hi hn
    refine Conv.succ ?_
    simp only [morainelaw4_count.l0]
    rw [dropT (l := l) (i := i) (by omega), cntL, wrap64_id (n := d - 1) (by omega) (by omega), wrap64_id (n := (i : Int) + 1) (by omega) (by omega)]
    refine Conv.iteT (by omega) (Conv.ite (fun c => ?_) fun c => ?_)
    · have hm := rdT_mem (l := l) (i := i) (by omega)
      have hr := cntS_range (rd_T25 l (i : Int)) (d - 1) (by omega) (lenL_mem hx _ hm)
      rw [if_pos c]
      refine Conv.iteT (by omega) (Conv.bind (hp _ hm) ?_)
      rw [wrap64_id (n := n + _) (by omega) (by omega)]
      exact ih (i + 1) _ (by omega) (by omega)
    · rw [if_neg c]; exact Conv.pure _
theorem count_conv : ∀ (x : S25) (d : Int) (hd : 0 ≤ d ∧ d ≤ 18) (hx : lenS x), Conv (fun k => morainelaw4_count.f k x.f0 x.f1 x.f2 d) (cntS x d)
  | ⟨b, s, l⟩, d, hd, hx => by
    rw [lenS] at hx
    rw [cntS]
    refine Conv.succ ?_
    simp only [morainelaw4_count.f]
    rw [wrap64_id (n := (s.length : Int) / 50) (by omega) (by omega), wrap64_id (n := 1 + (s.length : Int) / 50) (by omega) (by omega)]
    have start : ∀ c : Bool, c = false → (d = 0 → l = []) → Conv (fun k => morainelaw4_count.j0 k d (1 + (s.length : Int) / 50) c b s l) (cntL l (d - 1) (1 + (s.length : Int) / 50)) := by
      intro c hc hz
      subst hc
      refine Conv.succ ?_
      simp only [morainelaw4_count.j0]
      refine Conv.iteF (by decide) ?_
      by_cases h0 : d = 0
      · rw [hz h0, cntL]
        refine Conv.succ ?_
        simp only [morainelaw4_count.l0]
        exact Conv.iteF (by simp) (Conv.pure _)
      · have := count_l0 b s l hx.2.1 hx.2.2 d (by omega) (fun y hy => count_conv y (d - 1) (by omega) (lenL_mem hx.2.2 y hy)) l.length 0 (1 + (s.length : Int) / 50) (by omega) (by omega)
        simpa using this
    by_cases h0 : d = 0
    · refine Conv.iteT h0 ?_
      by_cases h1 : 0 < l.length
      · rw [if_pos ⟨h0, h1⟩, show decide ((l.length : Int) > 0) = true from decide_eq_true (by omega)]
        refine Conv.succ ?_
        simp only [morainelaw4_count.j0]
        exact Conv.iteT (by trivial) (Conv.pure _)
      · rw [if_neg (fun h => h1 h.2)]
        exact start _ (decide_eq_false (by omega)) (fun _ => List.eq_nil_of_length_eq_zero (by omega))
    · rw [if_neg (fun h => h0 h.1)]
      exact Conv.iteF h0 (start _ rfl (fun h => absurd h h0))
termination_by x => SizeOf.sizeOf x
decreasing_by
  have := List.sizeOf_lt_of_mem hy
  simp only [S25.mk.sizeOf_spec]
  omega
theorem few_conv (x : S25) (hx : lenS x) : Conv (fun k => morainelaw4_few.f k x.f0 x.f1 x.f2) (decide (cntS x 18 ≤ 400)) := by
  unfold morainelaw4_few.f
  exact Conv.bind (count_conv x 18 (by omega) hx) (Conv.pure _)
mutual
theorem enc_tot : ∀ (x : S25) (ht : totS x < 4611686018427387904), (encS x).length ≤ totS x
  | ⟨b, s, l⟩, ht => by
    rw [totS] at ht
    have h1 := encL_tot l (by omega)
    rw [encS, totS]
    by_cases hb : b = true
    · rw [if_pos hb, List.length_append]
      have := headS_le (b := 192) (n := (encL l).length) (by omega)
      omega
    · rw [if_neg hb]
      split
      · omega
      · rw [List.length_append]
        have := headS_le (b := 128) (n := s.length) (by omega)
        omega
theorem encL_tot : ∀ (l : List S25) (ht : totL l < 4611686018427387904), (encL l).length ≤ totL l
  | [], ht => by rw [encL, totL]; simp
  | x :: l, ht => by
    rw [totL] at ht
    have h1 := enc_tot x (by omega)
    have h2 := encL_tot l (by omega)
    rw [encL, totL, List.length_append]; omega
end
end Go.Proofs.Ytbobnopnfjcajaa.Base
/- When two items are told the same. -/
namespace Go.Proofs.Ytbobnopnfjcajaa.Base
set_option linter.unusedVariables false
set_option linter.unusedSimpArgs false
open Go Go.RowKit Go.Proofs.YtbobnopnfjcajaaW.PrintWords Go.Proofs.YtbobnopnfjcajaaW.PrintLast Go.Proofs.YtbobnopnfjcajaaW.PrintMore Go.Proofs.Ytbobnopnfjcajaa.P

mutual
theorem lenS_of_size : ∀ (x : S25) (n d : Int) (h : (sizeS x n d).2.1 = 0) (hl : (encS x).length ≤ 70000), lenS x
  | ⟨b, s, l⟩, n, d, h, hl => by
    rw [sizeS] at h
    rw [encS] at hl
    rw [lenS]
    split at h
    · simp at h
    · split at h
      · simp at h
      · rename_i h2
        by_cases hb : b = true
        · have hs : s.length = 0 := by
            by_cases e : 0 < s.length
            · exact absurd (.inl ⟨hb, e⟩) h2
            · omega
          rw [if_pos hb, List.length_append] at hl
          have hll := encL_len l
          have ho : ¬ ownS s = true := fun e => by have := (of_decide_eq_true e).1; omega
          rw [if_neg ho] at h
          exact ⟨by omega, by omega, lenL_of_size l _ _ _ h (by omega)⟩
        · have hl0 : l = [] := List.eq_nil_of_length_eq_zero (by
            have : ¬ 0 < l.length := fun e => h2 (.inr ⟨by cases b <;> simp_all, e⟩)
            omega)
          rw [if_neg hb] at hl
          subst hl0
          refine ⟨?_, by simp, trivial⟩
          split at hl
          · omega
          · rw [List.length_append] at hl; omega
theorem lenL_of_size : ∀ (l : List S25) (n d s : Int) (h : (sizeL l n d s).2.1 = 0) (hl : (encL l).length ≤ 70000), lenS.lenL l
  | [], n, d, s, h, hl => trivial
  | x :: l, n, d, s, h, hl => by
    rw [sizeL] at h
    rw [encL, List.length_append] at hl
    split at h
    · rename_i c
      exact ⟨lenS_of_size x n d c (by omega), lenL_of_size l _ _ _ h (by omega)⟩
    · rename_i c
      exact absurd h c
end
theorem same_l0 (b : Bool) (s : List Int) (l : List S25) (hl : l.length ≤ 140737488351232) (hp : ∀ x ∈ l, Conv (fun k => moraineref4_Same.f k x.f0 x.f1 x.f2 x.f0 x.f1 x.f2) true) (j : Nat) :
    ∀ (i : Nat), i + j = l.length → Conv (fun k => moraineref4_Same.l0 k (i : Int) b s l b s l) true := by
  induction j with
  | zero =>
    intro i hi
    refine Conv.succ ?_
    simp only [moraineref4_Same.l0]
    exact Conv.iteF (by omega) (Conv.pure _)
  | succ j ih =>
    intro i hi
    refine Conv.succ ?_
    simp only [moraineref4_Same.l0]
    rw [wrap64_id (n := (i : Int) + 1) (by omega) (by omega)]
    exact Conv.iteT (by omega) (Conv.iteT (by omega) (Conv.iteT (by omega) (Conv.bind (hp _ (rdT_mem (by omega))) (Conv.iteT rfl (ih (i + 1) (by omega))))))
theorem same_refl : ∀ (x : S25) (hx : lenS x), Conv (fun k => moraineref4_Same.f k x.f0 x.f1 x.f2 x.f0 x.f1 x.f2) true
  | ⟨b, s, l⟩, hx => by
    rw [lenS] at hx
    refine Conv.succ ?_
    simp only [moraineref4_Same.f]
    have start : ∀ c : Bool, c = false → Conv (fun k => moraineref4_Same.j0 k c b s l b s l) true := by
      intro c hc
      subst hc
      refine Conv.succ ?_
      simp only [moraineref4_Same.j0]
      exact Conv.iteF (by decide) (same_l0 b s l hx.2.1 (fun y hy => same_refl y (lenL_mem hx.2.2 y hy)) l.length 0 (by omega))
    exact Conv.iteF (by simp) (Conv.iteT trivial (start _ (by simp)))
termination_by x => SizeOf.sizeOf x
decreasing_by
  have := List.sizeOf_lt_of_mem hy
  simp only [S25.mk.sizeOf_spec]
  omega
end Go.Proofs.Ytbobnopnfjcajaa.Base
/- RlpDecodes' pure statement: every bytes are read as the reference says. -/
namespace Go.Proofs.Ytbobnopnfjcajaa.Pure
set_option linter.unusedVariables false
set_option linter.unusedSimpArgs false
open Go Go.RowKit Go.Proofs.Ytbobnopnfjcajaa.P Go.Proofs.YtbobnopnfjcajaaW.PrintWords Go.Proofs.YtbobnopnfjcajaaW.PrintLast Go.Proofs.Ytbobnopnfjcajaa.Base

theorem spoil_any (j : Nat) : ∀ (b : List Int) (i : Nat), i + j = b.length → b.length < 4611686018427387904 → ∃ v, Conv (fun k => morainehelp_Spoil.l0 k b (i : Int)) v := by
  induction j with
  | zero =>
    intro b i hi hl
    refine ⟨b, Conv.succ ?_⟩
    simp only [morainehelp_Spoil.l0]
    exact Conv.iteF (by omega) (Conv.pure _)
  | succ j ih =>
    intro b i hi hl
    obtain ⟨v, hv⟩ := ih (b.set i 238) (i + 1) (by rw [List.length_set]; omega) (by rw [List.length_set]; omega)
    refine ⟨v, Conv.succ ?_⟩
    simp only [morainehelp_Spoil.l0]
    rw [wrap64_id (n := (i : Int) + 1) (by omega) (by omega), Int.toNat_natCast]
    exact Conv.iteT (by omega) (Conv.iteT (by omega) hv)
theorem same_conv (x : S25) (e : Int) (h : e ≠ 0 → x = ⟨false, [], []⟩) (hx : e = 0 → lenS x) : Conv (fun k => morainelaw4_same.f k x.f0 x.f1 x.f2 x.f0 x.f1 x.f2 e) true := by
  unfold morainelaw4_same.f
  by_cases he : e = 0
  · exact Conv.iteT he (Conv.bind (same_refl x (hx he)) (Conv.pure _))
  · refine Conv.iteF he ?_
    rw [h he]
    exact Conv.iteF (by decide) (Conv.iteT rfl (Conv.pure _))
theorem RlpDecodes : morainelaw4_RlpDecodes.Pure := by
  intro l0 _ hlen hwf
  have hb := bytes_of_wf hwf
  refine Conv.ex ?_
  simp only [morainelaw4_RlpDecodes.f, morainelaw4_known.f]
  refine Conv.bindc rfl (Conv.iteT rfl ?_)
  have fin : ∀ (c : Bool) (x : S25) (e : Int), c = false → (e ≠ 0 → x = ⟨false, [], []⟩) → (e = 0 → lenS x) → Conv (fun k => morainelaw4_RlpDecodes.j2 k l0 e c x.f0 x.f1 x.f2 x.f0 x.f1 x.f2) true := by
    intro c x e hc h1 h2
    subst hc
    refine Conv.succ ?_
    simp only [morainelaw4_RlpDecodes.j2]
    obtain ⟨v, hv⟩ := spoil_any l0.length l0 0 (by omega) (by omega)
    exact Conv.iteF (by decide) (Conv.bind (f := fun k => morainehelp_Spoil.f k l0) hv (Conv.bind (same_conv x e h1 h2) (Conv.pure _)))
  have mid : ∀ c : Bool, c = false → Conv (fun k => morainelaw4_RlpDecodes.j1 k l0 l0 c) true := by
    intro c hc
    subst hc
    obtain ⟨x, n, e, hp, hr, hbad, hok⟩ := first_both hb
    have hx : e = 0 → lenS x := fun he => by
      obtain ⟨h1, h2, h3, h4, m, h5⟩ := hok he
      exact lenS_of_size x 0 1 (by rw [h5]) (by rw [h4, List.length_take]; omega)
    refine Conv.succ ?_
    simp only [morainelaw4_RlpDecodes.j1]
    refine Conv.iteF (by decide) (Conv.bind hp (Conv.bind hr (Conv.iteT rfl (Conv.iteT rfl (Conv.bind (same_conv x e (fun h => (hbad h).1) hx) (Conv.iteT rfl (Conv.bindc (a := true) ?_ ?_)))))))
    · unfold morainehelp_Bytes.f
      rw [beq_self_eq_true]
    · exact fin _ x e rfl (fun h => (hbad h).1) hx
  have start : ∀ c : Bool, c = false → Conv (fun k => morainelaw4_RlpDecodes.j0 k l0 c) true := by
    intro c hc
    subst hc
    obtain ⟨x, e, hp, hr, hbad, hok⟩ := decode_both hb
    have hx : e = 0 → lenS x := fun he => by
      obtain ⟨h1, h2, m, h5⟩ := hok he
      exact lenS_of_size x 0 1 (by rw [h5]) (by rw [h2]; omega)
    refine Conv.succ ?_
    simp only [morainelaw4_RlpDecodes.j0]
    refine Conv.iteF (by decide) (Conv.iteT (by simp; omega) (Conv.bindc (a := l0) (by rw [List.nil_append]) (Conv.bind hp (Conv.bind hr (Conv.iteT rfl (Conv.bind (same_conv x e hbad hx) (mid _ rfl)))))))
  refine Conv.ite (fun c => ?_) fun c => start _ rfl
  by_cases h : l0.length ≤ 65536
  · rw [show decide ((l0.length : Int) ≤ 65536) = true from decide_eq_true (by omega)]
    refine Conv.succ ?_
    simp only [morainelaw4_RlpDecodes.j0]
    exact Conv.iteT trivial (Conv.pure _)
  · exact start _ (decide_eq_false (by omega))
end Go.Proofs.Ytbobnopnfjcajaa.Pure
namespace Go.Proofs.Ytbobnopnfjcajaa.rlpDecodes
open Go.ChangeShapes Go.WideShapes Go.ChangeAt Go.RowKit
open Go.ChangeMaps (open_string shut_string)
set_option linter.unusedVariables false
theorem own : ownKnob Try.prog.godebug = none := by kernel_rfl
theorem laidOut : laidOutB Try.prog = true := by kernel_rfl
def IsRow (k : IntKind) (w : World) (a : Option Addr) (len cap : Nat) (zs : List Int) : Prop :=
  (a = none ∧ len = 0 ∧ cap = 0 ∧ zs = []) ∨
  ∃ x, a = some x ∧ len ≤ cap ∧ cap ≤ maxLen ∧ zs.length = cap ∧ (∀ i, i < zs.length → w.cell? (x.add i) = some (.int k (zs.getD i 0))) ∧ ∀ n ∈ zs, (Lit.int k n).wf = true
set_option maxRecDepth 100000 in
theorem lifted (os : Os) (started : os.Started) (H : Type) (enc : TypeId × Value → H) :
    ReturnsInHanded {} Try.checked os 4 .any (Rows.rlpDecodesSpec.pre6 enc Try.prog Try.f4 Rows.rlpDecodesRow.domain false) (Rows.rlpDecodesSpec.post enc Try.prog Try.f4 false true false false) := by
  refine returnsInHanded_of_change_sized (C := Try.checked) own started (by kernel_rfl) Try.func4
    (ChangeSpec.witness6 (enc := enc) (C := Try.checked) false ⟨#[], #[.slice none 0 0], []⟩ 8 (by kernel_rfl) (by kernel_rfl) (by kernel_rfl) (by kernel_rfl)) ?_
  intro W base args ds gs before hval0 hW hcnd hsz0 _
  have hsz : (DataW.weightsEach Try.prog (Try.f4.params.toList ++ Rows.rlpDecodesSpec.plain.varTypes Try.prog) (ds ++ gs)).all (· ≤ reachBytes) = true := hsz0
  have hval : ∀ (j : Nat) t v, Try.f4.params[j]? = some t → args[j]? = some v → Value.okWide Try.prog W .any base t v := hval0
  have hW' := hW
  obtain ⟨p, q, hA0, hV, rfl, hfz, hnd⟩ := hW
  have hA : DataW.TrodAll enc Try.prog W 0 (fun _ => true) true Try.f4.params.toList args.toList ds p := hA0
  rw [Try.params4] at hA hval hsz
  obtain ⟨v0, vs0, d0, ds0, p0, q0, hargs, rfl, rfl, h0, r0⟩ := trodAll_cons hA
  obtain ⟨rfl, rfl, rfl⟩ := trodAll_nil r0
  obtain rfl : args = #[v0] := by cases args; simp_all
  obtain ⟨rfl, rfl⟩ := trodVars_none hV
  obtain ⟨a0, len0, cap0, rfl⟩ := okWide_slice Try.underlying22 (hval 0 22 v0 rfl rfl)
  have k0 := h0
  have lt0 : ∀ x ∈ p0, x.block < W.heap.size := by obtain ⟨m, hm⟩ := k0; exact DataW.trod_lt m _ _ _ hm
  obtain ⟨z0, w0⟩ : ∃ zs, IsRow .u8 W a0 len0 cap0 zs := by
    obtain ⟨fuel, hf⟩ := h0
    rcases open_ints Try.underlying22 Try.underlying5 (by kernel_rfl) hf with ⟨hcs, _⟩ | ⟨x, l, c, zs, hcs, _, hl, hm, hz, _, hcell, hwz⟩
    · simp [Value.cells] at hcs
      obtain ⟨rfl, rfl, rfl⟩ := hcs
      exact ⟨[], .inl ⟨rfl, rfl, rfl, rfl⟩⟩
    · simp [Value.cells] at hcs
      obtain ⟨rfl, rfl, rfl⟩ := hcs
      exact ⟨zs, .inr ⟨_, rfl, hl, hm, by simpa using hz, hcell, hwz⟩⟩
  have y0 : len0 * 1 ≤ 140737488351232 := Go.Proofs.YtbobnopnfjcajaaW.PrintWords.sized_ints hsz (j := 0) (t := 22) rfl rfl Try.underlying22 Try.underlying5 (by kernel_rfl) (by kernel_rfl) h0
  clear hA0 hval0 hsz0 hsz
  refine (P.morainelaw4_RlpDecodes.walk Pure.RlpDecodes a0 len0 cap0 z0 W w0 y0).mono fun e W' ⟨he, bel⟩ => ?_
  subst he
  exact ⟨_, rfl, _, _, _, [], _, [], hW', trodAll_mk1 (shut_bool Try.underlying4 _), (trodAll_cons_mk (Below.trod laidOut (by kernel_rfl) (of_decide_eq_true (by kernel_rfl)) k0 bel lt0) trodAll_mk0), rfl, bel.frame _, fun h => by cases h⟩
theorem over : Rows.rlpDecodesRow.holds Try.pinned (OpenSpec.ofChange Rows.rlpDecodesSpec) :=
  OpenClaim.holds_of_wide 4 Try.f4 rfl rfl rfl rfl rfl rfl rfl ⟨rfl, rfl, rfl, rfl, rfl⟩ rfl rfl rfl rfl rfl (by kernel_rfl) Try.func4 (by kernel_rfl)
    (of_decide_eq_true (by kernel_rfl)) (by unfold Func.isWrapper; first | (rw [if_pos (by decide +kernel)]; kernel_rfl) | (rw [if_neg (by decide +kernel)]; exact ⟨rfl, rfl⟩))
    (fun os started H enc _ => lifted os started H enc)
theorem proved : Rows.RlpDecodesSaid := over
#print axioms proved
end Go.Proofs.Ytbobnopnfjcajaa.rlpDecodes
namespace Go.Proofs.Ytbobnopnfjcajaa
/-- The row, under a short name, for the claim. -/
theorem rlpDecodes_holds : Rows.RlpDecodesSaid := rlpDecodes.proved
end Go.Proofs.Ytbobnopnfjcajaa
