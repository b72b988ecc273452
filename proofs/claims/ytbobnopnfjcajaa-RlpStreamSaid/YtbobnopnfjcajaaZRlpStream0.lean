/- RlpStream: the Go law of that name returns true for every input and leaves its arguments as they were. Conditions: none but the statement's own. -/
import Derived.Test.YtbobnopnfjcajaaPx0
import Derived.Test.YtbobnopnfjcajaaPx5
import Derived.Test.YtbobnopnfjcajaaPx7
import Derived.Test.YtbobnopnfjcajaaPx8
import Derived.Test.YtbobnopnfjcajaaPx9
import Derived.Test.YtbobnopnfjcajaaPx19
import Derived.Test.YtbobnopnfjcajaaPx20
import Derived.Deep.Slices
import Derived.ChangeArms
import Derived.SizedLaws
import Derived.Deep.Strs
import Derived.Test.YtbobnopnfjcajaaPx12
import Derived.Test.YtbobnopnfjcajaaPx17
import Derived.Test.YtbobnopnfjcajaaPx35
import Derived.Test.YtbobnopnfjcajaaRows
import Derived.WalkKit
import Derived.ProofKit
import Derived.OpenShut
import Derived.ShutString
import Derived.ChangeOld
import Derived.Below
/- Plain Lean tools for the pure statements: a function with rounds that comes to a value for all great numbers of rounds, and what the fixed-width operations tell. -/
namespace Go.Proofs.Ytbobnopnfjcajaa.Base
open Go Go.RowKit Go.Proofs.YtbobnopnfjcajaaW.PrintWords Go.Proofs.YtbobnopnfjcajaaW.PrintLast Go.Proofs.YtbobnopnfjcajaaW.PrintMore

/-- from some number of rounds on, the function tells this value -/
def Conv {α : Type} (f : Nat → Option α) (v : α) : Prop := ∃ K, ∀ k, K ≤ k → f k = some v

theorem Conv.pure {α : Type} (v : α) : Conv (fun _ => some v) v := ⟨0, fun _ _ => rfl⟩
theorem Conv.const {α : Type} {x : Option α} {v : α} (h : x = some v) : Conv (fun _ => x) v := ⟨0, fun _ _ => h⟩
theorem Conv.succ {α : Type} {f : Nat → Option α} {v : α} (h : Conv (fun k => f (k + 1)) v) : Conv f v := by
  obtain ⟨K, h⟩ := h
  refine ⟨K + 1, fun k hk => ?_⟩
  obtain ⟨j, rfl⟩ : ∃ j, k = j + 1 := ⟨k - 1, by omega⟩
  exact h j (by omega)
theorem Conv.bind {α β : Type} {f : Nat → Option α} {g : Nat → α → Option β} {a : α} {v : β} (hf : Conv f a) (hg : Conv (fun k => g k a) v) : Conv (fun k => (f k).bind (g k)) v := by
  obtain ⟨K, hf⟩ := hf
  obtain ⟨L, hg⟩ := hg
  refine ⟨max K L, fun k hk => ?_⟩
  show (f k).bind (g k) = some v
  rw [hf k (by omega)]
  exact hg k (by omega)
theorem Conv.bindc {α β : Type} {x : Option α} {g : Nat → α → Option β} {a : α} {v : β} (hf : x = some a) (hg : Conv (fun k => g k a) v) : Conv (fun k => x.bind (g k)) v := by
  subst hf; exact hg
theorem Conv.iteT {α : Type} {c : Prop} [Decidable c] {f g : Nat → Option α} {v : α} (hc : c) (h : Conv f v) : Conv (fun k => if c then f k else g k) v := by
  simpa only [if_pos hc] using h
theorem Conv.iteF {α : Type} {c : Prop} [Decidable c] {f g : Nat → Option α} {v : α} (hc : ¬ c) (h : Conv g v) : Conv (fun k => if c then f k else g k) v := by
  simpa only [if_neg hc] using h
theorem Conv.ite {α : Type} {c : Prop} [Decidable c] {f g : Nat → Option α} {v : α} (h1 : c → Conv f v) (h2 : ¬ c → Conv g v) : Conv (fun k => if c then f k else g k) v := by
  by_cases hc : c
  · exact Conv.iteT hc (h1 hc)
  · exact Conv.iteF hc (h2 hc)
theorem Conv.ex {α : Type} {f : Nat → Option α} {v : α} (h : Conv f v) : ∃ k, f k = some v := by
  obtain ⟨K, h⟩ := h; exact ⟨K, h K (Nat.le_refl _)⟩
theorem Conv.of_eq {α : Type} {f g : Nat → Option α} {v : α} (e : ∀ k, f k = g k) (h : Conv g v) : Conv f v := by
  obtain ⟨K, h⟩ := h; exact ⟨K, fun k hk => by rw [e k]; exact h k hk⟩
theorem Conv.eq {α : Type} {f : Nat → Option α} {v u : α} (h : Conv f v) (e : v = u) : Conv f u := e ▸ h

theorem wrap64_id {n : Int} (h : -9223372036854775808 ≤ n) (h' : n < 9223372036854775808) : wrap64 n = n := by unfold wrap64; omega
theorem wrapU64 (n : Int) : IntKind.u64.wrap n = n % 18446744073709551616 := by simp [IntKind.wrap, IntKind.bits, IntKind.signed]
theorem wrapU64_id {n : Int} (h : 0 ≤ n) (h' : n < 18446744073709551616) : IntKind.u64.wrap n = n := by rw [wrapU64]; omega
theorem wrapU32 (n : Int) : IntKind.u32.wrap n = n % 4294967296 := by simp [IntKind.wrap, IntKind.bits, IntKind.signed]
theorem wrapU8 (n : Int) : IntKind.u8.wrap n = n % 256 := by simp [IntKind.wrap, IntKind.bits, IntKind.signed]
theorem wf_u8 {x : Int} (h : (Lit.int .u8 x).wf = true) : 0 ≤ x ∧ x < 256 := by
  simp [Lit.wf, IntKind.min, IntKind.max, IntKind.bits, IntKind.signed] at h; omega
theorem wf_u64 {x : Int} (h : (Lit.int .u64 x).wf = true) : 0 ≤ x ∧ x < 18446744073709551616 := by
  simp [Lit.wf, IntKind.min, IntKind.max, IntKind.bits, IntKind.signed] at h; omega
theorem wf_i64 {x : Int} (h : (Lit.int .i64 x).wf = true) : -9223372036854775808 ≤ x ∧ x < 9223372036854775808 := by
  simp [Lit.wf, IntKind.min, IntKind.max, IntKind.bits, IntKind.signed] at h; omega

/-- all are bytes -/
def Bytes (l : List Int) : Prop := ∀ x ∈ l, 0 ≤ x ∧ x < 256
theorem bytes_of_wf {l : List Int} (h : ∀ x ∈ l, (Lit.int .u8 x).wf = true) : Bytes l := fun x hx => wf_u8 (h x hx)
theorem Bytes.append {a b : List Int} (ha : Bytes a) (hb : Bytes b) : Bytes (a ++ b) := fun x hx => by
  rcases List.mem_append.mp hx with h | h
  · exact ha x h
  · exact hb x h
theorem Bytes.take {a : List Int} (ha : Bytes a) (n : Nat) : Bytes (a.take n) := fun x hx => ha x (List.mem_of_mem_take hx)
theorem Bytes.drop {a : List Int} (ha : Bytes a) (n : Nat) : Bytes (a.drop n) := fun x hx => ha x (List.mem_of_mem_drop hx)
theorem rd_get {l : List Int} {i : Nat} (h : i < l.length) : rd l (i : Int) = l[i] := by
  simp [rd, List.getD_eq_getElem?_getD, h]
theorem rd_bytes {l : List Int} (hl : Bytes l) (i : Int) : 0 ≤ rd l i ∧ rd l i < 256 := by
  by_cases h : i.toNat < l.length
  · have : rd l i = l[i.toNat] := by simp [rd, List.getD_eq_getElem?_getD, h]
    rw [this]; exact hl _ (List.getElem_mem h)
  · have : rd l i = 0 := by simp [rd, List.getD_eq_getElem?_getD, Nat.le_of_not_lt h]
    rw [this]; omega
theorem drop_cons {l : List Int} {i : Nat} (h : i < l.length) : l.drop i = rd l (i : Int) :: l.drop (i + 1) := by
  rw [rd_get h, List.drop_eq_getElem_cons h]

/-- the numbers told back as bytes and again as numbers -/
theorem strOfNums_inj {a b : List Int} (ha : Bytes a) (hb : Bytes b) (h : (strOfNums a).toList = (strOfNums b).toList) : a = b := by
  have key : ∀ l : List Int, (strOfNums l).toList = l.map fun n => UInt8.ofNat n.toNat := by intro l; rw [Go.ByteArray.toList_eq, Go.strOfNums_data]
  rw [key, key] at h
  have hlen : a.length = b.length := by simpa using congrArg List.length h
  refine List.ext_getElem hlen fun i h1 h2 => ?_
  have this : (a.map fun n => UInt8.ofNat n.toNat)[i]? = (b.map fun n => UInt8.ofNat n.toNat)[i]? := by rw [h]
  simp only [List.getElem?_map, List.getElem?_eq_getElem h1, List.getElem?_eq_getElem h2, Option.map_some, Option.some.injEq] at this
  have p := ha _ (List.getElem_mem h1)
  have q := hb _ (List.getElem_mem h2)
  have e : a[i].toNat % 2 ^ 8 = b[i].toNat % 2 ^ 8 := by
    have := congrArg UInt8.toNat this
    rwa [UInt8.toNat_ofNat', UInt8.toNat_ofNat'] at this
  omega
theorem strOfNums_beq {a b : List Int} (ha : Bytes a) (hb : Bytes b) : ((strOfNums a).toList == (strOfNums b).toList) = (a == b) := by
  by_cases h : a = b
  · subst h; simp
  · have : ¬ (strOfNums a).toList = (strOfNums b).toList := fun e => h (strOfNums_inj ha hb e)
    rw [beq_eq_false_iff_ne.mpr h, beq_eq_false_iff_ne.mpr this]

theorem bits_xor32 (x y : Int) : Go.bits .xor .u32 x y = ((BitVec.ofInt 32 x ^^^ BitVec.ofInt 32 y).toNat : Int) := by
  unfold Go.bits
  rw [wrapU32]
  exact Int.emod_eq_of_lt (Int.natCast_nonneg _) (Int.ofNat_lt.mpr (BitVec.isLt _))
theorem bits_and32 (x y : Int) : Go.bits .and .u32 x y = ((BitVec.ofInt 32 x &&& BitVec.ofInt 32 y).toNat : Int) := by
  unfold Go.bits
  rw [wrapU32]
  exact Int.emod_eq_of_lt (Int.natCast_nonneg _) (Int.ofNat_lt.mpr (BitVec.isLt _))
theorem bits_xor8 (x y : Int) : Go.bits .xor .u8 x y = ((BitVec.ofInt 8 x ^^^ BitVec.ofInt 8 y).toNat : Int) := by
  unfold Go.bits
  rw [wrapU8]
  exact Int.emod_eq_of_lt (Int.natCast_nonneg _) (Int.ofNat_lt.mpr (BitVec.isLt _))
theorem ofInt_toNat {w : Nat} (b : BitVec w) : BitVec.ofInt w ((b.toNat : Nat) : Int) = b := by
  simp [BitVec.ofInt_natCast]
end Go.Proofs.Ytbobnopnfjcajaa.Base
/- What is laid down for an item, and how long it is: the program's walks told as plain functions over trees. -/
namespace Go.Proofs.Ytbobnopnfjcajaa.Base
set_option linter.unusedVariables false
set_option linter.unusedSimpArgs false
open Go Go.RowKit Go.Proofs.YtbobnopnfjcajaaW.PrintWords Go.Proofs.YtbobnopnfjcajaaW.PrintLast Go.Proofs.YtbobnopnfjcajaaW.PrintMore Go.Proofs.Ytbobnopnfjcajaa.P

theorem Conv.of_mono {α : Type} {f : Nat → Option α} {v : α} (m : ∀ k, LeO (f k) (f (k + 1))) {K : Nat} (h : f K = some v) : Conv f v := by
  refine ⟨K, fun k hk => ?_⟩
  induction k with
  | zero => rw [show K = 0 by omega] at h; exact h
  | succ k ih =>
    by_cases e : K = k + 1
    · rw [← e]; exact h
    · exact m k _ (ih (by omega))

/-- a number's bytes, the highest first -/
def digS (n : Nat) : List Int := if h : n = 0 then [] else digS (n / 256) ++ [((n % 256 : Nat) : Int)]
termination_by n
decreasing_by omega
theorem digS_zero : digS 0 = [] := by unfold digS; simp
theorem digS_pos {n : Nat} (h : 0 < n) : digS n = digS (n / 256) ++ [((n % 256 : Nat) : Int)] := by
  rw [digS, dif_neg (by omega)]
theorem digS_length (j : Nat) : ∀ n : Nat, n < 256 ^ j → (digS n).length ≤ j := by
  induction j with
  | zero => intro n h; rw [show n = 0 by simp at h; exact h, digS_zero]; simp
  | succ j ih =>
    intro n h
    by_cases h0 : n = 0
    · rw [h0, digS_zero]; simp
    · rw [digS_pos (by omega), List.length_append]
      have := ih (n / 256) (by rw [Nat.div_lt_iff_lt_mul (by decide)]; rw [Nat.pow_succ] at h; exact h)
      simp; omega
theorem digS_bytes (n : Nat) : Bytes (digS n) := by
  induction n using Nat.strongRecOn with
  | ind n ih =>
    by_cases h0 : n = 0
    · rw [h0, digS_zero]; intro x hx; cases hx
    · rw [digS_pos (by omega)]
      refine (ih (n / 256) (by omega)).append fun x hx => ?_
      rw [List.mem_singleton.mp hx]; omega
theorem digits_l0 (n : Nat) : ∀ acc : List Int, acc.length + (digS n).length < 140737488355328 → Conv (fun k => rlp_digits.l0 k (n : Int) acc) (digS n ++ acc) := by
  induction n using Nat.strongRecOn with
  | ind n ih =>
    intro acc hl
    refine Conv.succ ?_
    simp only [rlp_digits.l0]
    by_cases h0 : n = 0
    · subst h0
      rw [digS_zero]
      exact Conv.iteF (by omega) (Conv.pure _)
    · rw [digS_pos (by omega)] at hl ⊢
      simp only [List.length_append, List.length_singleton] at hl
      refine Conv.iteT (by omega) (Conv.bindc rfl (Conv.iteT (by simp; omega) ?_))
      have e1 : (n : Int) / 256 = ((n / 256 : Nat) : Int) := by omega
      have e2 : (n : Int) % 256 = ((n % 256 : Nat) : Int) := by omega
      rw [e1, e2]
      have := ih (n / 256) (by omega) ([((n % 256 : Nat) : Int)] ++ acc) (by simp; omega)
      rwa [← List.append_assoc] at this
theorem digits_conv {n : Nat} (h : n < 18446744073709551616) : Conv (fun k => rlp_digits.f k (n : Int)) (digS n) := by
  have hl := digS_length 8 n (by have : (256 : Nat) ^ 8 = 18446744073709551616 := by decide
                                 rw [this]; exact h)
  have := digits_l0 n [] (by simp; omega)
  rwa [List.append_nil] at this
/-- the head of so many bytes -/
def headS (base n : Nat) : List Int := if n ≤ 55 then [((base + n : Nat) : Int)] else ((base + 55 + (digS n).length : Nat) : Int) :: digS n
theorem headS_length (b c n : Nat) : (headS b n).length = (headS c n).length := by
  unfold headS; split <;> simp
theorem headS_le {b n : Nat} (h : n < 18446744073709551616) : 1 ≤ (headS b n).length ∧ (headS b n).length ≤ 9 := by
  have hl := digS_length 8 n (by have : (256 : Nat) ^ 8 = 18446744073709551616 := by decide
                                 rw [this]; exact h)
  unfold headS
  split <;> simp; omega
theorem headS_bytes {b n : Nat} (hb : b ≤ 192) (h : n < 18446744073709551616) : Bytes (headS b n) := by
  have hl := digS_length 8 n (by have : (256 : Nat) ^ 8 = 18446744073709551616 := by decide
                                 rw [this]; exact h)
  unfold headS
  split
  · intro x hx; rw [List.mem_singleton.mp hx]; omega
  · intro x hx
    rcases List.mem_cons.mp hx with h | h
    · rw [h]; omega
    · exact digS_bytes n x h
theorem head_conv {b n : Nat} (hb : b ≤ 192) (h : n < 9223372036854775000) : Conv (fun k => rlp_head.f k (n : Int) (b : Int)) (headS b n) := by
  have hl := digS_length 8 n (by have : (256 : Nat) ^ 8 = 18446744073709551616 := by decide
                                 rw [this]; omega)
  unfold rlp_head.f headS
  by_cases hn : n ≤ 55
  · rw [if_pos hn]
    refine Conv.iteT (by omega) (Conv.eq (Conv.pure _) ?_)
    rw [wrap64_id (by omega) (by omega)]
    congr 1
    omega
  · rw [if_neg hn]
    refine Conv.iteF (by omega) ?_
    rw [wrapU64_id (by omega) (by omega)]
    refine Conv.bind (digits_conv (by omega)) (Conv.bindc rfl (Conv.iteT (by simp; omega) (Conv.eq (Conv.pure _) ?_)))
    rw [wrap64_id (n := (b : Int) + 55) (by omega) (by omega), wrap64_id (by omega) (by omega)]
    simp only [List.cons_append, List.nil_append]
    congr 1
    omega
def ownS (l : List Int) : Bool := decide (l.length = 1 ∧ rd l 0 < 128)
theorem own_eq (l : List Int) : rlp_own.f l = some (ownS l) := by
  unfold rlp_own.f ownS
  by_cases h : l.length = 1
  · rw [if_pos (by omega), if_pos (by omega)]
    congr 1
    simp [h]
  · rw [if_neg (by omega)]
    congr 1
    simp [h]
mutual
/-- an item's bytes -/
def encS : S25 → List Int
  | ⟨b, s, l⟩ => if b = true then headS 192 (encL l).length ++ encL l else if ownS s = true then s else headS 128 s.length ++ s
def encL : List S25 → List Int
  | [] => []
  | x :: l => encS x ++ encL l
end
theorem encL_append (a b : List S25) : encL (a ++ b) = encL a ++ encL b := by
  induction a with
  | nil => rfl
  | cons x a ih => simp [encL, ih]
theorem encL_mem {x : S25} {l : List S25} (h : x ∈ l) : (encS x).length ≤ (encL l).length := by
  induction l with
  | nil => cases h
  | cons y l ih =>
    simp only [encL, List.length_append]
    rcases List.mem_cons.mp h with h | h
    · rw [h]; omega
    · have := ih h; omega
theorem rdT_get {l : List S25} {i : Nat} (h : i < l.length) : rd_T25 l (i : Int) = l[i] := by
  simp [rd_T25, List.getD_eq_getElem?_getD, h]
theorem rdT_mem {l : List S25} {i : Nat} (h : i < l.length) : rd_T25 l (i : Int) ∈ l := by
  rw [rdT_get h]; exact List.getElem_mem h
theorem dropT {l : List S25} {i : Nat} (h : i < l.length) : l.drop i = rd_T25 l (i : Int) :: l.drop (i + 1) := by
  rw [rdT_get h, List.drop_eq_getElem_cons h]
theorem put_l0 (l : List S25) (hl : l.length < 140737488355328) (hp : ∀ x ∈ l, Conv (fun k => rlp_put.f k x.f0 x.f1 x.f2) (encS x)) (j : Nat) :
    ∀ (i : Nat) (acc : List Int), i + j = l.length → acc.length + (encL (l.drop i)).length < 140737488000000 →
      Conv (fun k => rlp_put.l0 k acc l (l.length : Int) (i : Int)) (headS 192 (acc ++ encL (l.drop i)).length ++ (acc ++ encL (l.drop i))) := by
  induction j with
  | zero =>
    intro i acc hi hb
    refine Conv.succ ?_
    simp only [rlp_put.l0]
    rw [List.drop_eq_nil_of_le (by omega)] at hb ⊢
    simp only [encL, List.append_nil] at hb ⊢
    have := headS_le (b := 192) (n := acc.length) (by omega)
    exact Conv.iteF (by omega) (Conv.bind (head_conv (b := 192) (by omega) (by omega)) (Conv.iteT (by omega) (Conv.pure _)))
  | succ j ih =>
    intro i acc hi hb
    refine Conv.succ ?_
    simp only [rlp_put.l0]
    rw [dropT (l := l) (i := i) (by omega)] at hb ⊢
    simp only [encL, List.length_append] at hb
    refine Conv.iteT (by omega) (Conv.iteT (by omega) (Conv.iteT (by omega) (Conv.bind (hp _ (rdT_mem (by omega))) (Conv.iteT (by omega) ?_))))
    rw [wrap64_id (by omega) (by omega)]
    have := ih (i + 1) (acc ++ encS (rd_T25 l (i : Int))) (by omega) (by rw [List.length_append]; omega)
    rw [show acc ++ encL (rd_T25 l (i : Int) :: l.drop (i + 1)) = acc ++ encS (rd_T25 l (i : Int)) ++ encL (l.drop (i + 1)) by simp only [encL, List.append_assoc]]
    exact this
theorem put_conv (hw : ∀ l : List S25, l.length ≤ (encL l).length) : ∀ (x : S25) (hx : (encS x).length < 140737488000000), Conv (fun k => rlp_put.f k x.f0 x.f1 x.f2) (encS x)
  | ⟨b, s, l⟩, hx => by
    refine Conv.succ ?_
    simp only [rlp_put.f]
    rw [encS] at hx ⊢
    by_cases hb : b = true
    · rw [if_pos hb] at hx
      simp only [List.length_append] at hx
      refine Conv.iteT hb (Conv.eq ?_ (if_pos hb).symm)
      have hll := hw l
      have := put_l0 l (by omega) (fun y hy => put_conv hw y (by have := encL_mem hy; omega)) l.length 0 [] (by omega) (by simp; omega)
      simpa using this
    · rw [if_neg hb] at hx
      refine Conv.iteF hb (Conv.eq ?_ (if_neg hb).symm)
      refine Conv.bindc (own_eq s) ?_
      by_cases ho : ownS s = true
      · rw [if_pos ho] at hx
        refine Conv.iteT ho (Conv.eq ?_ (if_pos ho).symm)
        exact Conv.bindc (a := s) (by unfold bytes_Clone.f; rw [if_pos (by omega)]) (Conv.pure _)
      · rw [if_neg ho] at hx
        simp only [List.length_append] at hx
        refine Conv.iteF ho (Conv.eq ?_ (if_neg ho).symm)
        exact Conv.bind (head_conv (b := 128) (by omega) (by omega)) (Conv.iteT (by omega) (Conv.pure _))
termination_by x => SizeOf.sizeOf x
decreasing_by
  have := List.sizeOf_lt_of_mem hy
  simp only [S25.mk.sizeOf_spec]
  omega
theorem encS_pos (x : S25) : 1 ≤ (encS x).length := by
  obtain ⟨b, s, l⟩ := x
  rw [encS]
  split
  · have : 1 ≤ (headS 192 (encL l).length).length := by unfold headS; split <;> simp
    rw [List.length_append]; omega
  · split
    · rename_i h
      unfold ownS at h
      have := (of_decide_eq_true h).1
      omega
    · have : 1 ≤ (headS 128 s.length).length := by unfold headS; split <;> simp
      rw [List.length_append]; omega
theorem encL_len (l : List S25) : l.length ≤ (encL l).length := by
  induction l with
  | nil => simp
  | cons x l ih =>
    have := encS_pos x
    simp only [encL, List.length_append, List.length_cons]; omega
theorem put_conv' {x : S25} (hx : (encS x).length < 140737488000000) : Conv (fun k => rlp_put.f k x.f0 x.f1 x.f2) (encS x) := put_conv encL_len x hx

mutual
/-- how long an item's bytes are, or what is wrong; how many items were met -/
def sizeS : S25 → Int → Int → Int × Int × Int
  | ⟨b, s, l⟩, n, d => if d > 16 ∨ n = 4096 then (0, 43, n) else if (b = true ∧ 0 < s.length) ∨ (b = false ∧ 0 < l.length) then (0, 40, n + 1)
    else if ownS s = true then (1, 0, n + 1) else sizeL l (n + 1) (d + 1) (s.length : Int)
def sizeL : List S25 → Int → Int → Int → Int × Int × Int
  | [], n, _, acc => (acc + ((headS 0 acc.toNat).length : Int), 0, n)
  | x :: l, n, d, acc => if (sizeS x n d).2.1 = 0 then sizeL l (sizeS x n d).2.2 d (acc + (sizeS x n d).1) else (0, (sizeS x n d).2.1, (sizeS x n d).2.2)
end
mutual
/-- a bound on an item's length -/
def totS : S25 → Nat
  | ⟨_, s, l⟩ => 9 + s.length + totL l
def totL : List S25 → Nat
  | [] => 0
  | x :: l => totS x + totL l
end
theorem totL_mem {x : S25} {l : List S25} (h : x ∈ l) : totS x ≤ totL l := by
  induction l with
  | nil => cases h
  | cons y l ih =>
    simp only [totL]
    rcases List.mem_cons.mp h with h | h
    · rw [h]; omega
    · have := ih h; omega
theorem totL_len (l : List S25) : l.length ≤ totL l := by
  induction l with
  | nil => simp
  | cons x l ih =>
    have : 9 ≤ totS x := by obtain ⟨b, s, l⟩ := x; rw [totS]; omega
    simp only [totL, List.length_cons]; omega
mutual
theorem sizeS_range : ∀ (x : S25) (n d : Int) (hn : 0 ≤ n ∧ n ≤ 4096) (ht : totS x < 4611686018427387904), 0 ≤ (sizeS x n d).1 ∧ (sizeS x n d).1 ≤ totS x ∧ 0 ≤ (sizeS x n d).2.2 ∧ (sizeS x n d).2.2 ≤ 4096
  | ⟨b, s, l⟩, n, d, hn, ht => by
    rw [totS] at ht
    rw [sizeS, totS]
    split
    · simp; omega
    · rename_i h1
      split
      · simp; omega
      · split
        · simp; omega
        · have := sizeL_range l (n + 1) (d + 1) (s.length : Int) (by omega) (by omega) (by omega)
          omega
theorem sizeL_range : ∀ (l : List S25) (n d acc : Int) (hn : 0 ≤ n ∧ n ≤ 4096) (ha : 0 ≤ acc) (ht : acc + totL l + 9 < 4611686018427387904 + 9), 0 ≤ (sizeL l n d acc).1 ∧ (sizeL l n d acc).1 ≤ acc + totL l + 9 ∧ 0 ≤ (sizeL l n d acc).2.2 ∧ (sizeL l n d acc).2.2 ≤ 4096
  | [], n, d, acc, hn, ha, ht => by
    rw [sizeL, totL]
    have := headS_le (b := 0) (n := acc.toNat) (by simp [totL] at ht; omega)
    simp only
    omega
  | x :: l, n, d, acc, hn, ha, ht => by
    rw [totL] at ht
    have h1 := sizeS_range x n d hn (by omega)
    rw [sizeL, totL]
    split
    · have := sizeL_range l (sizeS x n d).2.2 d (acc + (sizeS x n d).1) (by omega) (by omega) (by omega)
      omega
    · simp only; omega
end
theorem size_l0 (l : List S25) (hl : l.length < 4611686018427387904) (d : Int) (hd : -1 ≤ d ∧ d ≤ 17) (hp : ∀ x ∈ l, ∀ n : Int, 0 ≤ n ∧ n ≤ 4096 → Conv (fun k => rlp_walker_size.f k n x.f0 x.f1 x.f2 (d + 1)) (sizeS x n (d + 1))) (j : Nat) :
    ∀ (i : Nat) (n acc : Int), i + j = l.length → 0 ≤ n ∧ n ≤ 4096 → 0 ≤ acc → acc + totL (l.drop i) < 4611686018427387904 →
      Conv (fun k => rlp_walker_size.l0 k d acc l (l.length : Int) (i : Int) n) (sizeL (l.drop i) n (d + 1) acc) := by
  induction j with
  | zero =>
    intro i n acc hi hn ha hb
    refine Conv.succ ?_
    simp only [rlp_walker_size.l0]
    rw [List.drop_eq_nil_of_le (by omega)] at hb ⊢
    rw [totL] at hb
    rw [sizeL]
    have hh := headS_le (b := 0) (n := acc.toNat) (by omega)
    have hc := head_conv (b := 0) (n := acc.toNat) (by omega) (by omega)
    rw [Int.toNat_of_nonneg ha] at hc
    refine Conv.iteF (by omega) (Conv.bind hc (Conv.eq (Conv.pure _) ?_))
    rw [wrap64_id (by omega) (by omega)]
  | succ j ih =>
    intro i n acc hi hn ha hb
    refine Conv.succ ?_
    simp only [rlp_walker_size.l0]
    rw [dropT (l := l) (i := i) (by omega)] at hb ⊢
    rw [totL] at hb
    rw [sizeL]
    have hr := sizeS_range (rd_T25 l (i : Int)) n (d + 1) hn (by omega)
    rw [wrap64_id (n := d + 1) (by omega) (by omega)]
    refine Conv.iteT (by omega) (Conv.iteT (by omega) (Conv.iteT (by omega) (Conv.bind (hp _ (rdT_mem (by omega)) n hn) ?_)))
    refine Conv.ite (fun c => ?_) fun c => ?_
    · rw [if_pos c, wrap64_id (n := acc + _) (by omega) (by omega), wrap64_id (n := (i : Int) + 1) (by omega) (by omega)]
      exact ih (i + 1) _ _ (by omega) (by omega) (by omega) (by omega)
    · rw [if_neg c]; exact Conv.pure _
theorem size_conv : ∀ (x : S25) (n d : Int) (hn : 0 ≤ n ∧ n ≤ 4096) (hd : 0 ≤ d ∧ d ≤ 17) (ht : totS x < 4611686018427387904), Conv (fun k => rlp_walker_size.f k n x.f0 x.f1 x.f2 d) (sizeS x n d)
  | ⟨b, s, l⟩, n, d, hn, hd, ht => by
    rw [totS] at ht
    rw [sizeS]
    refine Conv.succ ?_
    simp only [rlp_walker_size.f]
    by_cases h1 : d > 16 ∨ n = 4096
    · rw [if_pos h1]
      refine Conv.bindc (a := (43, n)) (by unfold rlp_walker_meets.f; by_cases h : d > 16 <;> simp [h]; omega) ?_
      exact Conv.iteF (show ¬ (43 : Int) = 0 by decide) (Conv.pure _)
    · rw [if_neg h1]
      refine Conv.bindc (a := (0, n + 1)) (by unfold rlp_walker_meets.f; rw [if_neg (by omega), if_neg (by omega), wrap64_id (by omega) (by omega)]) ?_
      refine Conv.iteT rfl ?_
      have rest : ∀ c : Bool, c = false → ¬ ((b = true ∧ 0 < s.length) ∨ (b = false ∧ 0 < l.length)) → Conv (fun k => rlp_walker_size.j1 k d c (n + 1) b s l) (if ownS s = true then (1, 0, n + 1) else sizeL l (n + 1) (d + 1) (s.length : Int)) := by
        intro c hc hq
        subst hc
        refine Conv.succ ?_
        simp only [rlp_walker_size.j1]
        refine Conv.iteF (by decide) (Conv.bindc (own_eq s) ?_)
        refine Conv.ite (fun c => ?_) fun c => ?_
        · rw [if_pos c]; exact Conv.pure _
        · rw [if_neg c]
          have hll := totL_len l
          have hd1 := h1
          have := size_l0 l (by omega) d (by omega) (fun y hy m hm => size_conv y m (d + 1) hm (by omega) (by have := totL_mem hy; omega)) l.length 0 (n + 1) (s.length : Int) (by omega) (by omega) (by omega) (by rw [List.drop_zero]; omega)
          simpa using this
      have bad : ∀ c : Bool, c = true → Conv (fun k => rlp_walker_size.j1 k d c (n + 1) b s l) (0, 40, n + 1) := by
        intro c hc
        subst hc
        refine Conv.succ ?_
        simp only [rlp_walker_size.j1]
        exact Conv.iteT (by trivial) (Conv.pure _)
      by_cases hb : b = true
      · refine Conv.iteT hb ?_
        refine Conv.succ ?_
        simp only [rlp_walker_size.j0]
        by_cases h2 : 0 < s.length
        · rw [if_pos (.inl ⟨hb, h2⟩)]
          exact Conv.iteT (by simp; omega) (bad _ (by simp; omega))
        · have hq : ¬ ((b = true ∧ 0 < s.length) ∨ (b = false ∧ 0 < l.length)) := fun h => h.elim (fun h => h2 h.2) (fun h => by rw [hb] at h; exact absurd h.1 (by decide))
          rw [if_neg hq]
          exact Conv.iteF (by simpa using h2) (Conv.iteT hb (rest _ rfl hq))
      · have hbf : b = false := by cases b <;> simp_all
        refine Conv.iteF hb ?_
        refine Conv.succ ?_
        simp only [rlp_walker_size.j0]
        refine Conv.iteF (by decide) (Conv.iteF hb ?_)
        by_cases h2 : 0 < l.length
        · rw [if_pos (.inr ⟨hbf, h2⟩)]
          exact bad _ (by simp; omega)
        · have hq : ¬ ((b = true ∧ 0 < s.length) ∨ (b = false ∧ 0 < l.length)) := fun h => h.elim (fun h => hb h.1) (fun h => h2 h.2)
          rw [if_neg hq]
          exact rest _ (decide_eq_false (by omega)) hq
termination_by x => SizeOf.sizeOf x
decreasing_by
  have := List.sizeOf_lt_of_mem hy
  simp only [S25.mk.sizeOf_spec]
  omega
mutual
theorem sizeS_enc : ∀ (x : S25) (n d : Int) (h : (sizeS x n d).2.1 = 0), (sizeS x n d).1 = ((encS x).length : Int)
  | ⟨b, s, l⟩, n, d, h => by
    rw [sizeS] at h ⊢
    rw [encS]
    split at h
    · simp at h
    · rename_i h1
      rw [if_neg h1]
      split at h
      · simp at h
      · rename_i h2
        rw [if_neg h2]
        split at h
        · rename_i h3
          rw [if_pos h3]
          have h4 := (of_decide_eq_true h3).1
          have hb : ¬ b = true := fun hb => h2 (.inl ⟨hb, by omega⟩)
          rw [if_neg hb, if_pos h3, h4]
          rfl
        · rename_i h3
          rw [if_neg h3]
          have := sizeL_enc l (n + 1) (d + 1) (s.length : Int) (by omega) h
          rw [this]
          by_cases hb : b = true
          · have hs : s.length = 0 := by
              by_cases e : 0 < s.length
              · exact absurd (.inl ⟨hb, e⟩) h2
              · omega
            rw [if_pos hb, List.length_append, headS_length 192 0, hs]
            simp; omega
          · have hl : l = [] := by
              have : ¬ 0 < l.length := fun e => h2 (.inr ⟨by cases b <;> simp_all, e⟩)
              exact List.eq_nil_of_length_eq_zero (by omega)
            subst hl
            rw [if_neg hb, if_neg h3, List.length_append, headS_length 128 0]
            simp [encL]; omega
theorem sizeL_enc : ∀ (l : List S25) (n d acc : Int) (ha : 0 ≤ acc) (h : (sizeL l n d acc).2.1 = 0), (sizeL l n d acc).1 = acc + ((encL l).length : Int) + ((headS 0 (acc + ((encL l).length : Int)).toNat).length : Int)
  | [], n, d, acc, ha, h => by rw [sizeL]; simp [encL]
  | x :: l, n, d, acc, ha, h => by
    rw [sizeL] at h ⊢
    split at h
    · rename_i h1
      rw [if_pos h1]
      have e1 := sizeS_enc x n d h1
      have e2 := sizeL_enc l (sizeS x n d).2.2 d (acc + (sizeS x n d).1) (by omega) h
      rw [e2, e1]
      simp only [encL, List.length_append]
      have e3 : acc + ((encS x).length : Int) + ((encL l).length : Int) = acc + (((encS x).length + (encL l).length : Nat) : Int) := by omega
      rw [e3]
    · rename_i h1
      exact absurd h h1
end
/-- Encode, told -/
def encode (x : S25) : List Int × Int := if (sizeS x 0 1).2.1 ≠ 0 then ([], (sizeS x 0 1).2.1) else if 65536 < (encS x).length then ([], 44) else (encS x, 0)
theorem encode_conv (x : S25) (ht : totS x < 4611686018427387904) : Conv (fun k => rlp_Encode.f k x.f0 x.f1 x.f2) (encode x) := by
  unfold rlp_Encode.f encode
  refine Conv.bind (size_conv x 0 1 (by omega) (by omega) ht) ?_
  refine Conv.ite (fun c => ?_) fun c => ?_
  · have e := sizeS_enc x 0 1 c
    rw [if_neg (by simpa using c), e]
    refine Conv.ite (fun c2 => ?_) fun c2 => ?_
    · rw [if_pos (by omega)]; exact Conv.pure _
    · rw [if_neg (by omega)]
      exact Conv.bind (put_conv' (by omega)) (Conv.pure _)
  · rw [if_pos c]; exact Conv.pure _
end Go.Proofs.Ytbobnopnfjcajaa.Base
/- What a head says: the program's words and the reference's, told as one plain function. -/
namespace Go.Proofs.Ytbobnopnfjcajaa.Base
set_option linter.unusedVariables false
set_option linter.unusedSimpArgs false
open Go Go.RowKit Go.Proofs.YtbobnopnfjcajaaW.PrintWords Go.Proofs.YtbobnopnfjcajaaW.PrintLast Go.Proofs.YtbobnopnfjcajaaW.PrintMore Go.Proofs.Ytbobnopnfjcajaa.P

theorem or_low {y x : Int} (hx : 0 ≤ x ∧ x < 256) (hy : 0 ≤ y ∧ y * 256 < 18446744073709551616) : Go.bits .or .u64 (y * 256) x = 256 * y + x := by
  obtain ⟨a, rfl⟩ := Int.eq_ofNat_of_zero_le hx.1
  obtain ⟨b, rfl⟩ := Int.eq_ofNat_of_zero_le hy.1
  have h1 : a < 2 ^ 8 := by omega
  have h2 : b * 2 ^ 8 < 18446744073709551616 := by omega
  rw [show (b : Int) * 256 = ((b * 2 ^ 8 : Nat) : Int) by omega]
  unfold Go.bits
  rw [wrapU64]
  have eo : BitVec.ofInt IntKind.u64.bits ((b * 2 ^ 8 : Nat) : Int) ||| BitVec.ofInt IntKind.u64.bits (a : Int) = BitVec.ofNat 64 (a + b * 2 ^ 8) := by
    apply BitVec.eq_of_toNat_eq
    rw [BitVec.toNat_or, BitVec.ofInt_natCast, BitVec.ofInt_natCast]
    simp only [IntKind.bits, BitVec.toNat_ofNat]
    rw [Nat.mod_eq_of_lt (by omega), Nat.mod_eq_of_lt (by omega)]
    have := Nat.shiftLeft_add_eq_or_of_lt h1 b
    rw [Nat.shiftLeft_eq] at this
    rw [← this, Nat.add_comm (b * _), Nat.mod_eq_of_lt (by omega)]
  have et : (BitVec.ofInt IntKind.u64.bits ((b * 2 ^ 8 : Nat) : Int) ||| BitVec.ofInt IntKind.u64.bits (a : Int)).toNat = a + b * 2 ^ 8 := by
    rw [eo]
    show (BitVec.ofNat 64 (a + b * 2 ^ 8)).toNat = _
    rw [BitVec.toNat_ofNat, Nat.mod_eq_of_lt (by omega)]
  show ((BitVec.ofInt IntKind.u64.bits ((b * 2 ^ 8 : Nat) : Int) ||| BitVec.ofInt IntKind.u64.bits (a : Int)).toNat : Int) % 18446744073709551616 = _
  rw [et]
  omega
/-- the number that bytes are, the highest first -/
def numS : List Int → Int → Int
  | [], n => n
  | x :: l, n => numS l (256 * n + x)
theorem numS_range {L : List Int} (hL : Bytes L) : ∀ n : Int, 0 ≤ n → n * ((256 ^ L.length : Nat) : Int) ≤ numS L n ∧ numS L n < (n + 1) * ((256 ^ L.length : Nat) : Int) := by
  induction L with
  | nil => intro n h; simp only [numS, List.length_nil, Nat.pow_zero]; omega
  | cons x L ih =>
    intro n h
    have hx := hL x List.mem_cons_self
    have := ih (fun y hy => hL y (List.mem_cons_of_mem _ hy)) (256 * n + x) (by omega)
    rw [numS, List.length_cons, Nat.pow_succ]
    have e : ((256 ^ L.length * 256 : Nat) : Int) = 256 * ((256 ^ L.length : Nat) : Int) := by omega
    have hp : (0 : Int) ≤ ((256 ^ L.length : Nat) : Int) := Int.natCast_nonneg _
    generalize ((256 ^ L.length : Nat) : Int) = P at *
    rw [e]
    refine ⟨?_, ?_⟩
    · refine Int.le_trans ?_ this.1
      rw [← Int.mul_assoc]
      refine Int.mul_le_mul_of_nonneg_right (by omega) hp
    · refine Int.lt_of_lt_of_le this.2 ?_
      rw [← Int.mul_assoc]
      refine Int.mul_le_mul_of_nonneg_right (by omega) hp
theorem num_eq {L : List Int} (hL : Bytes L) : ∀ n : Int, 0 ≤ n → (n + 1) * ((256 ^ L.length : Nat) : Int) ≤ 18446744073709551616 → rlp_reads.num L n = numS L n := by
  induction L with
  | nil => intro n h hn; rfl
  | cons x L ih =>
    intro n h hn
    have hx := hL x List.mem_cons_self
    rw [List.length_cons, Nat.pow_succ] at hn
    have e : ((256 ^ L.length * 256 : Nat) : Int) = 256 * ((256 ^ L.length : Nat) : Int) := by omega
    have hp : (1 : Int) ≤ ((256 ^ L.length : Nat) : Int) := by have := Nat.pow_pos (n := L.length) (show 0 < 256 by decide); omega
    rw [e, ← Int.mul_assoc] at hn
    have h2 : (n + 1) * 256 ≤ 18446744073709551616 := by
      refine Int.le_trans ?_ hn
      have := Int.mul_le_mul_of_nonneg_left hp (show (0 : Int) ≤ (n + 1) * 256 by omega)
      omega
    rw [rlp_reads.num, numS, wrapU64_id (n := n * 256) (by omega) (by omega), wrapU64_id (by omega) (by omega), or_low hx ⟨h, by omega⟩]
    refine ih (fun y hy => hL y (List.mem_cons_of_mem _ hy)) _ (by omega) ?_
    refine Int.le_trans (Int.mul_le_mul_of_nonneg_right (by omega) (by omega)) hn
theorem num_eq0 {L : List Int} (hL : Bytes L) (h8 : L.length ≤ 8) : rlp_reads.num L 0 = numS L 0 := by
  refine num_eq hL 0 (by omega) ?_
  have : (256 : Nat) ^ L.length ≤ 256 ^ 8 := Nat.pow_le_pow_right (by decide) h8
  have h2 : (256 : Nat) ^ 8 = 18446744073709551616 := by decide
  omega
theorem numS_snoc (L : List Int) (x : Int) : ∀ n, numS (L ++ [x]) n = 256 * numS L n + x := by
  induction L with
  | nil => intro n; rfl
  | cons y L ih => intro n; exact ih _
theorem numS_digS (n : Nat) : numS (digS n) 0 = (n : Int) := by
  induction n using Nat.strongRecOn with
  | ind n ih =>
    by_cases h0 : n = 0
    · rw [h0, digS_zero]; rfl
    · rw [digS_pos (by omega), numS_snoc, ih (n / 256) (by omega)]; omega
theorem digS_head (n : Nat) : ∀ (h : 0 < (digS n).length), 0 < (digS n)[0] := by
  induction n using Nat.strongRecOn with
  | ind n ih =>
    intro h
    by_cases h0 : n = 0
    · subst h0; rw [digS_zero] at h; simp at h
    · have e := digS_pos (n := n) (by omega)
      simp only [e]
      by_cases h1 : n / 256 = 0
      · simp only [h1, digS_zero, List.nil_append, List.getElem_cons_zero]; omega
      · have h2 : 0 < (digS (n / 256)).length := by rw [digS_pos (by omega)]; simp
        rw [List.getElem_append_left h2]
        exact ih (n / 256) (by omega) h2
/-- bytes with none of them 0 ahead are a number's -/
theorem digS_numS (j : Nat) : ∀ (L : List Int), L.length = j → Bytes L → (L.length = 0 ∨ 0 < rd L 0) → digS (numS L 0).toNat = L := by
  induction j with
  | zero =>
    intro L hl hL h0
    rw [List.eq_nil_of_length_eq_zero hl]
    exact digS_zero
  | succ j ih =>
    intro L hl hL h0
    obtain ⟨M, x, rfl⟩ : ∃ M x, L = M ++ [x] := ⟨L.dropLast, L.getLast (by intro e; rw [e] at hl; simp at hl), (List.dropLast_concat_getLast _).symm⟩
    rw [List.length_append, List.length_singleton] at hl
    have hx := hL x (by simp)
    have hM : Bytes M := fun y hy => hL y (by simp [hy])
    have h0' : M.length = 0 ∨ 0 < rd M 0 := by
      by_cases e : M.length = 0
      · exact .inl e
      · refine .inr ?_
        rcases h0 with h0 | h0
        · simp at h0
        · have e1 := rd_get (l := M) (i := 0) (by omega)
          have e2 := rd_get (l := M ++ [x]) (i := 0) (by simp)
          simp only [Int.natCast_zero] at e1 e2
          rw [e1]
          rw [e2, List.getElem_append_left (by omega)] at h0
          exact h0
    have h1 := ih M (by omega) hM h0'
    have hr := numS_range hM 0 (by omega)
    rw [numS_snoc]
    have hpos : 0 < (256 * numS M 0 + x).toNat := by
      rcases h0' with e | e
      · have := List.eq_nil_of_length_eq_zero e
        subst this
        rcases h0 with h0 | h0
        · simp at h0
        · have : rd ([] ++ [x]) 0 = x := by simp [rd]
          rw [this] at h0
          simp only [numS]; omega
      · by_cases hz : numS M 0 = 0
        · rw [hz] at h1
          simp only [Int.toNat_zero, digS_zero] at h1
          rw [← h1] at e
          simp [rd] at e
        · omega
    rw [digS_pos hpos, show (256 * numS M 0 + x).toNat / 256 = (numS M 0).toNat by omega, show (256 * numS M 0 + x).toNat % 256 = x.toNat by omega, h1, Int.toNat_of_nonneg hx.1]
/-- the reference's number, that goes on no further than it must -/
def refS : List Int → Int → Int
  | [], n => n
  | x :: l, n => refS l (if n ≤ 2147483648 then 256 * n + x else n)
theorem refS_range {L : List Int} (hL : Bytes L) : ∀ n : Int, 0 ≤ n ∧ n ≤ 549755814143 → 0 ≤ refS L n ∧ refS L n ≤ 549755814143 := by
  induction L with
  | nil => intro n h; exact h
  | cons x L ih =>
    intro n h
    have hx := hL x List.mem_cons_self
    refine ih (fun y hy => hL y (List.mem_cons_of_mem _ hy)) _ ?_
    split <;> omega
theorem refS_great {L : List Int} : ∀ n : Int, ¬ n ≤ 2147483648 → refS L n = n := by
  induction L with
  | nil => intro n h; rfl
  | cons x L ih => intro n h; rw [refS, if_neg h]; exact ih n h
theorem numS_le {L : List Int} (hL : Bytes L) (n : Int) (h : 0 ≤ n) : n ≤ numS L n := by
  have := (numS_range hL n h).1
  refine Int.le_trans ?_ this
  have hp : (1 : Int) ≤ ((256 ^ L.length : Nat) : Int) := by have := Nat.pow_pos (n := L.length) (show 0 < 256 by decide); omega
  have := Int.mul_le_mul_of_nonneg_left hp h
  omega
theorem refS_eq {L : List Int} (hL : Bytes L) : ∀ n : Int, 0 ≤ n → (numS L n ≤ 2147483648 → refS L n = numS L n) ∧ (numS L n > 2147483648 → refS L n > 2147483648) := by
  induction L with
  | nil => intro n h; exact ⟨fun _ => rfl, fun h => h⟩
  | cons x L ih =>
    intro n h
    have hx := hL x List.mem_cons_self
    have hL' : Bytes L := fun y hy => hL y (List.mem_cons_of_mem _ hy)
    rw [numS, refS]
    by_cases c : n ≤ 2147483648
    · rw [if_pos c]; exact ih hL' _ (by omega)
    · rw [if_neg c, refS_great n c]
      have := numS_le hL' (256 * n + x) (by omega)
      refine ⟨fun h => ?_, fun _ => ?_⟩ <;> omega
/-- of a head of 128 or more: where what is in it begins, how much that is, the fault -/
def hdS (b : List Int) : Nat × Nat × Int :=
  if (rd b 0).toNat - (if 192 ≤ rd b 0 then 192 else 128) ≤ 55 then (1, (rd b 0).toNat - (if 192 ≤ rd b 0 then 192 else 128), 0)
  else if b.length < 1 + ((rd b 0).toNat - (if 192 ≤ rd b 0 then 192 else 128) - 55) then (0, 0, 41)
  else if rd b 1 = 0 ∨ numS ((b.drop 1).take ((rd b 0).toNat - (if 192 ≤ rd b 0 then 192 else 128) - 55)) 0 ≤ 55 ∨ numS ((b.drop 1).take ((rd b 0).toNat - (if 192 ≤ rd b 0 then 192 else 128) - 55)) 0 > 2147483648 then (0, 0, 40)
  else (1 + ((rd b 0).toNat - (if 192 ≤ rd b 0 then 192 else 128) - 55), (numS ((b.drop 1).take ((rd b 0).toNat - (if 192 ≤ rd b 0 then 192 else 128) - 55)) 0).toNat, 0)
theorem reads_own {b : List Int} (hb : Bytes b) (hl : 0 < b.length) (hc : rd b 0 < 128) : rlp_reads.f b = some (false, 0, 1, true, false, 0) := by
  have := rd_bytes hb 0
  rw [rlp_reads.f, if_pos ⟨hl, this.1, this.2⟩, if_pos hc]
theorem reads_hd {b : List Int} (hb : Bytes b) (hl : 0 < b.length) (hc : ¬ rd b 0 < 128) :
    (hdS b).2.2 = 0 ∧ rlp_reads.f b = some (decide (192 ≤ rd b 0), ((hdS b).1 : Int), ((hdS b).2.1 : Int), false, false, 0) ∨ (hdS b).2.2 ≠ 0 ∧ ∃ x y z, rlp_reads.f b = some (x, y, z, false, false, (hdS b).2.2) := by
  have h0 := rd_bytes hb 0
  have key : ∀ (base : Nat), (base = if 192 ≤ rd b 0 then 192 else 128) → rlp_reads.f b = rlp_reads.long b (decide (192 ≤ rd b 0)) (base : Int) := by
    intro base e
    rw [rlp_reads.f, if_pos ⟨hl, h0.1, h0.2⟩, if_neg hc]
    by_cases h : 192 ≤ rd b 0
    · rw [if_pos h, e, if_pos h, decide_eq_true h]; rfl
    · rw [if_neg h, e, if_neg h, decide_eq_false h]; rfl
  obtain ⟨base, hbase⟩ : ∃ base : Nat, base = if 192 ≤ rd b 0 then 192 else 128 := ⟨_, rfl⟩
  rw [key base hbase]
  unfold hdS rlp_reads.long
  rw [← hbase]
  have hb1 : (base : Int) ≤ rd b 0 ∧ rd b 0 - base ≤ 63 := by split at hbase <;> omega
  by_cases h1 : (rd b 0).toNat - base ≤ 55
  · rw [if_pos h1, if_pos (show rd b 0 - (base : Int) ≤ 55 by omega)]
    refine .inl ⟨rfl, ?_⟩
    simp only [Option.some.injEq, Prod.mk.injEq, true_and, and_true]
    omega
  · rw [if_neg h1, if_neg (show ¬ rd b 0 - (base : Int) ≤ 55 by omega)]
    by_cases h2 : b.length < 1 + ((rd b 0).toNat - base - 55)
    · rw [if_pos h2, if_pos (show (b.length : Int) < 1 + (rd b 0 - (base : Int) - 55) by omega)]
      exact .inr ⟨by decide, _, _, _, rfl⟩
    · rw [if_neg h2, if_neg (show ¬ (b.length : Int) < 1 + (rd b 0 - (base : Int) - 55) by omega), show (rd b 0 - (base : Int) - 55).toNat = (rd b 0).toNat - base - 55 by omega]
      rw [num_eq0 ((hb.drop 1).take _) (by rw [List.length_take, List.length_drop]; omega)]
      by_cases h3 : rd b 1 = 0 ∨ numS ((b.drop 1).take ((rd b 0).toNat - base - 55)) 0 ≤ 55 ∨ numS ((b.drop 1).take ((rd b 0).toNat - base - 55)) 0 > 2147483648
      · rw [if_pos h3, if_pos h3]
        exact .inr ⟨by decide, _, _, _, rfl⟩
      · rw [if_neg h3, if_neg h3]
        refine .inl ⟨rfl, ?_⟩
        simp only [Option.some.injEq, Prod.mk.injEq, true_and, and_true]
        omega
/-- what a head that is right is made of -/
theorem hd_head {b : List Int} (hb : Bytes b) (hl : 0 < b.length) (hc : ¬ rd b 0 < 128) (h : (hdS b).2.2 = 0) :
    1 ≤ (hdS b).1 ∧ (hdS b).1 ≤ b.length ∧ (hdS b).1 ≤ 9 ∧ (hdS b).2.1 ≤ 2147483648 ∧ b.take (hdS b).1 = headS (if 192 ≤ rd b 0 then 192 else 128) (hdS b).2.1 := by
  have h0 := rd_bytes hb 0
  obtain ⟨base, hbase⟩ : ∃ base : Nat, base = if 192 ≤ rd b 0 then 192 else 128 := ⟨_, rfl⟩
  unfold hdS at h ⊢
  rw [← hbase] at h ⊢
  have hb1 : (base : Int) ≤ rd b 0 ∧ rd b 0 - base ≤ 63 := by split at hbase <;> omega
  have hcons : b = rd b 0 :: b.drop 1 := by
    have := drop_cons (l := b) (i := 0) hl
    simpa using this
  by_cases h1 : (rd b 0).toNat - base ≤ 55
  · rw [if_pos h1]
    refine ⟨by simp, by simp; omega, by simp, by simp; omega, ?_⟩
    simp only
    unfold headS
    rw [if_pos h1]
    have : b.take 1 = [rd b 0] := by rw [hcons]; simp [rd]
    rw [this]
    congr 1
    omega
  · rw [if_neg h1] at h ⊢
    by_cases h2 : b.length < 1 + ((rd b 0).toNat - base - 55)
    · rw [if_pos h2] at h; exact absurd h (by decide)
    · rw [if_neg h2] at h ⊢
      by_cases h3 : rd b 1 = 0 ∨ numS ((b.drop 1).take ((rd b 0).toNat - base - 55)) 0 ≤ 55 ∨ numS ((b.drop 1).take ((rd b 0).toNat - base - 55)) 0 > 2147483648
      · rw [if_pos h3] at h; exact absurd h (by decide)
      · rw [if_neg h3] at h ⊢
        refine ⟨by dsimp only; omega, by dsimp only; omega, by dsimp only; omega, by dsimp only; omega, ?_⟩
        simp only
        have hBt := (hb.drop 1).take ((rd b 0).toNat - base - 55)
        have hlt : ((b.drop 1).take ((rd b 0).toNat - base - 55)).length = (rd b 0).toNat - base - 55 := by rw [List.length_take, List.length_drop]; omega
        have hdg := digS_numS _ _ rfl hBt (.inr (by
          have e1 := rd_get (l := b) (i := 1) (by omega)
          have e2 := rd_get (l := (b.drop 1).take ((rd b 0).toNat - base - 55)) (i := 0) (by omega)
          have h4 := rd_bytes hb 1
          simp only [Int.natCast_zero, Int.natCast_one] at e1 e2
          rw [e2]
          simp only [List.getElem_take, List.getElem_drop]
          have e3 : b[1 + 0]'(by omega) = rd b 1 := by rw [e1]
          rw [e3]; omega))
        unfold headS
        rw [if_neg (by omega), hdg, hlt]
        rw [Nat.add_comm 1, hcons]
        simp only [List.take_succ_cons, List.drop_succ_cons, List.drop_zero]
        have e5 : rd (rd b 0 :: b.drop 1) 0 = rd b 0 := by simp [rd]
        congr 1
        omega
/-- and the other way -/
theorem hd_of {base n : Nat} (hbase : base = 192 ∨ base = 128) (hn : n ≤ 2147483648) (more : List Int) :
    ¬ rd (headS base n ++ more) 0 < 128 ∧ decide (192 ≤ rd (headS base n ++ more) 0) = decide (base = 192) ∧ hdS (headS base n ++ more) = ((headS base n).length, n, 0) := by
  have hl8 := digS_length 8 n (by have : (256 : Nat) ^ 8 = 18446744073709551616 := by decide
                                  rw [this]; omega)
  by_cases h1 : n ≤ 55
  · have e : headS base n = [((base + n : Nat) : Int)] := by unfold headS; rw [if_pos h1]
    have er : rd (headS base n ++ more) 0 = ((base + n : Nat) : Int) := by rw [e]; simp [rd]
    have hd : (if 192 ≤ rd (headS base n ++ more) 0 then 192 else 128) = base := by
      rw [er]; split <;> omega
    refine ⟨by rw [er]; omega, by rw [er]; exact decide_eq_decide.mpr (by omega), ?_⟩
    unfold hdS
    rw [hd, er, if_pos (by omega), e]
    simp only [List.length_singleton, Prod.mk.injEq, true_and, and_true]
    omega
  · have e : headS base n = ((base + 55 + (digS n).length : Nat) : Int) :: digS n := by unfold headS; rw [if_neg h1]
    have er : rd (headS base n ++ more) 0 = ((base + 55 + (digS n).length : Nat) : Int) := by rw [e]; simp [rd]
    have hpos : 0 < (digS n).length := by rw [digS_pos (by omega)]; simp
    have hl4 := digS_length 4 n (by have : (256 : Nat) ^ 4 = 4294967296 := by decide
                                    rw [this]; omega)
    have hd : (if 192 ≤ rd (headS base n ++ more) 0 then 192 else 128) = base := by
      rw [er]; split <;> omega
    refine ⟨by rw [er]; omega, by rw [er]; exact decide_eq_decide.mpr (by omega), ?_⟩
    have ek : ((((base + 55 + (digS n).length : Nat) : Int)).toNat - base - 55) = (digS n).length := by omega
    have et : ((headS base n ++ more).drop 1).take (digS n).length = digS n := by rw [e]; simp
    have e1 : 0 < rd (headS base n ++ more) 1 := by
      have h := digS_head n hpos
      have e2 := rd_get (l := headS base n ++ more) (i := 1) (by rw [e]; simp; omega)
      simp only [Int.natCast_one] at e2
      rw [e2]
      simp only [e, List.cons_append, List.getElem_cons_succ]
      rw [List.getElem_append_left hpos]
      exact h
    unfold hdS
    rw [hd, er, ek, et, numS_digS, if_neg (by omega), if_neg (by rw [List.length_append, e, List.length_cons]; omega), if_neg (by omega), e]
    simp only [List.length_cons, Prod.mk.injEq, and_true]
    omega
end Go.Proofs.Ytbobnopnfjcajaa.Base
/- How great an item may be that a law looks at. -/
namespace Go.Proofs.Ytbobnopnfjcajaa.Base
set_option linter.unusedVariables false
set_option linter.unusedSimpArgs false
open Go Go.RowKit Go.Proofs.YtbobnopnfjcajaaW.PrintWords Go.Proofs.YtbobnopnfjcajaaW.PrintLast Go.Proofs.YtbobnopnfjcajaaW.PrintMore Go.Proofs.Ytbobnopnfjcajaa.P

mutual
def cntS : S25 → Int → Int
  | ⟨_, s, l⟩, d => if d = 0 ∧ 0 < l.length then 401 else cntL l (d - 1) (1 + (s.length : Int) / 50)
def cntL : List S25 → Int → Int → Int
  | [], _, n => n
  | x :: l, d, n => if n ≤ 400 then cntL l d (n + cntS x d) else n
end
/-- the lengths that a law's argument may have -/
def lenS : S25 → Prop
  | ⟨_, s, l⟩ => s.length ≤ 140737488351232 ∧ l.length ≤ 140737488351232 ∧ lenL l
where lenL : List S25 → Prop
  | [] => True
  | x :: l => lenS x ∧ lenL l
theorem lenL_mem {l : List S25} (h : lenS.lenL l) : ∀ x ∈ l, lenS x := by
  induction l with
  | nil => intro x hx; cases hx
  | cons y l ih =>
    intro x hx
    rcases List.mem_cons.mp hx with e | e
    · rw [e]; exact h.1
    · exact ih h.2 x e
mutual
theorem cntS_range : ∀ (x : S25) (d : Int) (hd : 0 ≤ d) (hx : lenS x), 1 ≤ cntS x d ∧ cntS x d ≤ 2814749768000 + 400 * (d + 2)
  | ⟨b, s, l⟩, d, hd, hx => by
    rw [lenS] at hx
    rw [cntS]
    split
    · omega
    · rename_i h
      by_cases h0 : d = 0
      · have hl : l = [] := List.eq_nil_of_length_eq_zero (by
          have : ¬ 0 < l.length := fun e => h ⟨h0, e⟩
          omega)
        rw [hl, cntL]; omega
      · have := cntL_range l (d - 1) (1 + (s.length : Int) / 50) (by omega) hx.2.2
        omega
theorem cntL_range : ∀ (l : List S25) (d n : Int) (hd : 0 ≤ d) (hx : lenS.lenL l), n ≤ cntL l d n ∧ (cntL l d n ≤ n ∨ cntL l d n ≤ 400 + 2814749768000 + 400 * (d + 2))
  | [], d, n, hd, hx => by rw [cntL]; omega
  | x :: l, d, n, hd, hx => by
    rw [cntL]
    split
    · have h1 := cntS_range x d hd hx.1
      have h2 := cntL_range l d (n + cntS x d) hd hx.2
      omega
    · omega
end
mutual
theorem cntS_tot : ∀ (x : S25) (d : Int) (hd : 0 ≤ d) (hx : lenS x) (h : cntS x d ≤ 400), (totS x : Int) ≤ 58 * cntS x d
  | ⟨b, s, l⟩, d, hd, hx, h => by
    rw [lenS] at hx
    rw [cntS] at h ⊢
    rw [totS]
    split at h
    · omega
    · rename_i hc
      rw [if_neg hc]
      by_cases h0 : d = 0
      · have hl : l = [] := List.eq_nil_of_length_eq_zero (by
          have : ¬ 0 < l.length := fun e => hc ⟨h0, e⟩
          omega)
        rw [hl, cntL, totL]; omega
      · have := cntL_tot l (d - 1) (1 + (s.length : Int) / 50) (by omega) (by omega) hx.2.2 h
        omega
theorem cntL_tot : ∀ (l : List S25) (d n : Int) (hd : 0 ≤ d) (hn : 1 ≤ n) (hx : lenS.lenL l) (h : cntL l d n ≤ 400), (totL l : Int) ≤ 58 * (cntL l d n - n)
  | [], d, n, hd, hn, hx, h => by rw [cntL, totL]; omega
  | x :: l, d, n, hd, hn, hx, h => by
    rw [cntL] at h ⊢
    rw [totL]
    split at h
    · rename_i hc
      rw [if_pos hc]
      have h1 := cntS_range x d hd hx.1
      have h2 := cntL_range l d (n + cntS x d) hd hx.2
      have h3 := cntL_tot l d (n + cntS x d) hd (by omega) hx.2 h
      have h4 := cntS_tot x d hd hx.1 (by omega)
      omega
    · omega
end
theorem count_l0 (b : Bool) (s : List Int) (l : List S25) (hl : l.length ≤ 140737488351232) (hx : lenS.lenL l) (d : Int) (hd : 1 ≤ d ∧ d ≤ 18) (hp : ∀ x ∈ l, Conv (fun k => morainelaw4_count.f k x.f0 x.f1 x.f2 (d - 1)) (cntS x (d - 1))) (j : Nat) :
    ∀ (i : Nat) (n : Int), i + j = l.length → 1 ≤ n ∧ n ≤ 140737488351232 → Conv (fun k => morainelaw4_count.l0 k d n (i : Int) b s l) (cntL (l.drop i) (d - 1) n) := by
  induction j with
  | zero =>
    intro i n hi hn
    refine Conv.succ ?_
    simp only [morainelaw4_count.l0]
    rw [List.drop_eq_nil_of_le (by omega), cntL]
    exact Conv.iteF (by omega) (Conv.pure _)
  | succ j ih =>
    intro i n hi hn
    refine Conv.succ ?_
    simp only [morainelaw4_count.l0]
    rw [dropT (l := l) (i := i) (by omega), cntL, wrap64_id (n := d - 1) (by omega) (by omega), wrap64_id (n := (i : Int) + 1) (by omega) (by omega)]
    refine Conv.iteT (by omega) (Conv.ite (fun c => ?_) fun c => ?_)
    · have hm := rdT_mem (l := l) (i := i) (by omega)
      have hr := cntS_range (rd_T25 l (i : Int)) (d - 1) (by omega) (lenL_mem hx _ hm)
      rw [if_pos c]
      refine Conv.iteT (by omega) (Conv.bind (hp _ hm) ?_)
      rw [wrap64_id (n := n + _) (by omega) (by omega)]
      exact ih (i + 1) _ (by omega) (by omega)
    · rw [if_neg c]; exact Conv.pure _
theorem count_conv : ∀ (x : S25) (d : Int) (hd : 0 ≤ d ∧ d ≤ 18) (hx : lenS x), Conv (fun k => morainelaw4_count.f k x.f0 x.f1 x.f2 d) (cntS x d)
  | ⟨b, s, l⟩, d, hd, hx => by
    rw [lenS] at hx
    rw [cntS]
    refine Conv.succ ?_
    simp only [morainelaw4_count.f]
    rw [wrap64_id (n := (s.length : Int) / 50) (by omega) (by omega), wrap64_id (n := 1 + (s.length : Int) / 50) (by omega) (by omega)]
    have start : ∀ c : Bool, c = false → (d = 0 → l = []) → Conv (fun k => morainelaw4_count.j0 k d (1 + (s.length : Int) / 50) c b s l) (cntL l (d - 1) (1 + (s.length : Int) / 50)) := by
      intro c hc hz
      subst hc
      refine Conv.succ ?_
      simp only [morainelaw4_count.j0]
      refine Conv.iteF (by decide) ?_
      by_cases h0 : d = 0
      · rw [hz h0, cntL]
        refine Conv.succ ?_
        simp only [morainelaw4_count.l0]
        exact Conv.iteF (by simp) (Conv.pure _)
      · have := count_l0 b s l hx.2.1 hx.2.2 d (by omega) (fun y hy => count_conv y (d - 1) (by omega) (lenL_mem hx.2.2 y hy)) l.length 0 (1 + (s.length : Int) / 50) (by omega) (by omega)
        simpa using this
    by_cases h0 : d = 0
    · refine Conv.iteT h0 ?_
      by_cases h1 : 0 < l.length
      · rw [if_pos ⟨h0, h1⟩, show decide ((l.length : Int) > 0) = true from decide_eq_true (by omega)]
        refine Conv.succ ?_
        simp only [morainelaw4_count.j0]
        exact Conv.iteT (by trivial) (Conv.pure _)
      · rw [if_neg (fun h => h1 h.2)]
        exact start _ (decide_eq_false (by omega)) (fun _ => List.eq_nil_of_length_eq_zero (by omega))
    · rw [if_neg (fun h => h0 h.1)]
      exact Conv.iteF h0 (start _ rfl (fun h => absurd h h0))
termination_by x => SizeOf.sizeOf x
decreasing_by
  have := List.sizeOf_lt_of_mem hy
  simp only [S25.mk.sizeOf_spec]
  omega
theorem few_conv (x : S25) (hx : lenS x) : Conv (fun k => morainelaw4_few.f k x.f0 x.f1 x.f2) (decide (cntS x 18 ≤ 400)) := by
  unfold morainelaw4_few.f
  exact Conv.bind (count_conv x 18 (by omega) hx) (Conv.pure _)
mutual
theorem enc_tot : ∀ (x : S25) (ht : totS x < 4611686018427387904), (encS x).length ≤ totS x
  | ⟨b, s, l⟩, ht => by
    rw [totS] at ht
    have h1 := encL_tot l (by omega)
    rw [encS, totS]
    by_cases hb : b = true
    · rw [if_pos hb, List.length_append]
      have := headS_le (b := 192) (n := (encL l).length) (by omega)
      omega
    · rw [if_neg hb]
      split
      · omega
      · rw [List.length_append]
        have := headS_le (b := 128) (n := s.length) (by omega)
        omega
theorem encL_tot : ∀ (l : List S25) (ht : totL l < 4611686018427387904), (encL l).length ≤ totL l
  | [], ht => by rw [encL, totL]; simp
  | x :: l, ht => by
    rw [totL] at ht
    have h1 := enc_tot x (by omega)
    have h2 := encL_tot l (by omega)
    rw [encL, totL, List.length_append]; omega
end
end Go.Proofs.Ytbobnopnfjcajaa.Base
/- Arguments of a law opened: what is laid at a type reads as a plain value, kind by kind. -/
namespace Go.Proofs.Ytbobnopnfjcajaa.Base
set_option linter.unusedVariables false
set_option linter.unusedSimpArgs false
open Go Go.RowKit Go.Deep Go.Proofs.YtbobnopnfjcajaaW.PrintWords Go.Proofs.YtbobnopnfjcajaaW.PrintLast Go.Proofs.YtbobnopnfjcajaaW.PrintMore

/-- what is laid at this type reads as a value of this kind, of which 'ok' holds -/
structure Opens (P : Program) (t : TypeId) {α : Type} (d : Kd α) (ok : α → Prop) : Prop where
  size : P.cellsOf t = d.sz
  get : ∀ {H : Type} {enc : TypeId × Value → H} {w : World} {base : Nat} {held : Bool} {fuel : Nat} {cs : List Value} {x : DataW H × List MemPlace},
    DataW.trod enc P w base (fun _ => true) held fuel t cs = some x → (∀ n ∈ x.1.weights P t, n ≤ reachBytes) → ∃ v, d.K w v cs ∧ ok v

theorem opens_int {P : Program} {t : TypeId} {k : IntKind} (ht : P.underlying t = some (.int k)) (hc : P.cellsOf t = 1) : Opens P t (Kd.int k) (fun x => (Lit.int k x).wf = true) :=
  ⟨hc, fun h _ => by
    obtain ⟨n, rfl, _, hw⟩ := DataW.trod_int ht h
    exact ⟨n, rfl, hw⟩⟩
theorem opens_bool {P : Program} {t : TypeId} (ht : P.underlying t = some .bool) (hc : P.cellsOf t = 1) : Opens P t Kd.bool (fun _ => True) :=
  ⟨hc, fun h _ => by
    obtain ⟨n, rfl, _⟩ := DataW.trod_bool ht h
    exact ⟨n, rfl, trivial⟩⟩
theorem opens_string {P : Program} {t : TypeId} (ht : P.underlying t = some .string) (hc : P.cellsOf t = 1) : Opens P t Kd.string (fun s => s.size ≤ 140737488351232) :=
  ⟨hc, fun h hw => by
    obtain ⟨s, rfl, hx, _⟩ := DataW.trod_string ht h
    refine ⟨s, rfl, ?_⟩
    have := hw s.data.toList.length (by rw [hx]; simp [DataW.weights])
    have e : s.size = s.data.toList.length := rfl
    rw [e]
    exact this⟩
theorem mem_weightsAll {H : Type} {P : Program} {e : TypeId} {d : DataW H} {n : Nat} : ∀ {l : List (DataW H)}, d ∈ l → n ∈ d.weights P e → n ∈ DataW.weightsAll P e l
  | [], h, _ => by cases h
  | x :: l, h, hn => by
    simp only [DataW.weightsAll, List.mem_append]
    rcases List.mem_cons.mp h with h | h
    · subst h; exact .inl hn
    · exact .inr (mem_weightsAll h hn)
theorem opens_slice {P : Program} {t e : TypeId} {α : Type} {d : Kd α} {ok : α → Prop} {B : Nat} (ht : P.underlying t = some (.slice e)) (hc : P.cellsOf t = 1) (hB : P.bytesOf e = B) (he : Opens P e d ok) :
    Opens P t (Kd.slice e d) (fun l => l.length * B ≤ 140737488351232 ∧ ∀ x ∈ l, ok x) :=
  ⟨hc, fun {H enc w base held fuel cs x} h hw => by
    rcases open_slice ht h with ⟨rfl, _⟩ | ⟨a, len, cap, m, n, D, Pl, rfl, hb, hl, hm, hmm, rfl, hx⟩
    · refine ⟨[], ⟨none, 0, rfl, Nat.le_refl _, rfl, Nat.zero_le _, fun h => absurd h (Nat.lt_irrefl 0)⟩, by simp, fun x hx => by cases hx⟩
    · simp only [if_true] at hmm
      subst hmm
      have hww : ∀ k, k ∈ (DataW.slice ((List.range len).map D) ((List.range (m - len)).map fun j => D (len + j))).weights P t → k ≤ reachBytes := hw
      simp only [DataW.weights, ht, List.mem_cons, List.mem_append] at hww
      have hlen : len * B ≤ 140737488351232 := by
        have := hww _ (.inl rfl)
        simp only [List.length_map, List.length_range, hB] at this
        have h2 : len * B ≤ (len + (m - len)) * B := Nat.mul_le_mul_right _ (by omega)
        exact Nat.le_trans h2 this
      have each : ∀ i, i < len → ∃ v : α, ∃ c, c.length = d.sz ∧ d.K w v c ∧ ok v ∧ ∀ j u, c[j]? = some u → w.cell? (a.add (i * d.sz + j)) = some u := by
        intro i hi
        obtain ⟨cs', h1, h2⟩ := hx i (by omega)
        obtain ⟨_, h3, h4⟩ := World.cells?_some h1
        obtain ⟨v, hv, hok⟩ := he.get h2 (fun k hk => hww k (.inr (.inl (mem_weightsAll (l := (List.range len).map D) (d := D i) (List.mem_map.mpr ⟨i, List.mem_range.mpr hi, rfl⟩) hk))))
        refine ⟨v, cs', by rw [h3, he.size], hv, hok, fun j u hu => ?_⟩
        have hj : j < P.cellsOf e := by
          rw [← h3]
          exact (List.getElem?_eq_some_iff.1 hu).1
        have := h4 j hj
        rw [hu, he.size] at this
        rw [← this, Addr.add_add]
      have pick : ∃ f : Fin len → α, ∀ i : Fin len, ∃ c, c.length = d.sz ∧ d.K w (f i) c ∧ ok (f i) ∧ ∀ j u, c[j]? = some u → w.cell? (a.add (i.val * d.sz + j)) = some u := by
        refine ⟨fun i => Classical.choose (each i.val i.isLt), fun i => Classical.choose_spec (each i.val i.isLt)⟩
      obtain ⟨f, hf⟩ := pick
      refine ⟨List.ofFn f, ⟨some a, m, by rw [List.length_ofFn], by rw [List.length_ofFn]; exact hl, ?_⟩, by rw [List.length_ofFn]; exact hlen, fun x hx => ?_⟩
      · rw [List.length_ofFn]
        refine ⟨List.length_ofFn, ?_, fun _ => ⟨a, rfl, fun j p hp => ?_⟩⟩
        · have : maxLen = 9223372036854775807 := by decide
          omega
        · have hj : j < len := by
            have := (List.getElem?_eq_some_iff.1 hp).1
            simpa using this
          rw [List.getElem?_ofFn, dif_pos hj] at hp
          obtain ⟨c, c1, c2, _, c4⟩ := hf ⟨j, hj⟩
          simp only [Option.some.injEq] at hp
          subst hp
          exact ⟨c, c1, c2, c4⟩
      · obtain ⟨i, rfl⟩ := List.mem_ofFn.mp hx
        obtain ⟨c, _, _, h3, _⟩ := hf i
        exact h3⟩
/-- a value of one cell, as an argument -/
theorem Opens.arg {P : Program} {t : TypeId} {α : Type} {d : Kd α} {ok : α → Prop} (h : Opens P t d ok) {H : Type} {enc : TypeId × Value → H} {W : World} {base : Nat} {held : Bool} {v : Value} {dd : DataW H} {ps : List MemPlace} {ts : List TypeId} {ds : List (DataW H)} {j : Nat}
    (ho : DataW.Trod enc P W base (fun _ => true) held t v dd ps) (hsz : (DataW.weightsEach P ts ds).all (· ≤ reachBytes) = true) (ht : ts[j]? = some t) (hd : ds[j]? = some dd) : ∃ x, d.K W x v.cells.toList ∧ ok x := by
  obtain ⟨fuel, hf⟩ := ho
  refine h.get hf fun n hn => ?_
  have := List.all_eq_true.1 hsz _ (DataW.weights_mem_each ht hd n hn)
  simpa using this
end Go.Proofs.Ytbobnopnfjcajaa.Base
/- Items as arguments of a law, opened: what is laid at their type reads as a tree. -/
namespace Go.Proofs.Ytbobnopnfjcajaa.Base
set_option linter.unusedVariables false
set_option linter.unusedSimpArgs false
open Go Go.RowKit Go.Deep Go.Proofs.YtbobnopnfjcajaaW.PrintWords Go.Proofs.YtbobnopnfjcajaaW.PrintLast Go.Proofs.YtbobnopnfjcajaaW.PrintMore Go.Proofs.Ytbobnopnfjcajaa.P

/-- a slice opened, where its elements' data, being lesser, are -/
theorem slice_get {P : Program} {t e : TypeId} {α : Type} {d : Kd α} {ok : α → Prop} {B : Nat} (ht : P.underlying t = some (.slice e)) (hB : P.bytesOf e = B) (hs : P.cellsOf e = d.sz)
    {H : Type} {enc : TypeId × Value → H} {w : World} {base : Nat} {held : Bool} {fuel : Nat} {cs : List Value} {x : DataW H × List MemPlace} (h : DataW.trod enc P w base (fun _ => true) held fuel t cs = some x) (hw : ∀ n ∈ x.1.weights P t, n ≤ reachBytes)
    (he : ∀ (y : DataW H × List MemPlace) (fuel' : Nat) (cs' : List Value), SizeOf.sizeOf y.1 < SizeOf.sizeOf x.1 → DataW.trod enc P w base (fun _ => true) held fuel' e cs' = some y → (∀ n ∈ y.1.weights P e, n ≤ reachBytes) → ∃ v, d.K w v cs' ∧ ok v) :
    ∃ v, (Kd.slice e d).K w v cs ∧ v.length * B ≤ 140737488351232 ∧ ∀ x ∈ v, ok x := by
  rcases open_slice ht h with ⟨rfl, _⟩ | ⟨a, len, cap, m, n, D, Pl, rfl, hb, hl, hm, hmm, rfl, hx⟩
  · refine ⟨[], ⟨none, 0, rfl, Nat.le_refl _, rfl, Nat.zero_le _, fun h => absurd h (Nat.lt_irrefl 0)⟩, by simp, fun x hx => by cases hx⟩
  · simp only [if_true] at hmm
    subst hmm
    have hww : ∀ k, k ∈ (DataW.slice ((List.range len).map D) ((List.range (m - len)).map fun j => D (len + j))).weights P t → k ≤ reachBytes := hw
    simp only [DataW.weights, ht, List.mem_cons, List.mem_append] at hww
    have hlen : len * B ≤ 140737488351232 := by
      have := hww _ (.inl rfl)
      simp only [List.length_map, List.length_range, hB] at this
      have h2 : len * B ≤ (len + (m - len)) * B := Nat.mul_le_mul_right _ (by omega)
      exact Nat.le_trans h2 this
    have each : ∀ i, i < len → ∃ v : α, ∃ c, c.length = d.sz ∧ d.K w v c ∧ ok v ∧ ∀ j u, c[j]? = some u → w.cell? (a.add (i * d.sz + j)) = some u := by
      intro i hi
      obtain ⟨cs', h1, h2⟩ := hx i (by omega)
      obtain ⟨_, h3, h4⟩ := World.cells?_some h1
      have hmem : D i ∈ (List.range len).map D := List.mem_map.mpr ⟨i, List.mem_range.mpr hi, rfl⟩
      have hlt : SizeOf.sizeOf (D i) < SizeOf.sizeOf (DataW.slice ((List.range len).map D) ((List.range (m - len)).map fun j => D (len + j))) := by
        have := List.sizeOf_lt_of_mem hmem
        simp only [DataW.slice.sizeOf_spec]
        omega
      obtain ⟨v, hv, hok⟩ := he (D i, Pl i) n cs' hlt h2 (fun k hk => hww k (.inr (.inl (mem_weightsAll (l := (List.range len).map D) (d := D i) hmem hk))))
      refine ⟨v, cs', by rw [h3, hs], hv, hok, fun j u hu => ?_⟩
      have hj : j < P.cellsOf e := by
        rw [← h3]
        exact (List.getElem?_eq_some_iff.1 hu).1
      have := h4 j hj
      rw [hu, hs] at this
      rw [← this, Addr.add_add]
    have pick : ∃ f : Fin len → α, ∀ i : Fin len, ∃ c, c.length = d.sz ∧ d.K w (f i) c ∧ ok (f i) ∧ ∀ j u, c[j]? = some u → w.cell? (a.add (i.val * d.sz + j)) = some u := by
      refine ⟨fun i => Classical.choose (each i.val i.isLt), fun i => Classical.choose_spec (each i.val i.isLt)⟩
    obtain ⟨f, hf⟩ := pick
    refine ⟨List.ofFn f, ⟨some a, m, by rw [List.length_ofFn], by rw [List.length_ofFn]; exact hl, ?_⟩, by rw [List.length_ofFn]; exact hlen, fun x hx => ?_⟩
    · rw [List.length_ofFn]
      refine ⟨List.length_ofFn, ?_, fun _ => ⟨a, rfl, fun j p hp => ?_⟩⟩
      · have : maxLen = 9223372036854775807 := by decide
        omega
      · have hj : j < len := by
          have := (List.getElem?_eq_some_iff.1 hp).1
          simpa using this
        rw [List.getElem?_ofFn, dif_pos hj] at hp
        obtain ⟨c, c1, c2, _, c4⟩ := hf ⟨j, hj⟩
        simp only [Option.some.injEq] at hp
        subst hp
        exact ⟨c, c1, c2, c4⟩
    · obtain ⟨i, rfl⟩ := List.mem_ofFn.mp hx
      obtain ⟨c, _, _, h3, _⟩ := hf i
      exact h3
mutual
/-- an item's lengths, and its bytes -/
def ok25 : S25 → Prop
  | ⟨_, s, l⟩ => s.length * 1 ≤ 140737488351232 ∧ (∀ x ∈ s, (Lit.int .u8 x).wf = true) ∧ l.length * 56 ≤ 140737488351232 ∧ okL l
def okL : List S25 → Prop
  | [] => True
  | x :: l => ok25 x ∧ okL l
end
theorem okL_of {l : List S25} (h : ∀ x ∈ l, ok25 x) : okL l := by
  induction l with
  | nil => trivial
  | cons x l ih => exact ⟨h x List.mem_cons_self, ih fun y hy => h y (List.mem_cons_of_mem _ hy)⟩
theorem okL_mem {l : List S25} (h : okL l) : ∀ x ∈ l, ok25 x := by
  induction l with
  | nil => intro x hx; cases hx
  | cons y l ih =>
    intro x hx
    rcases List.mem_cons.mp hx with e | e
    · rw [e]; exact h.1
    · exact ih h.2 x e
theorem tree_get {H : Type} {enc : TypeId × Value → H} {w : World} {base : Nat} {held : Bool} (m : Nat) : ∀ (x : DataW H × List MemPlace) (fuel : Nat) (cs : List Value), SizeOf.sizeOf x.1 < m →
    DataW.trod enc Try.prog w base (fun _ => true) held fuel 25 cs = some x → (∀ n ∈ x.1.weights Try.prog 25, n ≤ reachBytes) → ∃ v : S25, k25.K w v cs ∧ ok25 v := by
  induction m with
  | zero => intro x fuel cs h; omega
  | succ m ih =>
    intro x fuel cs hm h hw
    obtain ⟨y0, y1, y2, n, rfl, hl, h0, h1, h2⟩ := trod_struct3 Try.underlying25 h
    have hc25 : Try.prog.cellsOf 25 = 3 := by kernel_rfl
    rw [hc25] at hl
    obtain ⟨c0, c1, c2, rfl⟩ : ∃ c0 c1 c2, cs = [c0, c1, c2] := by
      match cs, hl with
      | [c0, c1, c2], _ => exact ⟨c0, c1, c2, rfl⟩
    have e4 : Try.prog.cellsOf 4 = 1 := by kernel_rfl
    have e22 : Try.prog.cellsOf 22 = 1 := by kernel_rfl
    have e23 : Try.prog.cellsOf 23 = 1 := by kernel_rfl
    simp only [e4, e22, e23, List.drop_zero, List.drop_succ_cons, List.take_succ_cons, List.take_zero] at h0 h1 h2
    have hww : ∀ k, k ∈ (DataW.agg [y0.1, y1.1, y2.1]).weights Try.prog 25 → k ≤ reachBytes := hw
    simp only [DataW.weights, Try.underlying25, DataW.weightsEach, List.map_cons, List.map_nil, List.mem_append] at hww
    obtain ⟨b, hb, _⟩ := DataW.trod_bool Try.underlying4 h0
    have hs1 : SizeOf.sizeOf y1.1 < SizeOf.sizeOf (DataW.agg [y0.1, y1.1, y2.1]) := by simp only [DataW.agg.sizeOf_spec, List.cons.sizeOf_spec]; omega
    have hs2 : SizeOf.sizeOf y2.1 < SizeOf.sizeOf (DataW.agg [y0.1, y1.1, y2.1]) := by simp only [DataW.agg.sizeOf_spec, List.cons.sizeOf_spec]; omega
    obtain ⟨s, ⟨A1, p1, q1, r1, t1⟩, u1, z1⟩ := (opens_slice (B := 1) Try.underlying22 (by kernel_rfl) (by kernel_rfl) (opens_int Try.underlying5 (by kernel_rfl))).get h1 (fun k hk => hww k (.inr (.inl hk)))
    obtain ⟨l, ⟨A2, p2, q2, r2, t2⟩, u2, z2⟩ := slice_get (B := 56) (d := k25) (ok := ok25) Try.underlying23 (by kernel_rfl) (by kernel_rfl) h2 (fun k hk => hww k (.inr (.inr (.inl hk))))
      (fun y fuel' cs' hlt hy hwy => ih y fuel' cs' (by have hm' : SizeOf.sizeOf (DataW.agg [y0.1, y1.1, y2.1]) < m + 1 := hm
                                                        omega) hy hwy)
    injection hb with hb
    injection q1 with q1
    injection q2 with q2
    subst hb q1 q2
    exact ⟨⟨b, s, l⟩, k25_mk w ⟨b, s, l⟩ r1 t1 r2 t2, u1, z1, u2, okL_of z2⟩
theorem opens25 : Opens Try.prog 25 k25 ok25 := ⟨by kernel_rfl, fun h hw => tree_get _ _ _ _ (Nat.lt_succ_self _) h hw⟩
end Go.Proofs.Ytbobnopnfjcajaa.Base
/- What is encoded is read again, whatever stands behind. -/
namespace Go.Proofs.Ytbobnopnfjcajaa.Base
set_option linter.unusedVariables false
set_option linter.unusedSimpArgs false
open Go Go.RowKit Go.Proofs.YtbobnopnfjcajaaW.PrintWords Go.Proofs.YtbobnopnfjcajaaW.PrintLast Go.Proofs.YtbobnopnfjcajaaW.PrintMore Go.Proofs.Ytbobnopnfjcajaa.P

mutual
theorem len_of_ok : ∀ (x : S25), ok25 x → lenS x
  | ⟨b, s, l⟩, h => by
    rw [ok25] at h
    rw [lenS]
    exact ⟨by omega, by omega, lenL_of_ok l h.2.2.2⟩
theorem lenL_of_ok : ∀ (l : List S25), okL l → lenS.lenL l
  | [], _ => trivial
  | x :: l, h => ⟨len_of_ok x h.1, lenL_of_ok l h.2⟩
end
mutual
theorem encS_bytes : ∀ (x : S25) (h : ok25 x) (ht : totS x < 4611686018427387904), Bytes (encS x)
  | ⟨b, s, l⟩, h, ht => by
    rw [ok25] at h
    rw [totS] at ht
    have hl := encL_tot l (by omega)
    rw [encS]
    split
    · exact (headS_bytes (by omega) (by omega)).append (encL_bytes l h.2.2.2 (by omega))
    · split
      · exact bytes_of_wf h.2.1
      · exact (headS_bytes (by omega) (by omega)).append (bytes_of_wf h.2.1)
theorem encL_bytes : ∀ (l : List S25) (h : okL l) (ht : totL l < 4611686018427387904), Bytes (encL l)
  | [], _, _ => by rw [encL]; intro x hx; cases hx
  | x :: l, h, ht => by
    rw [totL] at ht
    rw [encL]
    exact (encS_bytes x h.1 (by omega)).append (encL_bytes l h.2 (by omega))
end
theorem encode_bytes (x : S25) (h : ok25 x) (ht : totS x < 4611686018427387904) : Bytes (encode x).1 := by
  unfold encode
  split
  · intro y hy; cases hy
  · split
    · intro y hy; cases hy
    · exact encS_bytes x h ht
/-- the program's reading behind a head that is right -/
theorem first_prog {b inn : List Int} {a0 n0 : Nat} (hb : Bytes b) (hl : b.length ≤ 65536) (h0 : 0 < b.length) (m d : Int) (hm : 0 ≤ m ∧ m < 4096) (hd : 1 ≤ d ∧ d ≤ 16) (hc : ¬ rd b 0 < 128) (hh : hdS b = (a0, n0, 0)) (hfit : a0 + n0 ≤ b.length) (hinn : inn = (b.take (a0 + n0)).drop a0) :
    ∀ v, Conv (fun k => (if decide (192 ≤ rd b 0) = true then (rlp_walker_first.l0 k d inn ((a0 + n0 : Nat) : Int) (m + 1) true ([] : List (S25))) else ((rlp_own.f inn).bind fun t183 => (if t183 = true then (some (false, ([] : List Int), ([] : List (S25)), 0, 40, m + 1)) else ((bytes_Clone.f inn).bind fun t184 => (some (false, t184, ([] : List (S25)), ((a0 + n0 : Nat) : Int), 0, m + 1))))))) v → Conv (fun k => rlp_walker_first.f k m b d) v := by
  intro v hv
  have hmeets : rlp_walker_meets.f m d = some (0, m + 1) := by
    unfold rlp_walker_meets.f
    rw [if_neg (by omega), if_neg (by omega), wrap64_id (by omega) (by omega)]
  rcases reads_hd hb h0 hc with ⟨he, hrd⟩ | ⟨he, x1, x2, x3, hrd⟩
  · rw [hh] at hrd
    simp only at hrd
    refine Conv.succ ?_
    simp only [rlp_walker_first.f]
    refine Conv.iteF (by omega) (Conv.bindc hmeets (Conv.iteT rfl (Conv.bindc hrd (Conv.iteT rfl ?_))))
    simp only
    rw [wrap64_id (n := (b.length : Int) - a0) (by omega) (by omega), wrap64_id (n := (a0 : Int) + n0) (by omega) (by omega)]
    refine Conv.iteF (by omega) (Conv.iteT (by omega) (Conv.iteT (by omega) (Conv.iteT (by omega) (Conv.bindc (a := inn) ?_ ?_))))
    · rw [hinn, show ((a0 : Int) + (n0 : Int)).toNat = a0 + n0 by omega, Int.toNat_natCast]
    · rw [show (a0 : Int) + (n0 : Int) = ((a0 + n0 : Nat) : Int) by omega]
      simpa only [Bool.false_eq_true, if_false] using hv
  · rw [hh] at he; exact absurd rfl he
theorem first_own {b : List Int} (hb : Bytes b) (hl : b.length ≤ 65536) (h0 : 0 < b.length) (m d : Int) (hm : 0 ≤ m ∧ m < 4096) (hd : 1 ≤ d ∧ d ≤ 16) (hc : rd b 0 < 128) : Conv (fun k => rlp_walker_first.f k m b d) (false, [rd b 0], [], 1, 0, m + 1) := by
  have ht1 : b.take 1 = [rd b 0] := by
    have := drop_cons (l := b) (i := 0) (by omega)
    rw [List.drop_zero] at this
    rw [this]; simp [rd]
  have hmeets : rlp_walker_meets.f m d = some (0, m + 1) := by
    unfold rlp_walker_meets.f
    rw [if_neg (by omega), if_neg (by omega), wrap64_id (by omega) (by omega)]
  refine Conv.succ ?_
  simp only [rlp_walker_first.f]
  refine Conv.iteF (by omega) (Conv.bindc hmeets (Conv.iteT rfl (Conv.bindc (reads_own hb (by omega) hc) (Conv.iteT rfl ?_))))
  simp only
  rw [wrap64_id (n := (b.length : Int) - 0) (by omega) (by omega), wrap64_id (n := (0 : Int) + 1) (by omega) (by omega)]
  refine Conv.iteF (by omega) (Conv.iteT (by omega) (Conv.iteT (by omega) (Conv.iteT (by omega) (Conv.bindc rfl (Conv.iteF (by decide) (Conv.iteT trivial ?_))))))
  refine Conv.bindc (a := [rd b 0]) ?_ (Conv.pure _)
  unfold bytes_Clone.f
  simp only [Int.toNat_zero, List.drop_zero, show (0 + 1 : Int).toNat = 1 by decide, ht1]
  rw [if_pos (by simp)]
mutual
theorem first_enc : ∀ (x : S25) (more : List Int) (m d n m' : Int) (hm : 0 ≤ m ∧ m ≤ 4096) (hd : 1 ≤ d) (hs : sizeS x m d = (n, 0, m')) (hb : Bytes (encS x ++ more)) (hl : (encS x ++ more).length ≤ 65536),
    Conv (fun k => rlp_walker_first.f k m (encS x ++ more) d) (x.f0, x.f1, x.f2, ((encS x).length : Int), 0, m') ∧ 0 ≤ m' ∧ m' ≤ 4096
  | ⟨c, s, l⟩, more, m, d, n, m', hm, hd, hs, hb, hl => by
    have hp := encS_pos ⟨c, s, l⟩
    rw [sizeS] at hs
    by_cases h1 : d > 16 ∨ m = 4096
    · rw [if_pos h1] at hs; simp at hs
    rw [if_neg h1] at hs
    by_cases h2 : (c = true ∧ 0 < s.length) ∨ (c = false ∧ 0 < l.length)
    · rw [if_pos h2] at hs; simp at hs
    rw [if_neg h2] at hs
    by_cases hc : c = true
    · subst hc
      have hs0 : s = [] := List.eq_nil_of_length_eq_zero (by
        have : ¬ 0 < s.length := fun e => h2 (.inl ⟨rfl, e⟩)
        omega)
      subst hs0
      have hq : ¬ ownS [] = true := fun h => absurd (of_decide_eq_true h).1 (by simp)
      rw [if_neg hq] at hs
      have henc : encS ⟨true, [], l⟩ = headS 192 (encL l).length ++ encL l := by rw [encS, if_pos rfl]
      rw [henc] at hb hl hp ⊢
      rw [List.append_assoc] at hb hl ⊢
      have hlen := hl
      rw [List.length_append, List.length_append] at hlen
      obtain ⟨k1, k2, k3⟩ := hd_of (base := 192) (n := (encL l).length) (.inl rfl) (by omega) (encL l ++ more)
      have hll := encL_len l
      have loop := first_encL l (m + 1) d ((((headS 192 (encL l).length).length + (encL l).length : Nat)) : Int) n m' [] _ (by omega) (by omega) (by simp only [List.length_nil]; omega) hs (fun y hy => hb y (by simp [hy])) (by omega)
      refine ⟨?_, loop.2⟩
      refine first_prog (inn := encL l) hb hl (by rw [List.length_append]; have := headS_le (b := 192) (n := (encL l).length) (by omega); omega) m d (by omega) (by omega) k1 k3 (by simp only [List.length_append]; omega) ?_ _ ?_
      · rw [← List.append_assoc, List.take_left' (by simp), List.drop_left' rfl]
      · refine Conv.iteT (by rw [k2]; rfl) ?_
        have := loop.1
        rw [List.nil_append] at this
        rw [List.length_append]
        exact this
    · have hcf : c = false := by cases c <;> simp_all
      subst hcf
      have hl0 : l = [] := List.eq_nil_of_length_eq_zero (by
        have : ¬ 0 < l.length := fun e => h2 (.inr ⟨rfl, e⟩)
        omega)
      subst hl0
      by_cases ho : ownS s = true
      · rw [if_pos ho] at hs
        have henc : encS ⟨false, s, []⟩ = s := by rw [encS, if_neg hc, if_pos ho]
        rw [henc] at hb hl hp ⊢
        obtain ⟨h3, h4⟩ := of_decide_eq_true ho
        obtain ⟨y, rfl⟩ : ∃ y, s = [y] := by
          match s, h3 with
          | [y], _ => exact ⟨y, rfl⟩
        have er : rd ([y] ++ more) 0 = y := by simp [rd]
        have h4' : y < 128 := by simpa [rd] using h4
        have := first_own hb hl (by simp) m d (by omega) (by omega) (by rw [er]; exact h4')
        rw [er] at this
        simp only [Prod.mk.injEq] at hs
        rw [← hs.2.2]
        exact ⟨this, by omega, by omega⟩
      · rw [if_neg ho, sizeL] at hs
        have henc : encS ⟨false, s, []⟩ = headS 128 s.length ++ s := by rw [encS, if_neg hc, if_neg ho]
        rw [henc] at hb hl hp ⊢
        rw [List.append_assoc] at hb hl ⊢
        have hlen := hl
        rw [List.length_append, List.length_append] at hlen
        obtain ⟨k1, k2, k3⟩ := hd_of (base := 128) (n := s.length) (.inr rfl) (by omega) (s ++ more)
        simp only [Prod.mk.injEq] at hs
        rw [← hs.2.2]
        refine ⟨?_, by omega, by omega⟩
        refine first_prog (inn := s) hb hl (by rw [List.length_append]; have := headS_le (b := 128) (n := s.length) (by omega); omega) m d (by omega) (by omega) k1 k3 (by simp only [List.length_append]; omega) ?_ _ ?_
        · rw [← List.append_assoc, List.take_left' (by simp), List.drop_left' rfl]
        · refine Conv.iteF (by rw [k2]; decide) (Conv.bindc (own_eq s) (Conv.iteF ho (Conv.bindc (a := s) (by unfold bytes_Clone.f; rw [if_pos (by omega)]) (Conv.eq (Conv.pure _) ?_))))
          rw [List.length_append]
theorem first_encL : ∀ (l : List S25) (m d E n m' : Int) (acc : List S25) (s : Int) (hm : 0 ≤ m ∧ m ≤ 4096) (hd : 1 ≤ d ∧ d ≤ 16) (hacc : acc.length + (encL l).length ≤ 65536) (hs : sizeL l m (d + 1) s = (n, 0, m')) (hb : Bytes (encL l)) (hl : (encL l).length ≤ 65536),
    Conv (fun k => rlp_walker_first.l0 k d (encL l) E m true acc) (true, [], acc ++ l, E, 0, m') ∧ 0 ≤ m' ∧ m' ≤ 4096
  | [], m, d, E, n, m', acc, s, hm, hd, hacc, hs, hb, hl => by
    rw [sizeL] at hs
    simp only [Prod.mk.injEq] at hs
    rw [← hs.2.2, encL]
    refine ⟨Conv.succ ?_, hm.1, hm.2⟩
    simp only [rlp_walker_first.l0]
    exact Conv.iteF (by simp) (Conv.eq (Conv.pure _) (by simp))
  | ⟨xb, xs, xl⟩ :: l, m, d, E, n, m', acc, s, hm, hd, hacc, hs, hb, hl => by
    have hp := encS_pos ⟨xb, xs, xl⟩
    rw [sizeL] at hs
    rw [encL] at hb hl hacc ⊢
    have hlen := hl
    rw [List.length_append] at hlen hacc
    by_cases h : (sizeS ⟨xb, xs, xl⟩ m (d + 1)).2.1 = 0
    · rw [if_pos h] at hs
      obtain ⟨h1, h2, h3⟩ := first_enc ⟨xb, xs, xl⟩ (encL l) m (d + 1) (sizeS ⟨xb, xs, xl⟩ m (d + 1)).1 (sizeS ⟨xb, xs, xl⟩ m (d + 1)).2.2 hm (by omega) (by rw [← h]) hb hl
      obtain ⟨h4, h5⟩ := first_encL l (sizeS ⟨xb, xs, xl⟩ m (d + 1)).2.2 d E n m' (acc ++ [⟨xb, xs, xl⟩]) _ ⟨h2, h3⟩ hd (by rw [List.length_append, List.length_singleton]; omega) hs (fun y hy => hb y (by simp [hy])) (by omega)
      refine ⟨Conv.succ ?_, h5⟩
      simp only [rlp_walker_first.l0]
      rw [wrap64_id (n := d + 1) (by omega) (by omega)]
      refine Conv.iteT (by rw [List.length_append]; omega) (Conv.bind h1 (Conv.iteT rfl (Conv.iteT (by omega) (Conv.iteT (by dsimp only; omega) (Conv.iteT (by dsimp only; rw [List.length_append]; omega) ?_)))))
      dsimp only
      rw [Int.toNat_natCast, List.drop_left' rfl]
      rw [List.append_assoc, List.singleton_append] at h4
      exact h4
    · rw [if_neg h] at hs
      simp only [Prod.mk.injEq] at hs
      exact absurd hs.2.1 h
end
/-- First of what an item was encoded to -/
theorem First_enc {x : S25} {more : List Int} {n m' : Int} (hs : sizeS x 0 1 = (n, 0, m')) (hb : Bytes (encS x ++ more)) (hl : (encS x ++ more).length ≤ 65536) :
    Conv (fun k => rlp_First.f k (encS x ++ more)) (x.f0, x.f1, x.f2, ((encS x).length : Int), 0) := by
  unfold rlp_First.f
  exact Conv.iteF (by omega) (Conv.bind (first_enc x more 0 1 n m' (by omega) (by omega) hs hb hl).1 (Conv.pure _))
theorem Decode_enc {x : S25} {n m' : Int} (hs : sizeS x 0 1 = (n, 0, m')) (hb : Bytes (encS x)) (hl : (encS x).length ≤ 65536) :
    Conv (fun k => rlp_Decode.f k (encS x)) (x.f0, x.f1, x.f2, 0) := by
  have := First_enc (more := []) hs (by rw [List.append_nil]; exact hb) (by rw [List.append_nil]; exact hl)
  rw [List.append_nil] at this
  unfold rlp_Decode.f
  exact Conv.bind this (Conv.iteT rfl (Conv.iteF (by dsimp only; omega) (Conv.pure _)))
end Go.Proofs.Ytbobnopnfjcajaa.Base
/- When two items are told the same. -/
namespace Go.Proofs.Ytbobnopnfjcajaa.Base
set_option linter.unusedVariables false
set_option linter.unusedSimpArgs false
open Go Go.RowKit Go.Proofs.YtbobnopnfjcajaaW.PrintWords Go.Proofs.YtbobnopnfjcajaaW.PrintLast Go.Proofs.YtbobnopnfjcajaaW.PrintMore Go.Proofs.Ytbobnopnfjcajaa.P

mutual
theorem lenS_of_size : ∀ (x : S25) (n d : Int) (h : (sizeS x n d).2.1 = 0) (hl : (encS x).length ≤ 70000), lenS x
  | ⟨b, s, l⟩, n, d, h, hl => by
    rw [sizeS] at h
    rw [encS] at hl
    rw [lenS]
    split at h
    · simp at h
    · split at h
      · simp at h
      · rename_i h2
        by_cases hb : b = true
        · have hs : s.length = 0 := by
            by_cases e : 0 < s.length
            · exact absurd (.inl ⟨hb, e⟩) h2
            · omega
          rw [if_pos hb, List.length_append] at hl
          have hll := encL_len l
          have ho : ¬ ownS s = true := fun e => by have := (of_decide_eq_true e).1; omega
          rw [if_neg ho] at h
          exact ⟨by omega, by omega, lenL_of_size l _ _ _ h (by omega)⟩
        · have hl0 : l = [] := List.eq_nil_of_length_eq_zero (by
            have : ¬ 0 < l.length := fun e => h2 (.inr ⟨by cases b <;> simp_all, e⟩)
            omega)
          rw [if_neg hb] at hl
          subst hl0
          refine ⟨?_, by simp, trivial⟩
          split at hl
          · omega
          · rw [List.length_append] at hl; omega
theorem lenL_of_size : ∀ (l : List S25) (n d s : Int) (h : (sizeL l n d s).2.1 = 0) (hl : (encL l).length ≤ 70000), lenS.lenL l
  | [], n, d, s, h, hl => trivial
  | x :: l, n, d, s, h, hl => by
    rw [sizeL] at h
    rw [encL, List.length_append] at hl
    split at h
    · rename_i c
      exact ⟨lenS_of_size x n d c (by omega), lenL_of_size l _ _ _ h (by omega)⟩
    · rename_i c
      exact absurd h c
end
theorem same_l0 (b : Bool) (s : List Int) (l : List S25) (hl : l.length ≤ 140737488351232) (hp : ∀ x ∈ l, Conv (fun k => moraineref4_Same.f k x.f0 x.f1 x.f2 x.f0 x.f1 x.f2) true) (j : Nat) :
    ∀ (i : Nat), i + j = l.length → Conv (fun k => moraineref4_Same.l0 k (i : Int) b s l b s l) true := by
  induction j with
  | zero =>
    intro i hi
    refine Conv.succ ?_
    simp only [moraineref4_Same.l0]
    exact Conv.iteF (by omega) (Conv.pure _)
  | succ j ih =>
    intro i hi
    refine Conv.succ ?_
    simp only [moraineref4_Same.l0]
    rw [wrap64_id (n := (i : Int) + 1) (by omega) (by omega)]
    exact Conv.iteT (by omega) (Conv.iteT (by omega) (Conv.iteT (by omega) (Conv.bind (hp _ (rdT_mem (by omega))) (Conv.iteT rfl (ih (i + 1) (by omega))))))
theorem same_refl : ∀ (x : S25) (hx : lenS x), Conv (fun k => moraineref4_Same.f k x.f0 x.f1 x.f2 x.f0 x.f1 x.f2) true
  | ⟨b, s, l⟩, hx => by
    rw [lenS] at hx
    refine Conv.succ ?_
    simp only [moraineref4_Same.f]
    have start : ∀ c : Bool, c = false → Conv (fun k => moraineref4_Same.j0 k c b s l b s l) true := by
      intro c hc
      subst hc
      refine Conv.succ ?_
      simp only [moraineref4_Same.j0]
      exact Conv.iteF (by decide) (same_l0 b s l hx.2.1 (fun y hy => same_refl y (lenL_mem hx.2.2 y hy)) l.length 0 (by omega))
    exact Conv.iteF (by simp) (Conv.iteT trivial (start _ (by simp)))
termination_by x => SizeOf.sizeOf x
decreasing_by
  have := List.sizeOf_lt_of_mem hy
  simp only [S25.mk.sizeOf_spec]
  omega
end Go.Proofs.Ytbobnopnfjcajaa.Base
/- RlpStream's pure statement: items one behind the other are read one after the other. -/
namespace Go.Proofs.Ytbobnopnfjcajaa.Pure
set_option linter.unusedVariables false
set_option linter.unusedSimpArgs false
open Go Go.RowKit Go.Proofs.Ytbobnopnfjcajaa.P Go.Proofs.YtbobnopnfjcajaaW.PrintWords Go.Proofs.YtbobnopnfjcajaaW.PrintLast Go.Proofs.Ytbobnopnfjcajaa.Base

def Good (x : S25) : Prop := ∃ n m : Int, sizeS x 0 1 = (n, 0, m)
theorem stream_l1 (l : List S25) (h12 : l.length ≤ 12) (hg : ∀ x ∈ l, Good x) (hok : ∀ x ∈ l, ok25 x) (hb : Bytes (encL l)) (hl : (encL l).length ≤ 65536) (j : Nat) :
    ∀ i : Nat, i + j = l.length → Conv (fun k => morainelaw4_RlpStream.l1 k l (encL (l.drop i)) (i : Int)) true := by
  induction j with
  | zero =>
    intro i hi
    refine Conv.succ ?_
    simp only [morainelaw4_RlpStream.l1]
    rw [List.drop_eq_nil_of_le (by omega)]
    have : Conv (fun k => rlp_First.f k []) (false, [], [], 0, 41) := by
      unfold rlp_First.f
      refine Conv.iteF (by simp) (Conv.bind (a := (false, [], [], 0, 41, 0)) (Conv.succ ?_) (Conv.pure _))
      simp only [rlp_walker_first.f]
      exact Conv.iteT (by simp) (Conv.pure _)
    rw [encL]
    exact Conv.iteF (by omega) (Conv.bind this (Conv.iteT (by simp) (Conv.iteT rfl (Conv.eq (Conv.pure _) (by simp)))))
  | succ j ih =>
    intro i hi
    refine Conv.succ ?_
    simp only [morainelaw4_RlpStream.l1]
    have hm := rdT_mem (l := l) (i := i) (by omega)
    have hdr : encL (l.drop i) = encS (rd_T25 l (i : Int)) ++ encL (l.drop (i + 1)) := by rw [dropT (l := l) (i := i) (by omega), encL]
    have hcut : encL l = encL (l.take i) ++ encL (l.drop i) := by rw [← encL_append, List.take_append_drop]
    obtain ⟨n, m, hs⟩ := hg _ hm
    have hb2 : Bytes (encL (l.drop i)) := fun y hy => hb y (by rw [hcut]; simp [hy])
    have hl2 : (encL (l.drop i)).length ≤ 65536 := by rw [hcut, List.length_append] at hl; omega
    rw [hdr] at hb2 hl2 ⊢
    have h1 := First_enc hs hb2 hl2
    have hp := encS_pos (rd_T25 l (i : Int))
    have hll : (encS (rd_T25 l (i : Int)) ++ encL (l.drop (i + 1))).length = (encS (rd_T25 l (i : Int))).length + (encL (l.drop (i + 1))).length := List.length_append
    rw [wrap64_id (n := (i : Int) + 1) (by omega) (by omega)]
    refine Conv.iteT (by omega) (Conv.bind h1 (Conv.iteT rfl (Conv.iteF (by dsimp only; omega) (Conv.iteF (by dsimp only; omega) (Conv.iteT (by omega) (Conv.bind (same_refl _ (len_of_ok _ (hok _ hm))) (Conv.iteT rfl (Conv.iteT (by dsimp only; omega) (Conv.iteT (by dsimp only; omega) ?_)))))))))
    dsimp only
    rw [Int.toNat_natCast, List.drop_left' rfl]
    exact ih (i + 1) (by omega)
theorem stream_l0 (l : List S25) (h12 : l.length ≤ 12) (hok : ∀ x ∈ l, ok25 x) (j : Nat) :
    ∀ i : Nat, i + j = l.length → (∀ x ∈ l.take i, Good x) → Bytes (encL (l.take i)) → (encL (l.take i)).length ≤ 65536 → Conv (fun k => morainelaw4_RlpStream.l0 k l (encL (l.take i)) (i : Int)) true := by
  induction j with
  | zero =>
    intro i hi hg hb hl
    refine Conv.succ ?_
    simp only [morainelaw4_RlpStream.l0]
    rw [List.take_of_length_le (by omega)] at hg hb hl ⊢
    exact Conv.iteF (by omega) (stream_l1 l h12 hg hok hb hl l.length 0 (by omega))
  | succ j ih =>
    intro i hi hg hb hl
    refine Conv.succ ?_
    simp only [morainelaw4_RlpStream.l0]
    have hm := rdT_mem (l := l) (i := i) (by omega)
    have hox := hok _ hm
    have hlx := len_of_ok _ hox
    refine Conv.iteT (by omega) (Conv.iteT (by omega) (Conv.bind (few_conv _ hlx) (Conv.ite (fun c => ?_) fun _ => Conv.pure _)))
    have hc := of_decide_eq_true c
    have ht := cntS_tot _ 18 (by omega) hlx hc
    refine Conv.bind (encode_conv _ (by omega)) ?_
    refine Conv.ite (fun he => ?_) fun _ => Conv.pure _
    have henc : encode (rd_T25 l (i : Int)) = (encS (rd_T25 l (i : Int)), 0) ∧ (sizeS (rd_T25 l (i : Int)) 0 1).2.1 = 0 := by
      unfold encode at he ⊢
      by_cases h1 : (sizeS (rd_T25 l (i : Int)) 0 1).2.1 ≠ 0
      · rw [if_pos h1] at he; exact absurd he h1
      · rw [if_neg h1] at he ⊢
        by_cases h2 : 65536 < (encS (rd_T25 l (i : Int))).length
        · rw [if_pos h2] at he; exact absurd he (by decide)
        · rw [if_neg h2]; exact ⟨rfl, by omega⟩
    rw [henc.1]
    dsimp only
    have htk : l.take (i + 1) = l.take i ++ [rd_T25 l (i : Int)] := by
      rw [rdT_get (by omega)]; exact List.take_succ_eq_append_getElem (by omega)
    have hnx : encL (l.take (i + 1)) = encL (l.take i) ++ encS (rd_T25 l (i : Int)) := by rw [htk, encL_append]; simp [encL]
    have hbx := encS_bytes _ hox (by omega)
    have het := enc_tot (rd_T25 l (i : Int)) (by omega)
    rw [wrap64_id (n := (i : Int) + 1) (by omega) (by omega), wrap64_id (n := ((encL (l.take i)).length : Int) + _) (by omega) (by omega)]
    refine Conv.ite (fun _ => Conv.pure _) fun c2 => Conv.iteT (by omega) ?_
    have := ih (i + 1) (by omega) (fun x hx => by
      rw [htk] at hx
      rcases List.mem_append.mp hx with h | h
      · exact hg x h
      · rw [List.mem_singleton.mp h]; exact ⟨(sizeS (rd_T25 l (i : Int)) 0 1).1, (sizeS (rd_T25 l (i : Int)) 0 1).2.2, Prod.ext rfl (Prod.ext henc.2 rfl)⟩) (by rw [hnx]; exact hb.append hbx) (by rw [hnx, List.length_append]; omega)
    rw [hnx] at this
    exact this
theorem RlpStream (l : List S25) (h : l.length * 56 ≤ 140737488351232 ∧ ∀ x ∈ l, ok25 x) : ∃ k, morainelaw4_RlpStream.f k l = some true := by
  refine Conv.ex ?_
  simp only [morainelaw4_RlpStream.f, morainelaw4_known.f]
  refine Conv.bindc rfl (Conv.iteT rfl (Conv.ite (fun _ => Conv.pure _) fun c => ?_))
  have := stream_l0 l (by omega) h.2 l.length 0 (by omega) (by simp) (by simp [encL]; intro x hx; cases hx) (by simp [encL])
  simpa [encL] using this
end Go.Proofs.Ytbobnopnfjcajaa.Pure
namespace Go.Proofs.Ytbobnopnfjcajaa.rlpStream
open Go.ChangeShapes Go.WideShapes Go.ChangeAt Go.RowKit Go.Proofs.Ytbobnopnfjcajaa.P
open Go.ChangeMaps (open_string shut_string)
set_option linter.unusedVariables false
theorem own : ownKnob Try.prog.godebug = none := by kernel_rfl
theorem laidOut : laidOutB Try.prog = true := by kernel_rfl
set_option maxRecDepth 100000 in
theorem lifted (os : Os) (started : os.Started) (H : Type) (enc : TypeId × Value → H) :
    ReturnsInHanded {} Try.checked os 7 .any (Rows.rlpStreamSpec.pre6 enc Try.prog Try.f7 Rows.rlpStreamRow.domain false) (Rows.rlpStreamSpec.post enc Try.prog Try.f7 false true false false) := by
  refine returnsInHanded_of_change_sized (C := Try.checked) own started (by kernel_rfl) Try.func7
    (ChangeSpec.witness6 (enc := enc) (C := Try.checked) false ⟨#[], #[.slice none 0 0], []⟩ 8 (by kernel_rfl) (by kernel_rfl) (by kernel_rfl) (by kernel_rfl)) ?_
  intro W base args ds gs before hval0 hW hcnd hsz0 _
  have hsz : (DataW.weightsEach Try.prog (Try.f7.params.toList ++ Rows.rlpStreamSpec.plain.varTypes Try.prog) (ds ++ gs)).all (· ≤ reachBytes) = true := hsz0
  have hval : ∀ (j : Nat) t v, Try.f7.params[j]? = some t → args[j]? = some v → Value.okWide Try.prog W .any base t v := hval0
  have hW' := hW
  obtain ⟨p, q, hA0, hV, rfl, hfz, hnd⟩ := hW
  have hA : DataW.TrodAll enc Try.prog W 0 (fun _ => true) true Try.f7.params.toList args.toList ds p := hA0
  rw [Try.params7] at hA hval hsz
  obtain ⟨v0, vs0, d0, ds0, p0, q0, hargs, rfl, rfl, h0, r0⟩ := trodAll_cons hA
  obtain ⟨rfl, rfl, rfl⟩ := trodAll_nil r0
  obtain rfl : args = #[v0] := by cases args; simp_all
  obtain ⟨rfl, rfl⟩ := trodVars_none hV
  have k0 := h0
  have lt0 : ∀ x ∈ p0, x.block < W.heap.size := by obtain ⟨m, hm⟩ := k0; exact DataW.trod_lt m _ _ _ hm
  obtain ⟨a0, len0, cap0, rfl⟩ := okWide_slice Try.underlying23 (hval 0 23 v0 rfl rfl)
  obtain ⟨l0, ⟨A0, c0, hcs0, hm0, hr0⟩, w0⟩ := Base.Opens.arg (Base.opens_slice (B := 56) Try.underlying23 (by kernel_rfl) (by kernel_rfl) Base.opens25) h0 hsz (j := 0) (t := 23) rfl rfl
  simp [Value.cells] at hcs0
  obtain ⟨rfl, rfl, rfl⟩ := hcs0
  clear hA0 hval0 hsz0 hsz
  obtain ⟨k, h⟩ := Pure.RlpStream l0 w0
  refine (P.morainelaw4_RlpStream.calls k _ _ l0 true W hr0 hm0 h).mono fun e W' ⟨he, bel⟩ => ?_
  subst he
  exact ⟨_, rfl, _, _, _, [], _, [], hW', trodAll_mk1 (shut_bool Try.underlying4 _), (trodAll_cons_mk (Below.trod laidOut (by kernel_rfl) (of_decide_eq_true (by kernel_rfl)) k0 bel lt0) trodAll_mk0), rfl, bel.frame _, fun h => by cases h⟩
theorem over : Rows.rlpStreamRow.holds Try.pinned (OpenSpec.ofChange Rows.rlpStreamSpec) :=
  OpenClaim.holds_of_wide 7 Try.f7 rfl rfl rfl rfl rfl rfl rfl ⟨rfl, rfl, rfl, rfl, rfl⟩ rfl rfl rfl rfl rfl (by kernel_rfl) Try.func7 (by kernel_rfl)
    (of_decide_eq_true (by kernel_rfl)) (by unfold Func.isWrapper; first | (rw [if_pos (by decide +kernel)]; kernel_rfl) | (rw [if_neg (by decide +kernel)]; exact ⟨rfl, rfl⟩))
    (fun os started H enc _ => lifted os started H enc)
theorem proved : Rows.RlpStreamSaid := over
#print axioms proved
end Go.Proofs.Ytbobnopnfjcajaa.rlpStream
namespace Go.Proofs.Ytbobnopnfjcajaa
/-- The row, under a short name, for the claim. -/
theorem rlpStream_holds : Rows.RlpStreamSaid := rlpStream.proved
end Go.Proofs.Ytbobnopnfjcajaa
