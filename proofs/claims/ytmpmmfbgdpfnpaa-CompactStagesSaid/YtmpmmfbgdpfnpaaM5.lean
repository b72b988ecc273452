/- Parts of the proof, joined by a program of this session: EvSpec, CSpec2, CSpecKv, CRises, KSpec, KHeap, EvPut, EvFixed, EvUnfixed, CFixed, CCodec, CKeys, CExt, KHeapW, KHeapI, KMerged, CSpec7, CBlock, KSmall, EvRUnfixed, EvRPut, CRef2. -/
import GoSem.Machine.Return
import Derived.Test.YtmpmmfbgdpfnpaaM0
import Derived.Test.YtmpmmfbgdpfnpaaM4
import Derived.Lib.BytesEntry
set_option linter.unusedVariables false
set_option linter.unusedSimpArgs false
set_option linter.unusedSectionVars false
/- Plain specs of the lowest functions, with no function of the program in sight. Written out of wip/pure by mkspec.py. -/
namespace Go.Proofs.Ytmpmmfbgdpfnpaa.Ev
open Go
set_option linter.unusedVariables false
set_option linter.unusedSimpArgs false
def rd (l : List Int) (i : Int) : Int := l.getD i.toNat 0
theorem wrapU64 (n : Int) : IntKind.u64.wrap n = n % 18446744073709551616 := by simp [IntKind.wrap, IntKind.bits, IntKind.signed]
theorem wrapU64_id {n : Int} (h : 0 ≤ n) (h' : n < 18446744073709551616) : IntKind.u64.wrap n = n := by rw [wrapU64]; omega
theorem wrapU32 (n : Int) : IntKind.u32.wrap n = n % 4294967296 := by simp [IntKind.wrap, IntKind.bits, IntKind.signed]
theorem wrapU8 (n : Int) : IntKind.u8.wrap n = n % 256 := by simp [IntKind.wrap, IntKind.bits, IntKind.signed]
/-- all are bytes -/
def Bytes (l : List Int) : Prop := ∀ x ∈ l, 0 ≤ x ∧ x < 256
theorem Bytes.append {a b : List Int} (ha : Bytes a) (hb : Bytes b) : Bytes (a ++ b) := fun x hx => by
  rcases List.mem_append.mp hx with h | h
  · exact ha x h
  · exact hb x h
theorem Bytes.take {a : List Int} (ha : Bytes a) (n : Nat) : Bytes (a.take n) := fun x hx => ha x (List.mem_of_mem_take hx)
theorem Bytes.drop {a : List Int} (ha : Bytes a) (n : Nat) : Bytes (a.drop n) := fun x hx => ha x (List.mem_of_mem_drop hx)
theorem rd_get {l : List Int} {i : Nat} (h : i < l.length) : rd l (i : Int) = l[i] := by
  simp [rd, List.getD_eq_getElem?_getD, h]
theorem rd_bytes {l : List Int} (hl : Bytes l) (i : Int) : 0 ≤ rd l i ∧ rd l i < 256 := by
  by_cases h : i.toNat < l.length
  · have : rd l i = l[i.toNat] := by simp [rd, List.getD_eq_getElem?_getD, h]
    rw [this]; exact hl _ (List.getElem_mem h)
  · have : rd l i = 0 := by simp [rd, List.getD_eq_getElem?_getD, Nat.le_of_not_lt h]
    rw [this]; omega
theorem drop_cons {l : List Int} {i : Nat} (h : i < l.length) : l.drop i = rd l (i : Int) :: l.drop (i + 1) := by
  rw [rd_get h, List.drop_eq_getElem_cons h]
theorem bits_xor32 (x y : Int) : Go.bits .xor .u32 x y = ((BitVec.ofInt 32 x ^^^ BitVec.ofInt 32 y).toNat : Int) := by
  unfold Go.bits
  rw [wrapU32]
  exact Int.emod_eq_of_lt (Int.natCast_nonneg _) (Int.ofNat_lt.mpr (BitVec.isLt _))
theorem bits_and32 (x y : Int) : Go.bits .and .u32 x y = ((BitVec.ofInt 32 x &&& BitVec.ofInt 32 y).toNat : Int) := by
  unfold Go.bits
  rw [wrapU32]
  exact Int.emod_eq_of_lt (Int.natCast_nonneg _) (Int.ofNat_lt.mpr (BitVec.isLt _))
theorem bits_xor8 (x y : Int) : Go.bits .xor .u8 x y = ((BitVec.ofInt 8 x ^^^ BitVec.ofInt 8 y).toNat : Int) := by
  unfold Go.bits
  rw [wrapU8]
  exact Int.emod_eq_of_lt (Int.natCast_nonneg _) (Int.ofNat_lt.mpr (BitVec.isLt _))
theorem ofInt_toNat {w : Nat} (b : BitVec w) : BitVec.ofInt w ((b.toNat : Nat) : Int) = b := by
  simp [BitVec.ofInt_natCast]
/-- so many bytes of a number, the least first -/
def fixedL (a : Int) : Nat → List Int
  | 0 => []
  | n + 1 => fixedL a n ++ [a / ((256 ^ n : Nat) : Int) % 256]
theorem fixedL_length (a : Int) (n : Nat) : (fixedL a n).length = n := by
  induction n with
  | zero => rfl
  | succ n ih => simp [fixedL, ih]
theorem fixedL_bytes (a : Int) (n : Nat) : Bytes (fixedL a n) := by
  induction n with
  | zero => intro x hx; cases hx
  | succ n ih => exact ih.append fun x hx => by rw [List.mem_singleton.mp hx]; omega
def leVal : List Int → Int
  | [] => 0
  | x :: l => x + 256 * leVal l
theorem leVal_append (a b : List Int) : leVal (a ++ b) = leVal a + ((256 ^ a.length : Nat) : Int) * leVal b := by
  induction a with
  | nil => simp [leVal]
  | cons x l ih =>
    simp only [List.cons_append, leVal, ih, List.length_cons, Nat.pow_succ, Int.natCast_mul]
    rw [Int.mul_add, Int.add_assoc, ← Int.mul_assoc]
    congr 3
    rw [Int.mul_comm]; rfl
theorem leVal_range {l : List Int} (h : Bytes l) : 0 ≤ leVal l ∧ leVal l < ((256 ^ l.length : Nat) : Int) := by
  induction l with
  | nil => simp [leVal]
  | cons x l ih =>
    have := ih fun y hy => h y (List.mem_cons_of_mem _ hy)
    have := h x List.mem_cons_self
    simp only [leVal, List.length_cons, Nat.pow_succ, Int.natCast_mul]
    omega
theorem leVal_fixedL {a : Int} (ha : 0 ≤ a) (n : Nat) : leVal (fixedL a n) = a % ((256 ^ n : Nat) : Int) := by
  obtain ⟨m, rfl⟩ := Int.eq_ofNat_of_zero_le ha
  induction n with
  | zero => simp [fixedL, leVal, Int.emod_one]
  | succ n ih =>
    have e := @Nat.mod_mul (256 ^ n) 256 m
    rw [fixedL, leVal_append, ih, fixedL_length, Nat.pow_succ]
    simp only [leVal]
    have e' : ((m % (256 ^ n * 256) : Nat) : Int) = ((m % 256 ^ n + 256 ^ n * (m / 256 ^ n % 256) : Nat) : Int) := by rw [e]
    have e1 : ((m % (256 ^ n * 256) : Nat) : Int) = (m : Int) % ((256 ^ n * 256 : Nat) : Int) := Int.natCast_emod _ _
    have e2 : ((m % 256 ^ n + 256 ^ n * (m / 256 ^ n % 256) : Nat) : Int) = (m : Int) % ((256 ^ n : Nat) : Int) + ((256 ^ n : Nat) : Int) * ((m : Int) / ((256 ^ n : Nat) : Int) % 256) := by
      rw [Int.natCast_add, Int.natCast_mul, Int.natCast_emod, Int.natCast_emod, Int.natCast_ediv]; rfl
    rw [← e1, e', e2, Int.mul_zero, Int.add_zero]
theorem bits_or64 {x y : Int} {n : Nat} (hn : n ≤ 8) (hx : 0 ≤ x ∧ x < ((256 ^ n : Nat) : Int)) (hy : 0 ≤ y ∧ y * ((256 ^ n : Nat) : Int) < 18446744073709551616) :
    Go.bits .or .u64 x (y * ((256 ^ n : Nat) : Int)) = x + y * ((256 ^ n : Nat) : Int) := by
  obtain ⟨a, rfl⟩ := Int.eq_ofNat_of_zero_le hx.1
  obtain ⟨b, rfl⟩ := Int.eq_ofNat_of_zero_le hy.1
  have e2 : (256 : Nat) ^ n = 2 ^ (8 * n) := by
    have : (256 : Nat) = 2 ^ 8 := by decide
    rw [this, ← Nat.pow_mul]
  have h1 : a < 2 ^ (8 * n) := by rw [← e2]; omega
  have h2 : b * 2 ^ (8 * n) < 18446744073709551616 := by
    rw [← e2]
    have := hy.2
    rw [← Int.natCast_mul] at this
    omega
  have hp : (2 : Nat) ^ (8 * n) ≤ 2 ^ 64 := Nat.pow_le_pow_right (by decide) (by omega)
  have h3 : a < 18446744073709551616 := by
    have : (2 : Nat) ^ 64 = 18446744073709551616 := by decide
    omega
  rw [e2, ← Int.natCast_mul]
  unfold Go.bits
  rw [wrapU64]
  have eo : BitVec.ofInt IntKind.u64.bits (a : Int) ||| BitVec.ofInt IntKind.u64.bits ((b * 2 ^ (8 * n) : Nat) : Int) = BitVec.ofNat 64 (a + b * 2 ^ (8 * n)) := by
    apply BitVec.eq_of_toNat_eq
    rw [BitVec.toNat_or, BitVec.ofInt_natCast, BitVec.ofInt_natCast]
    simp only [IntKind.bits, BitVec.toNat_ofNat]
    rw [Nat.mod_eq_of_lt (by omega), Nat.mod_eq_of_lt (by omega)]
    have := Nat.shiftLeft_add_eq_or_of_lt h1 b
    rw [Nat.shiftLeft_eq] at this
    rw [Nat.or_comm, ← this, Nat.add_comm (b * _), Nat.mod_eq_of_lt]
    rw [Nat.add_comm, this]
    exact Nat.or_lt_two_pow (n := 64) (by omega) (by omega)
  have hl : a + b * 2 ^ (8 * n) < 18446744073709551616 := by
    have := Nat.shiftLeft_add_eq_or_of_lt h1 b
    rw [Nat.shiftLeft_eq] at this
    rw [Nat.add_comm, this]
    exact Nat.or_lt_two_pow (n := 64) (by omega) (by omega)
  show ((BitVec.ofInt IntKind.u64.bits (a : Int) ||| BitVec.ofInt IntKind.u64.bits ((b * 2 ^ (8 * n) : Nat) : Int)).toNat : Int) % 18446744073709551616 = _
  have et : (BitVec.ofInt IntKind.u64.bits (a : Int) ||| BitVec.ofInt IntKind.u64.bits ((b * 2 ^ (8 * n) : Nat) : Int)).toNat = a + b * 2 ^ (8 * n) := by
    rw [eo]
    show (BitVec.ofNat 64 (a + b * 2 ^ (8 * n))).toNat = _
    rw [BitVec.toNat_ofNat, Nat.mod_eq_of_lt (by omega)]
  rw [et]
  omega
theorem take_succ' {l : List Int} {n : Nat} (h : n < l.length) : l.take (n + 1) = l.take n ++ [rd l (n : Int)] := by
  rw [rd_get h, List.take_append_getElem h]
theorem andNot128 {c : Int} (h : 0 ≤ c ∧ c < 256) : Go.bits .andNot .u8 c 128 = c % 128 := by
  have all : ∀ n : Fin 256, Go.bits .andNot .u8 (n.val : Int) 128 = (n.val : Int) % 128 := by decide +kernel
  have := all ⟨c.toNat, by omega⟩
  simp only at this
  rwa [Int.toNat_of_nonneg h.1] at this
theorem or128 {c : Int} (h : 0 ≤ c ∧ c < 256) : Go.bits .or .u8 c 128 = c % 128 + 128 := by
  have all : ∀ n : Fin 256, Go.bits .or .u8 (n.val : Int) 128 = (n.val : Int) % 128 + 128 := by decide +kernel
  have := all ⟨c.toNat, by omega⟩
  simp only at this
  rwa [Int.toNat_of_nonneg h.1] at this
theorem pow7 (n : Nat) : (2 : Nat) ^ (7 * n) = 128 ^ n := by
  have : (128 : Nat) = 2 ^ 7 := by decide
  rw [this, ← Nat.pow_mul]
theorem or_at {x y : Int} {m : Nat} (hx : 0 ≤ x ∧ x < ((2 ^ m : Nat) : Int)) (hy : 0 ≤ y ∧ y * ((2 ^ m : Nat) : Int) < 18446744073709551616) (hx64 : x < 18446744073709551616) :
    Go.bits .or .u64 x (y * ((2 ^ m : Nat) : Int)) = x + y * ((2 ^ m : Nat) : Int) := by
  obtain ⟨a, rfl⟩ := Int.eq_ofNat_of_zero_le hx.1
  obtain ⟨b, rfl⟩ := Int.eq_ofNat_of_zero_le hy.1
  have h1 : a < 2 ^ m := by omega
  have h2 : b * 2 ^ m < 18446744073709551616 := by
    have := hy.2
    rw [← Int.natCast_mul] at this
    omega
  rw [← Int.natCast_mul]
  unfold Go.bits
  rw [wrapU64]
  have hl : a + b * 2 ^ m < 18446744073709551616 := by
    have := Nat.shiftLeft_add_eq_or_of_lt h1 b
    rw [Nat.shiftLeft_eq] at this
    rw [Nat.add_comm, this]
    exact Nat.or_lt_two_pow (n := 64) (by omega) (by omega)
  have eo : BitVec.ofInt IntKind.u64.bits (a : Int) ||| BitVec.ofInt IntKind.u64.bits ((b * 2 ^ m : Nat) : Int) = BitVec.ofNat 64 (a + b * 2 ^ m) := by
    apply BitVec.eq_of_toNat_eq
    rw [BitVec.toNat_or, BitVec.ofInt_natCast, BitVec.ofInt_natCast]
    simp only [IntKind.bits, BitVec.toNat_ofNat]
    rw [Nat.mod_eq_of_lt (by omega), Nat.mod_eq_of_lt (by omega)]
    have := Nat.shiftLeft_add_eq_or_of_lt h1 b
    rw [Nat.shiftLeft_eq] at this
    rw [Nat.or_comm, ← this, Nat.add_comm (b * _), Nat.mod_eq_of_lt (by omega)]
  have et : (BitVec.ofInt IntKind.u64.bits (a : Int) ||| BitVec.ofInt IntKind.u64.bits ((b * 2 ^ m : Nat) : Int)).toNat = a + b * 2 ^ m := by
    rw [eo]
    show (BitVec.ofNat 64 (a + b * 2 ^ m)).toNat = _
    rw [BitVec.toNat_ofNat, Nat.mod_eq_of_lt (by omega)]
  show ((BitVec.ofInt IntKind.u64.bits (a : Int) ||| BitVec.ofInt IntKind.u64.bits ((b * 2 ^ m : Nat) : Int)).toNat : Int) % 18446744073709551616 = _
  rw [et]
  omega
/-- what is read of a row, from the i-th byte on -/
def takeS : List Int → Nat → Int → Int × Int × Int
  | [], _, _ => (0, 0, 20)
  | c :: l, i, acc => if (i = 9 ∧ 1 < c) ∨ (0 < i ∧ c = 0) then (0, 0, 21) else if c < 128 then (acc + c % 128 * ((128 ^ i : Nat) : Int), (i : Int) + 1, 0) else takeS l (i + 1) (acc + c % 128 * ((128 ^ i : Nat) : Int))
theorem pow128_le {i : Nat} (h : i ≤ 9) : ((128 ^ i : Nat) : Int) ≤ 9223372036854775808 := by
  have p : (128 : Nat) ^ i ≤ 128 ^ 9 := Nat.pow_le_pow_right (by decide) h
  have : (128 : Nat) ^ 9 = 9223372036854775808 := by decide
  omega
theorem pow128_le8 {i : Nat} (h : i ≤ 8) : ((128 ^ i : Nat) : Int) ≤ 72057594037927936 := by
  have p : (128 : Nat) ^ i ≤ 128 ^ 8 := Nat.pow_le_pow_right (by decide) h
  have : (128 : Nat) ^ 8 = 72057594037927936 := by decide
  omega
/-- a byte that is let in at its place: its part -/
theorem part {c acc : Int} {i : Nat} (hi : i ≤ 9) (hc : 0 ≤ c ∧ c < 256) (hn : ¬ ((i = 9 ∧ 1 < c) ∨ (0 < i ∧ c = 0))) (ha : 0 ≤ acc ∧ acc < ((128 ^ i : Nat) : Int)) :
    0 ≤ acc + c % 128 * ((128 ^ i : Nat) : Int) ∧ acc + c % 128 * ((128 ^ i : Nat) : Int) < ((128 ^ (i + 1) : Nat) : Int) ∧ acc + c % 128 * ((128 ^ i : Nat) : Int) < 18446744073709551616 ∧ c % 128 * ((128 ^ i : Nat) : Int) < 18446744073709551616 := by
  have hm : 0 ≤ c % 128 * ((128 ^ i : Nat) : Int) := Int.mul_nonneg (by omega) (Int.natCast_nonneg _)
  have hle : c % 128 * ((128 ^ i : Nat) : Int) ≤ 127 * ((128 ^ i : Nat) : Int) := Int.mul_le_mul_of_nonneg_right (by omega) (Int.natCast_nonneg _)
  have e : ((128 ^ (i + 1) : Nat) : Int) = 128 * ((128 ^ i : Nat) : Int) := by rw [Nat.pow_succ]; omega
  refine ⟨by omega, by omega, ?_⟩
  by_cases h9 : i = 9
  · subst h9
    have hle1 : c % 128 * ((128 ^ 9 : Nat) : Int) ≤ 1 * ((128 ^ 9 : Nat) : Int) := Int.mul_le_mul_of_nonneg_right (by omega) (Int.natCast_nonneg _)
    have := pow128_le (i := 9) (by omega)
    omega
  · have := pow128_le8 (i := i) (by omega)
    omega
/-- a number's bytes: as many as its size asks for -/
def putS (n : Nat) : List Int := if h : n < 128 then [(n : Int)] else ((n % 128 + 128 : Nat) : Int) :: putS (n / 128)
termination_by n
decreasing_by omega
theorem putS_bytes (n : Nat) : Bytes (putS n) := by
  induction n using Nat.strongRecOn with
  | ind n ih =>
    unfold putS
    split
    · intro x hx; rw [List.mem_singleton.mp hx]; omega
    · intro x hx
      rcases List.mem_cons.mp hx with h | h
      · rw [h]; omega
      · exact ih (n / 128) (by omega) x h
theorem putS_length (j : Nat) : ∀ n : Nat, n < 128 ^ (j + 1) → (putS n).length ≤ j + 1 := by
  induction j with
  | zero => intro n h; unfold putS; rw [dif_pos (by omega)]; simp
  | succ j ih =>
    intro n h
    unfold putS
    split
    · simp
    · rw [List.length_cons]
      have := ih (n / 128) (by rw [Nat.div_lt_iff_lt_mul (by decide)]; rw [Nat.pow_succ] at h; exact h)
      omega
theorem putS_length64 {n : Nat} (h : n < 18446744073709551616) : (putS n).length ≤ 10 := by
  refine putS_length 9 n ?_
  have : (128 : Nat) ^ (9 + 1) = 1180591620717411303424 := by decide
  omega
theorem takeS_putS (n : Nat) : ∀ (i : Nat) (acc : Int) (rest : List Int), i ≤ 9 → n * 128 ^ i < 18446744073709551616 → i = 0 ∨ 0 < n →
    takeS (putS n ++ rest) i acc = (acc + (n : Int) * ((128 ^ i : Nat) : Int), (i : Int) + ((putS n).length : Int), 0) := by
  induction n using Nat.strongRecOn with
  | ind n ih =>
    intro i acc rest hi hn h0
    have h9 : i = 9 → n ≤ 1 := by
      intro e
      subst e
      have : (128 : Nat) ^ 9 = 9223372036854775808 := by decide
      omega
    by_cases h : n < 128
    · have e : putS n = [(n : Int)] := by unfold putS; rw [dif_pos h]
      rw [e]
      simp only [List.cons_append, List.nil_append, takeS, List.length_cons, List.length_nil]
      rw [if_neg (by omega), if_pos (by omega), Int.emod_eq_of_lt (by omega) (by omega)]
      rfl
    · have e : putS n = ((n % 128 + 128 : Nat) : Int) :: putS (n / 128) := by rw [putS, dif_neg h]
      rw [e]
      simp only [List.cons_append, takeS, List.length_cons]
      have hp : n / 128 * 128 ^ (i + 1) ≤ n * 128 ^ i := by
        rw [Nat.pow_succ, Nat.mul_comm (128 ^ i), ← Nat.mul_assoc]
        exact Nat.mul_le_mul_right _ (Nat.div_mul_le_self _ _)
      rw [if_neg (by omega), if_neg (by omega), ih (n / 128) (by omega) (i + 1) _ rest (by omega) (by omega) (by omega)]
      have e1 : (((n % 128 + 128 : Nat) : Int)) % 128 = ((n % 128 : Nat) : Int) := by omega
      rw [e1]
      congr 1
      · rw [Int.add_assoc]
        congr 1
        rw [← Int.natCast_mul, ← Int.natCast_mul, ← Int.natCast_mul, ← Int.natCast_add]
        congr 1
        rw [Nat.pow_succ, Nat.mul_comm (128 ^ i) 128, ← Nat.mul_assoc, ← Nat.add_mul]
        congr 1
        omega
      · congr 1
        omega
theorem take_put {a : Int} (h : 0 ≤ a ∧ a < 18446744073709551616) (rest : List Int) : takeS (putS a.toNat ++ rest) 0 0 = (a, ((putS a.toNat).length : Int), 0) := by
  rw [takeS_putS a.toNat 0 0 rest (by omega) (by simp; omega) (.inl rfl)]
  simp
  omega
/-- a user key, a number and a kind that make an internal key -/
def Right (l : List Int) (a b : Int) : Prop := (l.length : Int) ≤ 128 ∧ a ≤ 72057594037927935 ∧ (b = 0 ∨ b = 1)
instance (l : List Int) (a b : Int) : Decidable (Right l a b) := by unfold Right; infer_instance
def key (l : List Int) (a b : Int) : List Int × Int := if Right l a b then (l ++ fixedL (a * 256 + b) 8, 0) else ([], 23)
def split (l : List Int) : List Int × Int × Int × Int :=
  if l.length < 8 ∨ 136 < l.length then ([], 0, 0, 23)
  else if 1 < leVal (l.drop (l.length - 8)) % 256 then ([], 0, 0, 23)
  else (l.take (l.length - 8), leVal (l.drop (l.length - 8)) / 256, leVal (l.drop (l.length - 8)) % 256, 0)
theorem last8 {l : List Int} (hl : Bytes l) (h : 8 ≤ l.length) : 0 ≤ leVal (l.drop (l.length - 8)) ∧ leVal (l.drop (l.length - 8)) < 18446744073709551616 := by
  have := leVal_range (hl.drop (l.length - 8))
  have e : (l.drop (l.length - 8)).length = 8 := by rw [List.length_drop]; omega
  rw [e] at this
  have e : (256 : Nat) ^ 8 = 18446744073709551616 := by decide
  omega
theorem split_bytes {l : List Int} (hl : Bytes l) : Bytes (split l).1 := by
  unfold split
  split
  · intro x hx; cases hx
  · split
    · intro x hx; cases hx
    · exact hl.take _
theorem split_key {l : List Int} {a b : Int} (ha : 0 ≤ a) (h : Right l a b) : split (l ++ fixedL (a * 256 + b) 8) = (l, a, b, 0) := by
  obtain ⟨h1, h2, h3⟩ := h
  have el : (l ++ fixedL (a * 256 + b) 8).length = l.length + 8 := by rw [List.length_append, fixedL_length]
  have ed : (l ++ fixedL (a * 256 + b) 8).drop ((l ++ fixedL (a * 256 + b) 8).length - 8) = fixedL (a * 256 + b) 8 := by
    rw [el, Nat.add_sub_cancel, List.drop_left]
  have et : (l ++ fixedL (a * 256 + b) 8).take ((l ++ fixedL (a * 256 + b) 8).length - 8) = l := by
    rw [el, Nat.add_sub_cancel, List.take_left]
  have ev : leVal (fixedL (a * 256 + b) 8) = a * 256 + b := by
    rw [leVal_fixedL (by omega)]
    have e : (256 : Nat) ^ 8 = 18446744073709551616 := by decide
    rw [e]; omega
  unfold split
  rw [ed, et, el, ev, if_neg (by omega), if_neg (by omega)]
  congr 2
  · omega
  · congr 1; omega
theorem key_bytes {l : List Int} (hl : Bytes l) (a b : Int) : Bytes (key l a b).1 := by
  unfold key
  split
  · exact hl.append (fixedL_bytes _ _)
  · intro x hx; cases hx
theorem key_length {l : List Int} (a b : Int) : (key l a b).1.length ≤ 136 := by
  unfold key
  split
  · rename_i h; have := h.1; simp only [List.length_append, fixedL_length]; omega
  · simp
/-- two rows of numbers, the lesser ahead -/
def cmpB : List Int → List Int → Int
  | [], [] => 0
  | [], _ :: _ => -1
  | _ :: _, [] => 1
  | a :: x, b :: y => if a = b then cmpB x y else if a < b then -1 else 1
theorem cmpB_cases (a b : List Int) : cmpB a b = -1 ∨ cmpB a b = 0 ∨ cmpB a b = 1 := by
  induction a generalizing b with
  | nil => cases b <;> simp [cmpB]
  | cons x a ih =>
    cases b with
    | nil => simp [cmpB]
    | cons y b =>
      simp only [cmpB]
      split
      · exact ih b
      · split <;> simp
theorem cmpB_neg (a b : List Int) : cmpB b a = - cmpB a b := by
  induction a generalizing b with
  | nil => cases b <;> simp [cmpB]
  | cons x a ih =>
    cases b with
    | nil => simp [cmpB]
    | cons y b =>
      simp only [cmpB]
      by_cases h : x = y
      · rw [if_pos h, if_pos h.symm]; exact ih b
      · rw [if_neg h, if_neg (fun e => h e.symm)]
        by_cases h2 : x < y
        · rw [if_neg (by omega), if_pos h2]; rfl
        · rw [if_pos (by omega), if_neg h2]
theorem cmpB_refl (a : List Int) : cmpB a a = 0 := by
  induction a with
  | nil => rfl
  | cons x a ih => simp [cmpB, ih]
theorem cmpB_zero {a b : List Int} (h : cmpB a b = 0) : a = b := by
  induction a generalizing b with
  | nil => cases b with
    | nil => rfl
    | cons y b => simp [cmpB] at h
  | cons x a ih =>
    cases b with
    | nil => simp [cmpB] at h
    | cons y b =>
      simp only [cmpB] at h
      by_cases e : x = y
      · rw [if_pos e] at h; rw [e, ih h]
      · rw [if_neg e] at h; split at h <;> simp at h
theorem cmpB_trans {a b c : List Int} (h1 : cmpB a b ≤ 0) (h2 : cmpB b c ≤ 0) : cmpB a c ≤ 0 ∧ (cmpB a c = 0 → cmpB a b = 0 ∧ cmpB b c = 0) := by
  induction a generalizing b c with
  | nil =>
    cases b with
    | nil => cases c <;> simp [cmpB]
    | cons y b => cases c with
      | nil => simp [cmpB] at h2
      | cons z c => simp [cmpB]
  | cons x a ih =>
    cases b with
    | nil => simp [cmpB] at h1
    | cons y b =>
      cases c with
      | nil => simp [cmpB] at h2
      | cons z c =>
        simp only [cmpB] at h1 h2 ⊢
        by_cases e1 : x = y
        · subst e1
          rw [if_pos rfl] at h1 ⊢
          by_cases e2 : x = z
          · subst e2
            rw [if_pos rfl] at h2
            rw [if_pos rfl]
            refine ⟨(ih h1 h2).1, fun e => ⟨((ih h1 h2).2 e).1, ?_⟩⟩
            rw [if_pos rfl]
            exact ((ih h1 h2).2 e).2
          · rw [if_neg e2] at h2
            rw [if_neg e2]
            by_cases e3 : x < z
            · rw [if_pos e3]; omega
            · rw [if_neg e3] at h2; omega
        · rw [if_neg e1] at h1 ⊢
          by_cases e3 : x < y
          · rw [if_pos e3]
            by_cases e2 : y = z
            · subst e2
              rw [if_neg e1, if_pos e3]; omega
            · rw [if_neg e2] at h2 ⊢
              by_cases e4 : y < z
              · rw [if_neg (by omega), if_pos (by omega)]; omega
              · rw [if_neg e4] at h2; omega
          · rw [if_neg e3] at h1; omega
/-- the order of two keys: the users' keys rise, then the moments and kinds fall -/
def order (a b : List Int) : Int :=
  if cmpB (split a).1 (split b).1 ≠ 0 then cmpB (split a).1 (split b).1
  else if (split a).2.1 > (split b).2.1 ∨ ((split a).2.1 = (split b).2.1 ∧ (split a).2.2.1 > (split b).2.2.1) then -1
  else if (split a).2.1 < (split b).2.1 ∨ ((split a).2.1 = (split b).2.1 ∧ (split a).2.2.1 < (split b).2.2.1) then 1
  else 0
def compareK (a b : List Int) : Int × Int := if (split a).2.2.2 = 0 ∧ (split b).2.2.2 = 0 then (order a b, 0) else (0, 23)
theorem split_length (a : List Int) : (split a).1.length ≤ a.length := by
  unfold split
  repeat' split
  · simp
  · simp
  · simp only [List.length_take]; omega
theorem order_neg (a b : List Int) : order b a = - order a b := by
  unfold order
  rw [cmpB_neg (split a).1 (split b).1]
  have := cmpB_cases (split a).1 (split b).1
  generalize cmpB (split a).1 (split b).1 = m at *
  generalize (split a).2.1 = na
  generalize (split b).2.1 = nb
  generalize (split a).2.2.1 = ka
  generalize (split b).2.2.1 = kb
  by_cases h : m = 0
  · rw [if_neg (c := -m ≠ 0) (by omega), if_neg (c := m ≠ 0) (by omega)]
    by_cases c1 : na > nb ∨ (na = nb ∧ ka > kb)
    · rw [if_pos c1, if_neg (by omega), if_pos (by omega)]; rfl
    · rw [if_neg c1]
      by_cases c2 : na < nb ∨ (na = nb ∧ ka < kb)
      · rw [if_pos c2, if_pos (by omega)]
      · rw [if_neg c2, if_neg (by omega), if_neg (by omega)]; rfl
  · rw [if_pos (c := -m ≠ 0) (by omega), if_pos (c := m ≠ 0) (by omega)]
theorem order_cases (a b : List Int) : order a b = -1 ∨ order a b = 0 ∨ order a b = 1 := by
  unfold order
  have := cmpB_cases (split a).1 (split b).1
  split
  · omega
  · split
    · omega
    · split <;> omega
theorem order_trans {a b c : List Int} (h1 : order a b ≤ 0) (h2 : order b c ≤ 0) : order a c ≤ 0 := by
  unfold order at *
  have p := cmpB_cases (split a).1 (split b).1
  have q := cmpB_cases (split b).1 (split c).1
  have ha : cmpB (split a).1 (split b).1 ≤ 0 := by
    split at h1
    · exact h1
    · omega
  have hb : cmpB (split b).1 (split c).1 ≤ 0 := by
    split at h2
    · exact h2
    · omega
  obtain ⟨t1, t2⟩ := cmpB_trans ha hb
  by_cases h : cmpB (split a).1 (split c).1 = 0
  · obtain ⟨e1, e2⟩ := t2 h
    rw [if_neg (by omega)] at h1 h2
    rw [if_neg (by omega)]
    split
    · omega
    · split
      · split at h1
        · split at h2
          · omega
          · split at h2
            · omega
            · omega
        · split at h1
          · omega
          · split at h2
            · omega
            · split at h2 <;> omega
      · omega
  · rw [if_pos h]; exact t1
theorem order_zero {a b : List Int} (ha : Bytes a) (hb : Bytes b) (ea : (split a).2.2.2 = 0) (eb : (split b).2.2.2 = 0) (h : order a b = 0) : a = b := by
  have key : ∀ {l : List Int}, Bytes l → (split l).2.2.2 = 0 → 8 ≤ l.length ∧ (split l).1 = l.take (l.length - 8) ∧ (split l).2.1 = leVal (l.drop (l.length - 8)) / 256 ∧ (split l).2.2.1 = leVal (l.drop (l.length - 8)) % 256 := by
    intro l hl e
    unfold split at *
    split at e
    · simp at e
    · split at e
      · simp at e
      · rename_i h1 h2
        rw [if_neg h1, if_neg h2]
        exact ⟨by omega, rfl, rfl, rfl⟩
  obtain ⟨a1, a2, a3, a4⟩ := key ha ea
  obtain ⟨b1, b2, b3, b4⟩ := key hb eb
  unfold order at h
  have hc : cmpB (split a).1 (split b).1 = 0 := by
    split at h
    · exact h
    · omega
  rw [if_neg (by omega)] at h
  have hu := cmpB_zero hc
  have hv : leVal (a.drop (a.length - 8)) = leVal (b.drop (b.length - 8)) := by
    split at h
    · omega
    · split at h
      · omega
      · omega
  have inj : ∀ {x y : List Int}, Bytes x → Bytes y → x.length = y.length → leVal x = leVal y → x = y := by
    intro x
    induction x with
    | nil => intro y _ _ h _; exact (List.eq_nil_of_length_eq_zero h.symm).symm
    | cons p x ih =>
      intro y hx hy h e
      cases y with
      | nil => simp at h
      | cons q y =>
        have hp := hx p List.mem_cons_self
        have hq := hy q List.mem_cons_self
        simp only [leVal] at e
        have e1 : p = q := by omega
        have e2 := ih (fun z hz => hx z (List.mem_cons_of_mem _ hz)) (fun z hz => hy z (List.mem_cons_of_mem _ hz)) (by simpa using h) (by omega)
        rw [e1, e2]
  have hd := inj (ha.drop (a.length - 8)) (hb.drop (b.length - 8)) (by simp only [List.length_drop]; omega) hv
  rw [a2, b2] at hu
  rw [← List.take_append_drop (a.length - 8) a, ← List.take_append_drop (b.length - 8) b, hu, hd]
end Go.Proofs.Ytmpmmfbgdpfnpaa.Ev
/- What the lowest functions tell of data. -/
namespace Go.Proofs.Ytmpmmfbgdpfnpaa.Ev
open Go Go.RowKit
set_option linter.unusedVariables false
noncomputable section
abbrev u64 : Ty := .it .u64
abbrev i64 : Ty := .it .i64
abbrev u32 : Ty := .it .u32
abbrev byl : Ty := .li (.it .u8)
abbrev KV : Type := List Int × List Int × Unit
abbrev kv : Ty := .co byl (.co byl .ue)
abbrev kvl : Ty := .li kv
abbrev vK (l : List KV) : V := .d kvl l
def kvd : KV := ([], [], ())
theorem dflt_kv : Ty.dflt (.co (.li (.it .u8)) (.co (.li (.it .u8)) .ue)) = kvd := rfl
abbrev vI (n : Int) : V := .d i64 n
abbrev vU (n : Int) : V := .d u64 n
abbrev vW (n : Int) : V := .d u32 n
abbrev vB (l : List Int) : V := .d byl l
abbrev vO (o : Nat) (l : List Int) : V := .own o by8 l
abbrev vT (p : Prop) [Decidable p] : V := .d .bo (tst p)
def putSp : Sp := ⟨[u64], fun _ => true, fun x => .own 0 by8 (putS (Int.toNat x.1))⟩
def fixedSp : Sp := ⟨[u64, i64], fun x => tst ((0 : Int) ≤ x.2.1) && tst ((x.2.1 : Int) ≤ 8), fun x => .own 0 by8 (fixedL x.1 (Int.toNat x.2.1))⟩
def fixed4Sp : Sp := ⟨[u32], fun _ => true, fun x => .own 0 by8 (fixedL x.1 4)⟩
def fixed8Sp : Sp := ⟨[u64], fun _ => true, fun x => .own 0 by8 (fixedL x.1 8)⟩
def unfixedS (l : List Int) (n : Nat) : Int × Int := if l.length < n then (0, 20) else (leVal (l.take n), 0)
def unfixedSp : Sp := ⟨[byl, i64], fun x => tst ((0 : Int) ≤ x.2.1) && tst ((x.2.1 : Int) ≤ 8), fun x => .tup [.d u64 (unfixedS x.1 (Int.toNat x.2.1)).1, .d i64 (unfixedS x.1 (Int.toNat x.2.1)).2]⟩
def unfixed4Sp : Sp := ⟨[byl], fun _ => true, fun x => .tup [.d u32 (unfixedS x.1 4).1, .d i64 (unfixedS x.1 4).2]⟩
def unfixed8Sp : Sp := ⟨[byl], fun _ => true, fun x => .tup [.d u64 (unfixedS x.1 8).1, .d i64 (unfixedS x.1 8).2]⟩
def takeSp : Sp := ⟨[byl], fun _ => true, fun x => .tup [vU (takeS x.1 0 0).1, vI (takeS x.1 0 0).2.1, vI (takeS x.1 0 0).2.2]⟩
def rtakePre (l : List Int) (a : Int) : Bool := tst (0 ≤ a) && tst (a ≤ l.length)
def rtakeSp : Sp := ⟨[byl, i64], fun x => rtakePre x.1 x.2.1, fun x => .tup [vU (takeS (List.drop (Int.toNat x.2.1) x.1) 0 0).1, vI (takeS (List.drop (Int.toNat x.2.1) x.1) 0 0).2.1, vI (takeS (List.drop (Int.toNat x.2.1) x.1) 0 0).2.2]⟩
def rightSp : Sp := ⟨[byl, u64, i64], fun _ => true, fun x => .d .bo (tst (Right x.1 x.2.1 x.2.2.1))⟩
def cloneSp : Sp := ⟨[byl], fun _ => true, fun x => .own 0 by8 x.1⟩
def keySp : Sp := ⟨[byl, u64, i64], fun _ => true, fun x => .tup [.own 0 by8 (key x.1 x.2.1 x.2.2.1).1, .d i64 (key x.1 x.2.1 x.2.2.1).2]⟩
def splitSp : Sp := ⟨[byl], fun _ => true, fun x => .tup [.own 0 by8 (split x.1).1, .d u64 (split x.1).2.1, .d i64 (split x.1).2.2.1, .d i64 (split x.1).2.2.2]⟩
def cmpBSp : Sp := ⟨[byl, byl], fun _ => true, fun x => .d i64 (cmpB x.1 x.2.1)⟩
def cmpI (a b : Int) : Int := if a < b then -1 else if a > b then 1 else 0
def cmpUSp : Sp := ⟨[u64, u64], fun _ => true, fun x => .d i64 (cmpI x.1 x.2.1)⟩
def cmpISp : Sp := ⟨[i64, i64], fun _ => true, fun x => .d i64 (cmpI x.1 x.2.1)⟩
def nanUSp : Sp := ⟨[u64], fun _ => true, fun x => .d .bo false⟩
def nanISp : Sp := ⟨[i64], fun _ => true, fun x => .d .bo false⟩
def compareSp : Sp := ⟨[byl, byl], fun _ => true, fun x => .tup [.d i64 (compareK x.1 x.2.1).1, .d i64 (compareK x.1 x.2.1).2]⟩
def equalSp : Sp := ⟨[byl, byl], fun _ => true, fun x => .d .bo (tst ((x.1 : List Int) = x.2.1))⟩
/- the document's -/
def rfixedSp : Sp := fixedSp
def runfixedPre (l : List Int) (a m : Int) : Bool := tst (0 ≤ a) && tst (0 ≤ m) && tst (m ≤ 8) && tst (a + m ≤ l.length)
def runfixedSp : Sp := ⟨[byl, i64, i64], fun x => runfixedPre x.1 x.2.1 x.2.2.1, fun x => .d u64 (leVal ((List.drop (Int.toNat x.2.1) x.1).take (Int.toNat x.2.2.1)))⟩
def rsplitSp : Sp := ⟨[byl], fun _ => true, fun x => .tup [.d byl (split x.1).1, .d u64 (split x.1).2.1, .d i64 (split x.1).2.2.1, .d i64 (split x.1).2.2.2]⟩
def isSp : Sp := ⟨[byl], fun _ => true, fun x => .d .bo (tst ((split x.1).2.2.2 = 0))⟩
def orderSp : Sp := ⟨[byl, byl], fun _ => true, fun x => .d i64 (order x.1 x.2.1)⟩
end
end Go.Proofs.Ytmpmmfbgdpfnpaa.Ev
/- Entries: held against one another, copied, rising. -/
namespace Go.Proofs.Ytmpmmfbgdpfnpaa.Ev
open Go Go.RowKit
set_option linter.unusedVariables false
noncomputable section
def hbytesSp : Sp := ⟨[byl, byl], fun _ => true, fun x => vT ((x.1 : List Int) = x.2.1)⟩
def kvsSp : Sp := ⟨[kvl, kvl], fun _ => true, fun x => vT ((x.1 : List KV) = x.2.1)⟩
def copyPre (l : List KV) : Bool := tst (l.length ≤ 1048576)
def copySp : Sp := ⟨[kvl], fun x => copyPre x.1, fun x => .own 0 kv x.1⟩
def total (l : List KV) : Nat := (l.map fun x => x.1.length + x.2.1.length).foldr (· + ·) 0
def aheadOK : Option (List Int) → List Int → Bool
  | none, _ => true
  | some q, k => decide (order q k < 0)
def risesFrom : Option (List Int) → List KV → Bool
  | _, [] => true
  | p, x :: l => decide ((split x.1).2.2.2 = 0) && (aheadOK p x.1 && risesFrom (some x.1) l)
theorem risesFrom_cons (p : Option (List Int)) (x : KV) (l : List KV) : risesFrom p (x :: l) = (decide ((split x.1).2.2.2 = 0) && (aheadOK p x.1 && risesFrom (some x.1) l)) := by cases p <;> rfl
def Rises (l : List KV) : Prop := risesFrom none l = true
instance (l : List KV) : Decidable (Rises l) := inferInstanceAs (Decidable (_ = _))
def risesSp : Sp := ⟨[kvl], fun _ => true, fun x => vT (Rises x.1)⟩
def behindSp : Sp := ⟨[byl, byl], fun _ => true, fun x => vT ((split x.2.1).2.2.2 = 0 ∧ (split x.1).2.2.2 = 0 ∧ order x.2.1 x.1 < 0)⟩
def few7 (l : List KV) : Prop := l.length ≤ 60 ∧ total l ≤ 5000
instance (l : List KV) : Decidable (few7 l) := inferInstanceAs (Decidable (_ ∧ _))
def fewSp : Sp := ⟨[kvl], fun _ => true, fun x => vT (few7 x.1)⟩
end
theorem getD_at {α : Type} {l : List α} {i : Nat} {d : α} (h : i < l.length) : l.getD i d = l[i] := by rw [List.getD_eq_getElem?_getD, List.getElem?_eq_getElem h]; rfl
theorem drop_at {α : Type} {l : List α} {i : Nat} {d : α} (h : i < l.length) : l.drop i = l.getD i d :: l.drop (i + 1) := by rw [getD_at h]; exact List.drop_eq_getElem_cons h
theorem take_at {α : Type} {l : List α} {i : Nat} {d : α} (h : i < l.length) : l.take (i + 1) = l.take i ++ [l.getD i d] := by rw [getD_at h]; exact List.take_succ_eq_append_getElem h
theorem total_cons (x : KV) (l : List KV) : total (x :: l) = x.1.length + x.2.1.length + total l := rfl
theorem fits_kvl {l : List KV} : Fits kvl l ↔ l.length ≤ 140737488355328 ∧ ∀ x ∈ l, Fits kv x := Iff.rfl
theorem getD_kv {l : List KV} {i : Nat} (h : Fits kvl l) (hi : i < l.length) : ((l.getD i kvd).1.length ≤ 140737488355328 ∧ Bytes (l.getD i kvd).1) ∧ (l.getD i kvd).2.1.length ≤ 140737488355328 ∧ Bytes (l.getD i kvd).2.1 := by
  rw [getD_at hi]
  have := h.2 _ (List.getElem_mem hi)
  have h1 : Fits byl (l[i]).1 := this.1
  have h2 : Fits byl (l[i]).2.1 := this.2.1
  exact ⟨⟨h1.1, fun x hx => by have := fits_u8.1 (h1.2 x hx); omega⟩, h2.1, fun x hx => by have := fits_u8.1 (h2.2 x hx); omega⟩
theorem getD_fits {t : Ty} {l : List t.den} {i : Nat} {d : t.den} (h : Fits (.li t) l) (hi : i < l.length) : Fits t (l.getD i d) := by rw [getD_at hi]; exact h.2 _ (List.getElem_mem hi)
theorem mxI {a b : Int} {h : Decidable True} : (@ite _ True h (if b > a then b else a) (if b < a then b else a)) = max a b := by
  rw [if_pos trivial]
  split <;> omega
theorem mnI {a b : Int} {h : Decidable (false = true)} : (@ite _ (false = true) h (if b > a then b else a) (if b < a then b else a)) = min a b := by
  rw [if_neg Bool.false_ne_true]
  split <;> omega
end Go.Proofs.Ytmpmmfbgdpfnpaa.Ev
/- Entries that rise. -/
namespace Go.Proofs.Ytmpmmfbgdpfnpaa.Ev
open Go Go.RowKit
set_option linter.unusedVariables false
set_option linter.unusedSimpArgs false
theorem ord_ltt {a b c : List Int} (h1 : order a b ≤ 0) (h2 : order b c < 0) : order a c < 0 := by
  have h6 := order_trans h1 (by omega : order b c ≤ 0)
  rcases order_cases a c with h | h | h
  · omega
  · exfalso
    have h7 := order_neg a c
    have h8 := order_trans (a := c) (b := a) (c := b) (by omega) h1
    have h9 := order_neg b c
    omega
  · omega
/-- entries that rise, said of any two -/
theorem rises_iff (l : List KV) : Rises l ↔ (∀ x ∈ l, (split x.1).2.2.2 = 0) ∧ l.Pairwise (fun x y => order x.1 y.1 < 0) := by
  have key : ∀ (l : List KV) (p : Option (List Int)), risesFrom p l = true ↔ (∀ x ∈ l, (split x.1).2.2.2 = 0) ∧ (∀ q, p = some q → ∀ x ∈ l, order q x.1 < 0) ∧ l.Pairwise (fun x y => order x.1 y.1 < 0) := by
    intro l
    induction l with
    | nil => intro p; simp [risesFrom]
    | cons x l ih =>
      intro p
      rw [risesFrom_cons, Bool.and_eq_true, Bool.and_eq_true, ih, List.pairwise_cons, decide_eq_true_eq]
      constructor
      · rintro ⟨h1, h2, h3, h4, h5⟩
        refine ⟨fun y hy => ?_, fun q hq y hy => ?_, fun y hy => h4 _ rfl y hy, h5⟩
        · rcases List.mem_cons.1 hy with rfl | hy
          · exact h1
          · exact h3 y hy
        · subst hq
          have h2 : order q x.1 < 0 := of_decide_eq_true h2
          rcases List.mem_cons.1 hy with rfl | hy
          · exact h2
          · exact ord_ltt (Int.le_of_lt h2) (h4 _ rfl y hy)
      · rintro ⟨h1, h2, h3, h4⟩
        refine ⟨h1 x List.mem_cons_self, ?_, fun y hy => h1 y (List.mem_cons_of_mem _ hy), fun q hq y hy => ?_, h4⟩
        · cases p with
          | none => rfl
          | some q => exact decide_eq_true (h2 q rfl x List.mem_cons_self)
        · cases hq; exact h3 y hy
  unfold Rises
  rw [key]
  constructor
  · rintro ⟨h1, _, h3⟩; exact ⟨h1, h3⟩
  · rintro ⟨h1, h3⟩; exact ⟨h1, (fun q hq => by cases hq), h3⟩
theorem Rises.sub {l m : List KV} (h : Rises l) (hs : m.Sublist l) : Rises m := by
  rw [rises_iff] at h ⊢
  exact ⟨fun x hx => h.1 x (hs.subset hx), h.2.sublist hs⟩
/-- rising is of the keys alone -/
theorem rises_keys {l m : List KV} (h : Rises l) (hk : m.map (fun x => x.1) = l.map (fun x => x.1)) : Rises m := by
  rw [rises_iff] at h ⊢
  have h2 : (l.map (fun x => x.1)).Pairwise (fun x y => order x y < 0) := List.pairwise_map.2 h.2
  rw [← hk] at h2
  refine ⟨fun x hx => ?_, List.pairwise_map.1 h2⟩
  have : x.1 ∈ m.map (fun x => x.1) := List.mem_map_of_mem hx
  rw [hk] at this
  obtain ⟨y, hy, e⟩ := List.mem_map.1 this
  rw [← e]; exact h.1 y hy
end Go.Proofs.Ytmpmmfbgdpfnpaa.Ev
/- Lists merged: what they are in order, and a heap of lists. -/
namespace Go.Proofs.Ytmpmmfbgdpfnpaa.Ev
open Go Go.RowKit
set_option linter.unusedVariables false
set_option linter.unusedSimpArgs false
def insK (x : KV) : List KV → List KV
  | [] => [x]
  | y :: l => if order x.1 y.1 ≤ 0 then x :: y :: l else y :: insK x l
def sortK : List KV → List KV
  | [] => []
  | x :: l => insK x (sortK l)
theorem insK_perm (x : KV) : ∀ l, (insK x l).Perm (x :: l)
  | [] => .refl _
  | y :: l => by
    rw [insK]
    split
    · exact .refl _
    · exact ((insK_perm x l).cons y).trans (.swap ..)
theorem sortK_perm : ∀ l, (sortK l).Perm l
  | [] => .refl _
  | x :: l => (insK_perm x _).trans ((sortK_perm l).cons x)
theorem ord_total {a b : List Int} (h : ¬ order a b ≤ 0) : order b a ≤ 0 := by have := order_neg a b; omega
theorem insK_sorted (x : KV) : ∀ {l : List KV}, l.Pairwise (fun a b => order a.1 b.1 ≤ 0) → (insK x l).Pairwise (fun a b => order a.1 b.1 ≤ 0)
  | [], _ => List.pairwise_singleton _ _
  | y :: l, h => by
    rw [List.pairwise_cons] at h
    rw [insK]
    split
    · rename_i hxy
      refine List.pairwise_cons.2 ⟨fun z hz => ?_, List.pairwise_cons.2 h⟩
      rcases List.mem_cons.1 hz with rfl | hz
      · exact hxy
      · exact order_trans hxy (h.1 z hz)
    · rename_i hxy
      refine List.pairwise_cons.2 ⟨fun z hz => ?_, insK_sorted x h.2⟩
      rcases List.mem_cons.1 ((insK_perm x l).mem_iff.1 hz) with rfl | hz
      · exact ord_total hxy
      · exact h.1 z hz
theorem sortK_sorted : ∀ l, (sortK l).Pairwise (fun a b => order a.1 b.1 ≤ 0)
  | [] => List.Pairwise.nil
  | x :: l => insK_sorted x (sortK_sorted l)
theorem sorted_uniq : ∀ {s t : List KV}, s.Perm t → s.Pairwise (fun a b => order a.1 b.1 ≤ 0) → t.Pairwise (fun a b => order a.1 b.1 < 0) → s = t
  | s, [], h, _, _ => h.eq_nil
  | [], x :: t, h, _, _ => absurd h.length_eq (by simp)
  | y :: s, x :: t, h, hs, ht => by
    rw [List.pairwise_cons] at hs ht
    have hy : y = x := by
      rcases List.mem_cons.1 (h.mem_iff.1 (List.mem_cons_self (a := y) (l := s))) with e | e
      · exact e
      · exfalso
        have h1 := ht.1 y e
        rcases List.mem_cons.1 (h.mem_iff.2 (List.mem_cons_self (a := x) (l := t))) with e2 | e2
        · subst e2
          have := order_neg x.1 x.1; omega
        · have h2 := hs.1 x e2
          have := order_neg x.1 y.1; omega
    subst hy
    rw [sorted_uniq ((List.perm_cons y).1 h) hs.2 ht.2]
def okK (x : KV) : Prop := (split x.1).2.2.2 = 0 ∧ Bytes x.1
def mergeS (lists : List (List KV)) : List KV × Bool := if Rises (sortK lists.flatten) then (sortK lists.flatten, true) else ([], false)
theorem merge_done {lists : List (List KV)} {out : List KV} (hv : ∀ x ∈ lists.flatten, okK x) (hp : out.Perm lists.flatten) (hs : out.Pairwise (fun a b => order a.1 b.1 < 0)) : mergeS lists = (out, true) := by
  have e : sortK lists.flatten = out := sorted_uniq ((sortK_perm _).trans hp.symm) (sortK_sorted _) hs
  unfold mergeS
  rw [e, if_pos ((rises_iff out).2 ⟨fun x hx => (hv x (hp.mem_iff.1 hx)).1, hs⟩)]
theorem merge_dup {lists : List (List KV)} {out rest : List KV} {x y : KV} (hp : (out ++ x :: rest).Perm lists.flatten) (hy : y ∈ out) (h : order y.1 x.1 = 0) : mergeS lists = ([], false) := by
  unfold mergeS
  rw [if_neg]
  intro hr
  have h1 := ((rises_iff _).1 hr).2
  have h2 : (sortK lists.flatten).Pairwise (fun a b => order a.1 b.1 ≠ 0) := h1.imp (fun h => by omega)
  have h3 : (out ++ x :: rest).Pairwise (fun a b => order a.1 b.1 ≠ 0) := (((sortK_perm _).trans hp.symm).pairwise_iff (fun {a b} h => by have := order_neg a.1 b.1; omega)).1 h2
  exact (List.pairwise_append.1 h3).2.2 y hy x List.mem_cons_self h
/-! ### heaps -/
def hd (l : List KV) : List Int := (l.getD 0 kvd).1
def swp (q : List (List KV)) (i j : Nat) : List (List KV) := (q.set i (q.getD j [])).set j (q.getD i [])
theorem swp_len (q : List (List KV)) (i j : Nat) : (swp q i j).length = q.length := by simp [swp]
theorem swp_perm {q : List (List KV)} {i j : Nat} (hi : i < q.length) (hj : j < q.length) : (swp q i j).Perm q := by
  unfold swp
  rw [getD_at hi, getD_at hj]
  exact List.set_set_perm hi hj
theorem swp_get {q : List (List KV)} {i j : Nat} (hi : i < q.length) (hj : j < q.length) (k : Nat) : (swp q i j).getD k [] = if k = j then q.getD i [] else if k = i then q.getD j [] else q.getD k [] := by
  unfold swp
  simp only [List.getD_eq_getElem?_getD, List.getElem?_set, List.length_set]
  by_cases h1 : k = j
  · subst h1; simp [hj]
  · rw [if_neg (fun e => h1 e.symm), if_neg h1]
    by_cases h2 : k = i
    · subst h2; simp [hi]
    · rw [if_neg (fun e => h2 e.symm), if_neg h2]
theorem swp_drop {q : List (List KV)} {i j n : Nat} (hi : i < n) (hj : j < n) : (swp q i j).drop n = q.drop n := by
  unfold swp
  rw [List.drop_set_of_lt hj, List.drop_set_of_lt hi]
def leq (q : List (List KV)) (i j : Nat) : Prop := order (hd (q.getD i [])) (hd (q.getD j [])) ≤ 0
def lss (q : List (List KV)) (i j : Nat) : Prop := order (hd (q.getD i [])) (hd (q.getD j [])) < 0
theorem leq_trans {q : List (List KV)} {i j k : Nat} (h1 : leq q i j) (h2 : leq q j k) : leq q i k := order_trans h1 h2
theorem leq_of {q : List (List KV)} {i j : Nat} (h : ¬ lss q i j) : leq q j i := by
  unfold lss at h; unfold leq
  have := order_neg (hd (q.getD i [])) (hd (q.getD j [])); omega
theorem leq_refl (q : List (List KV)) (i : Nat) : leq q i i := by
  unfold leq
  have := order_neg (hd (q.getD i [])) (hd (q.getD i [])); omega
/-- a heap of n lists from lo on, but for what lies below x -/
structure HeapX (q : List (List KV)) (n lo x : Nat) : Prop where
  ok : ∀ j, 0 < j → j < n → lo ≤ (j - 1) / 2 → (j - 1) / 2 ≠ x → leq q ((j - 1) / 2) j
  over : ∀ j, 0 < j → j < n → (j - 1) / 2 = x → lo < x → lo ≤ (x - 1) / 2 → leq q ((x - 1) / 2) j
theorem HeapX.step {q : List (List KV)} {n lo x j : Nat} (h : HeapX q n lo x) (hn : n ≤ q.length) (hlo : lo ≤ x) (hj : j < n) (hjx : (j - 1) / 2 = x ∧ 0 < j) (hmin : ∀ k, 0 < k → k < n → (k - 1) / 2 = x → leq q j k) (hlt : lss q j x) : HeapX (swp q x j) n lo j := by
  have hx : x < n := by omega
  have hne : x ≠ j := by omega
  have g := fun k => swp_get (i := x) (j := j) (by omega : x < q.length) (by omega : j < q.length) k
  have gx : (swp q x j).getD x [] = q.getD j [] := by rw [g, if_neg hne, if_pos rfl]
  have gj : (swp q x j).getD j [] = q.getD x [] := by rw [g, if_pos rfl]
  have go : ∀ k, k ≠ x → k ≠ j → (swp q x j).getD k [] = q.getD k [] := fun k h1 h2 => by rw [g, if_neg h2, if_neg h1]
  constructor
  · intro k k0 kn kl kx
    unfold leq
    by_cases e1 : k = x
    · subst e1
      rw [gx, go _ (by omega) kx]
      exact h.over j hjx.2 hj hjx.1 (by omega) kl
    · by_cases e2 : k = j
      · subst e2
        rw [gj, hjx.1, gx]
        exact Int.le_of_lt hlt
      · rw [go k e1 e2]
        by_cases e3 : (k - 1) / 2 = x
        · rw [e3, gx]
          exact hmin k k0 kn e3
        · rw [go _ e3 kx]
          exact h.ok k k0 kn kl e3
  · intro k k0 kn kj hl hl2
    unfold leq
    rw [hjx.1, gx, go k (by omega) (by omega)]
    have := h.ok k k0 kn (by omega) (by omega)
    rw [kj] at this
    exact this
theorem HeapX.stop {q : List (List KV)} {n lo x : Nat} (h : HeapX q n lo x) (hall : ∀ k, 0 < k → k < n → (k - 1) / 2 = x → leq q x k) : HeapX q n lo n := by
  constructor
  · intro j j0 jn jl _
    by_cases e : (j - 1) / 2 = x
    · rw [e]; exact hall j j0 jn e
    · exact h.ok j j0 jn jl e
  · intro j j0 jn je; omega
theorem HeapX.lower {q : List (List KV)} {n x : Nat} (h : HeapX q n (x + 1) n) : HeapX q n x x := by
  constructor
  · intro j j0 jn jl je; exact h.ok j j0 jn (by omega) (by omega)
  · intro j _ _ _ hl; omega
theorem HeapX.min {q : List (List KV)} {n : Nat} (h : HeapX q n 0 n) : ∀ i, i < n → leq q 0 i := by
  intro i
  induction i using Nat.strongRecOn with
  | _ i ih =>
    intro hi
    by_cases h0 : i = 0
    · subst h0; exact leq_refl q 0
    · exact leq_trans (ih ((i - 1) / 2) (by omega) (by omega)) (h.ok i (by omega) hi (by omega) (by omega))
theorem HeapX.pop {q : List (List KV)} {n : Nat} (h : HeapX q (n + 1) 0 (n + 1)) (hn : n + 1 ≤ q.length) : HeapX (swp q 0 n) n 0 0 := by
  constructor
  · intro j j0 jn _ je
    unfold leq
    rw [swp_get (by omega) (by omega), if_neg (by omega), if_neg je, swp_get (by omega) (by omega), if_neg (by omega), if_neg (by omega)]
    exact h.ok j j0 (by omega) (by omega) (by omega)
  · intro j _ _ _ hl; omega
/-- a heap, but for x, that may be less than what lies above it -/
structure UpX (q : List (List KV)) (n x : Nat) : Prop where
  ok : ∀ j, 0 < j → j < n → j ≠ x → leq q ((j - 1) / 2) j
  over : ∀ j, 0 < j → j < n → (j - 1) / 2 = x → 0 < x → leq q ((x - 1) / 2) j
theorem UpX.step {q : List (List KV)} {n x : Nat} (h : UpX q n x) (hn : n ≤ q.length) (h0 : 0 < x) (hx : x < n) (hlt : lss q x ((x - 1) / 2)) : UpX (swp q ((x - 1) / 2) x) n ((x - 1) / 2) := by
  have hne : (x - 1) / 2 ≠ x := by omega
  have hpn : (x - 1) / 2 < n := by omega
  generalize hp : (x - 1) / 2 = p at *
  have g := fun k => swp_get (i := p) (j := x) (by omega : p < q.length) (by omega : x < q.length) k
  have gp : (swp q p x).getD p [] = q.getD x [] := by rw [g, if_neg hne, if_pos rfl]
  have gx : (swp q p x).getD x [] = q.getD p [] := by rw [g, if_pos rfl]
  have go : ∀ k, k ≠ p → k ≠ x → (swp q p x).getD k [] = q.getD k [] := fun k h1 h2 => by rw [g, if_neg h2, if_neg h1]
  constructor
  · intro j j0 jn jp
    unfold leq
    by_cases e1 : j = x
    · subst e1
      rw [hp, gp, gx]
      exact Int.le_of_lt hlt
    · rw [go j jp e1]
      by_cases e2 : (j - 1) / 2 = p
      · rw [e2, gp]
        have := h.ok j j0 jn e1
        rw [e2] at this
        exact order_trans (Int.le_of_lt hlt) this
      · by_cases e3 : (j - 1) / 2 = x
        · rw [e3, gx]
          have := h.over j j0 jn e3 h0
          rw [hp] at this
          exact this
        · rw [go _ e2 e3]
          exact h.ok j j0 jn e1
  · intro j j0 jn jp hp0
    unfold leq
    have hup := h.ok p hp0 hpn hne
    rw [go ((p - 1) / 2) (by omega) (by omega)]
    by_cases e1 : j = x
    · subst e1
      rw [gx]; exact hup
    · rw [go j (by omega) e1]
      have := h.ok j j0 jn e1
      rw [jp] at this
      exact order_trans hup this
theorem UpX.stop {q : List (List KV)} {n x : Nat} (h : UpX q n x) (hs : x = 0 ∨ leq q ((x - 1) / 2) x) : HeapX q n 0 n := by
  constructor
  · intro j j0 jn _ _
    by_cases e : j = x
    · subst e
      rcases hs with hs | hs
      · omega
      · exact hs
    · exact h.ok j j0 jn e
  · intro j _ jn je; omega
theorem HeapX.same {q r : List (List KV)} {n lo x : Nat} (h : HeapX q n lo x) (hx : n ≤ x) (e : ∀ k, k < n → r.getD k [] = q.getD k []) : HeapX r n lo x := by
  constructor
  · intro j j0 jn jl je
    unfold leq
    rw [e j jn, e _ (by omega)]
    exact h.ok j j0 jn jl je
  · intro j _ jn je; omega
theorem HeapX.push {q r : List (List KV)} {n : Nat} (h : HeapX q n 0 n) (e : ∀ k, k < n → r.getD k [] = q.getD k []) : UpX r (n + 1) n := by
  constructor
  · intro j j0 jn je
    unfold leq
    rw [e j (by omega), e _ (by omega)]
    exact h.ok j j0 (by omega) (by omega) (by omega)
  · intro j _ jn je; omega
theorem heap_one {q : List (List KV)} {n : Nat} (h : n ≤ 1) : HeapX q n 0 n := ⟨fun j j0 jn => by omega, fun j j0 jn => by omega⟩
theorem heap_half {q : List (List KV)} {n lo : Nat} (h : n ≤ 2 * lo + 1) : HeapX q n lo n := ⟨fun j j0 jn jl => by omega, fun j j0 jn je => by omega⟩
theorem take_perm {α : Type} {q r : List α} {n : Nat} (h : r.Perm q) (hd : r.drop n = q.drop n) : (r.take n).Perm (q.take n) := by
  rw [← List.take_append_drop n r, ← List.take_append_drop n q, hd] at h
  exact (List.perm_append_right_iff _).1 h
end Go.Proofs.Ytmpmmfbgdpfnpaa.Ev
/- Lists merged by a heap: the plain law of one step. -/
namespace Go.Proofs.Ytmpmmfbgdpfnpaa.Ev
open Go Go.RowKit
set_option linter.unusedVariables false
set_option linter.unusedSimpArgs false
abbrev ltK (a b : KV) : Prop := order a.1 b.1 < 0
theorem ord_ltle {a b c : List Int} (h1 : order a b < 0) (h2 : order b c ≤ 0) : order a c < 0 := by
  have h3 := order_trans (Int.le_of_lt h1) h2
  rcases order_cases a c with h | h | h
  · omega
  · exfalso
    have h4 := order_neg a c
    have h5 : order c a ≤ 0 := by omega
    have h6 := order_trans h2 h5
    have h7 := order_neg a b
    omega
  · omega
structure MInv (L out : List KV) (xs : List (List KV)) (w : Nat) : Prop where
  wl : w ≤ xs.length
  ne : ∀ y ∈ xs, 0 < y.length
  ok : ∀ y ∈ xs, ∀ z ∈ y, okK z
  ris : ∀ y ∈ xs, y.Pairwise ltK
  heap : HeapX xs w 0 w
  perm : (out ++ (xs.take w).flatten).Perm L
  srt : out.Pairwise ltK
  lo : ∀ a ∈ out, ∀ b ∈ (xs.take w).flatten, order a.1 b.1 ≤ 0
theorem swp_top {xs : List (List KV)} {n : Nat} (h : n < xs.length) : (swp xs 0 n).getD n [] = xs.getD 0 [] := by
  rw [swp_get (by omega) h, if_pos rfl]
theorem popped {xs ys : List (List KV)} {n : Nat} (hn : n < xs.length) (hp : ys.Perm (swp xs 0 n)) (hd : ys.drop n = (swp xs 0 n).drop n) :
    ys.length = xs.length ∧ ys.getD n [] = xs.getD 0 [] ∧ (ys.take n ++ [xs.getD 0 []]).Perm (xs.take (n + 1)) ∧ ys.drop (n + 1) = xs.drop (n + 1) := by
  have hl : ys.length = xs.length := by rw [hp.length_eq, swp_len]
  have e : ys.getD n [] = xs.getD 0 [] := by
    rw [← swp_top hn]
    have := congrArg (fun l : List (List KV) => l.getD 0 []) hd
    simpa [List.getD_eq_getElem?_getD, List.getElem?_drop] using this
  have hd2 : ys.drop (n + 1) = xs.drop (n + 1) := by
    have := congrArg (List.drop 1) hd
    rw [List.drop_drop, List.drop_drop] at this
    rw [this, swp_drop (by omega) (by omega)]
  refine ⟨hl, e, ?_, hd2⟩
  rw [← e, ← take_at (by omega)]
  exact take_perm (hp.trans (swp_perm (by omega) hn)) hd2
theorem flat_perm {xs ys : List (List KV)} (h : xs.Perm ys) : xs.flatten.Perm ys.flatten := h.flatten
theorem hd_le {y : List KV} (h : y.Pairwise ltK) {b : KV} (hb : b ∈ y) : order (hd y) b.1 ≤ 0 := by
  cases y with
  | nil => cases hb
  | cons z y =>
    rcases List.mem_cons.1 hb with rfl | hb
    · show order b.1 b.1 ≤ 0
      have := order_neg b.1 b.1; omega
    · exact Int.le_of_lt ((List.pairwise_cons.1 h).1 b hb)
theorem MInv.top {L out : List KV} {xs : List (List KV)} {n : Nat} (h : MInv L out xs (n + 1)) {b : KV} (hb : b ∈ (xs.take (n + 1)).flatten) : order (hd (xs.getD 0 [])) b.1 ≤ 0 := by
  obtain ⟨y, hy, hby⟩ := List.mem_flatten.1 hb
  obtain ⟨i, hi, rfl⟩ := List.getElem_of_mem hy
  rw [List.length_take] at hi
  have hi2 : i < xs.length := by omega
  have h1 := h.heap.min i (by omega)
  unfold leq at h1
  rw [List.getElem_take] at hby
  have e : xs.getD i [] = xs[i] := getD_at hi2
  rw [e] at h1
  exact order_trans h1 (hd_le (h.ris _ (List.getElem_mem hi2)) hby)
/-- the least of all is taken: it is there twice, or it goes behind the others -/
theorem MInv.dup {L out : List KV} {xs : List (List KV)} {n : Nat} (h : MInv L out xs (n + 1)) {a : KV} (ha : a ∈ out) (e : order a.1 (hd (xs.getD 0 [])) = 0) : ∃ rest x, (out ++ x :: rest).Perm L ∧ order a.1 x.1 = 0 := by
  have hw := h.wl
  have hm : xs.getD 0 [] ∈ xs.take (n + 1) := by
    rw [getD_at (by omega), List.mem_take_iff_getElem]
    exact ⟨0, by omega, rfl⟩
  have hx : xs.getD 0 [] ∈ xs := List.mem_of_mem_take hm
  have h0 := h.ne _ hx
  obtain ⟨z, t, hz⟩ : ∃ z t, xs.getD 0 [] = z :: t := by
    cases hg : xs.getD 0 [] with
    | nil => rw [hg] at h0; simp at h0
    | cons z t => exact ⟨z, t, rfl⟩
  have hzm : z ∈ (xs.take (n + 1)).flatten := List.mem_flatten.2 ⟨_, hm, by rw [hz]; exact List.mem_cons_self⟩
  obtain ⟨s, t2, hs⟩ := List.append_of_mem hzm
  refine ⟨s ++ t2, z, ?_, ?_⟩
  · refine List.Perm.trans (List.Perm.append_left out ?_) h.perm
    rw [hs]
    exact List.perm_middle.symm
  · rw [hz] at e; exact e
theorem MInv.next {L out : List KV} {xs ys zs : List (List KV)} {n w : Nat} {z : KV} {rest : List KV} (h : MInv L out xs (n + 1)) (hz : xs.getD 0 [] = z :: rest) (hnd : ∀ a ∈ out, order a.1 z.1 ≠ 0)
    (hp : (ys.take n ++ [xs.getD 0 []]).Perm (xs.take (n + 1))) (hall : ∀ y ∈ zs, y ∈ xs ∨ (y = rest ∧ rest ≠ [])) (hwl : w ≤ zs.length) (hheap : HeapX zs w 0 w) (hfl : (zs.take w).flatten.Perm ((ys.take n).flatten ++ rest)) : MInv L (out ++ [z]) zs w := by
  have hw := h.wl
  have hm : xs.getD 0 [] ∈ xs := by rw [getD_at (by omega)]; exact List.getElem_mem _
  have hfp : ((ys.take n).flatten ++ (z :: rest)).Perm (xs.take (n + 1)).flatten := by
    have := flat_perm hp
    rw [List.flatten_append, hz] at this
    simpa using this
  have hzr := h.ris _ hm
  rw [hz, List.pairwise_cons] at hzr
  have hsub : ∀ b ∈ (zs.take w).flatten, b ∈ (xs.take (n + 1)).flatten := fun b hb => by
    rw [← hfp.mem_iff]
    rcases List.mem_append.1 (hfl.mem_iff.1 hb) with hb | hb
    · exact List.mem_append_left _ hb
    · exact List.mem_append_right _ (List.mem_cons_of_mem _ hb)
  have hzm : z ∈ (xs.take (n + 1)).flatten := by rw [← hfp.mem_iff]; exact List.mem_append_right _ List.mem_cons_self
  have htop : hd (xs.getD 0 []) = z.1 := by rw [hz]; rfl
  constructor
  · exact hwl
  · intro y hy
    rcases hall y hy with hy | ⟨rfl, hy⟩
    · exact h.ne y hy
    · exact List.length_pos_iff.2 hy
  · intro y hy b hb
    rcases hall y hy with hy | ⟨rfl, hy⟩
    · exact h.ok y hy b hb
    · exact h.ok _ hm b (by rw [hz]; exact List.mem_cons_of_mem _ hb)
  · intro y hy
    rcases hall y hy with hy | ⟨rfl, hy⟩
    · exact h.ris y hy
    · exact hzr.2
  · exact hheap
  · refine List.Perm.trans ?_ h.perm
    rw [List.append_assoc]
    refine List.Perm.append_left out (List.Perm.trans ?_ hfp)
    refine List.Perm.trans (List.Perm.cons z hfl) ?_
    exact List.perm_middle.symm
  · rw [List.pairwise_append]
    refine ⟨h.srt, List.pairwise_singleton _ _, fun a ha b hb => ?_⟩
    rw [List.mem_singleton] at hb; subst hb
    have h1 := h.lo a ha b hzm
    have h2 := hnd a ha
    show order a.1 b.1 < 0
    omega
  · intro a ha b hb
    rcases List.mem_append.1 ha with ha | ha
    · exact h.lo a ha b (hsub b hb)
    · rw [List.mem_singleton] at ha; subst ha
      have := h.top (hsub b hb)
      rw [htop] at this
      exact this
/-- only the last one taken counts -/
theorem MInv.apart {L out : List KV} {xs : List (List KV)} {n : Nat} (h : MInv L out xs (n + 1)) {z : KV} (hz : z ∈ (xs.take (n + 1)).flatten) (hl : out = [] ∨ order (out.getD (out.length - 1) kvd).1 z.1 ≠ 0) : ∀ a ∈ out, order a.1 z.1 ≠ 0 := by
  intro a ha
  rcases hl with rfl | hl
  · cases ha
  have hne : out ≠ [] := fun e => by subst e; cases ha
  have hlen : 0 < out.length := List.length_pos_iff.2 hne
  obtain ⟨i, hi, rfl⟩ := List.getElem_of_mem ha
  rw [getD_at (by omega)] at hl
  have hlast : order (out[out.length - 1]).1 z.1 ≤ 0 := h.lo _ (List.getElem_mem _) z hz
  by_cases e : i = out.length - 1
  · subst e; exact hl
  · have h1 := List.pairwise_iff_getElem.1 h.srt i (out.length - 1) hi (by omega) (by omega)
    have := ord_ltle h1 hlast
    omega
end Go.Proofs.Ytmpmmfbgdpfnpaa.Ev
/- Numbers laid down, seven bits a byte: by the program and by the document. -/
namespace Go.Proofs.Ytmpmmfbgdpfnpaa.Ev
open Go Go.RowKit
set_option linter.unusedVariables false
set_option maxRecDepth 100000
theorem wrap_or {a : Int} (h : 0 ≤ a) : bits .or .u8 (IntKind.u8.wrap a) 128 = ((a.toNat % 128 + 128 : Nat) : Int) := by
  rw [wrapU8, or128 (by omega)]; omega
theorem shr7 {a : Int} (h : 0 ≤ a) : a.fdiv (2 ^ min (Int.toNat 7) IntKind.u64.bits) = a / 128 := Int.fdiv_eq_ediv_of_nonneg _ (by decide)
theorem put_big {a : Int} (h : a ≥ 128) : putS a.toNat = ((a.toNat % 128 + 128 : Nat) : Int) :: putS (a / 128).toNat := by
  rw [putS, dif_neg (by omega)]
  have : a.toNat / 128 = (a / 128).toNat := by omega
  rw [this]
theorem put_small {a : Int} (h0 : 0 ≤ a) (h : ¬ a ≥ 128) : putS a.toNat = [a] := by
  rw [putS, dif_pos (by omega), Int.toNat_of_nonneg h0]
end Go.Proofs.Ytmpmmfbgdpfnpaa.Ev
/- Numbers of fixed width, laid down by the program. -/
namespace Go.Proofs.Ytmpmmfbgdpfnpaa.Ev
open Go Go.RowKit
set_option linter.unusedVariables false
set_option maxRecDepth 100000
theorem wrapI64 {n : Int} (h : -9223372036854775808 ≤ n) (h' : n < 9223372036854775808) : IntKind.i64.wrap n = n := by
  simp only [IntKind.wrap, IntKind.bits, IntKind.signed, show (2 : Int) ^ 64 = 18446744073709551616 from by decide, show (2 : Int) ^ (64 - 1) = 9223372036854775808 from by decide, Bool.true_and, decide_eq_true_eq]
  by_cases c : n % 18446744073709551616 ≥ 9223372036854775808
  · rw [if_pos c]; omega
  · rw [if_neg c]; omega
theorem shr8 {a : Int} {i : Nat} (hi : i ≤ 8) : a.fdiv (2 ^ min (IntKind.i64.wrap (8 * (i : Int))).toNat IntKind.u64.bits) = a / ((256 ^ i : Nat) : Int) := by
  rw [wrapI64 (by omega) (by omega)]
  have e1 : min (8 * (i : Int)).toNat IntKind.u64.bits = 8 * i := by simp only [IntKind.bits]; omega
  rw [e1]
  have e2 : (2 : Int) ^ (8 * i) = ((256 ^ i : Nat) : Int) := by
    rw [Int.natCast_pow, show ((256 : Nat) : Int) = 2 ^ 8 from by decide, ← Int.pow_mul]
  rw [e2]
  exact Int.fdiv_eq_ediv_of_nonneg _ (Int.natCast_nonneg _)
abbrev fixedC : Ctx := ⟨rows, (fun | 0 => ([0, 5, 7, 8], [5]) | 1 => ([], [0, 5, 7, 8]) | _ => ([], []))⟩
theorem fixed_ev (tab : Tab) (n : Int) (m F : Nat) (hm : m ≤ 8) (hF : m < F) : evFn fixedC tab noCall F F87 [.d (.it .u64) n, .d (.it .i64) (m : Int)] [] (fun v S => exportF fixedC F87.resultTypes.toList v S) = some (.own 0 (.it .u8) (fixedL n m)) := by
  conv => lhs; whnf
  refine loop_rule (α := Nat) (fun i => i ≤ m) (fun i => m - i)
    (fun i => [.d (.it .u64) n, .bad, .bad, .bad, .bad, .own 1 (.it .u8) (fixedL n i), .bad, .d (.it .i64) (m : Int), .d (.it .i64) (i : Int), .bad, .bad, .bad, .bad, .bad, .bad, .bad, .bad, .bad, .bad, .bad, .bad]) (fun i => [.fam 0, .fam (List.length (fixedL n i))])
    (fun i => some (V.own 0 (.it .u8) (fixedL n m))) ?_ F 0 (Nat.zero_le _) (by omega)
  intro i K hi hK
  have hl := fixedL_length n i
  conv => lhs; whnf
  by_cases ha : (i : Int) < (m : Int)
  · refine br_go (tst_t ha) ?_
    conv => lhs; whnf
    refine br_go (tst_t (by rw [wrapI64 (by omega) (by omega)]; omega)) ?_
    conv => lhs; whnf
    refine br_go (band (band rfl (tst_t rfl)) (tst_t ?_)) ?_
    · show (List.length (fixedL n i) + 1) * 1 ≤ 140737488355328
      omega
    conv => lhs; whnf
    have e1 : fixedL n i ++ [IntKind.u8.wrap (n.fdiv (2 ^ min (IntKind.i64.wrap (8 * (i : Int))).toNat IntKind.u64.bits))] = fixedL n (i + 1) := by
      rw [shr8 (by omega), wrapU8]; rfl
    have e2 : IntKind.i64.wrap ((i : Int) + 1) = ((i + 1 : Nat) : Int) := by rw [wrapI64 (by omega) (by omega)]; rfl
    have := hK (i + 1) (by omega) (by omega)
    rw [← e1, ← e2] at this
    exact this
  · refine br_no (tst_f ha) ?_
    have : i = m := by omega
    subst this
    conv => lhs; whnf
    refine br_go (tst_t rfl) ?_
    rfl
abbrev rfixedC : Ctx := ⟨rows, (fun | 0 => ([0, 1, 5, 6], [5]) | 1 => ([], [0, 1, 5, 6]) | _ => ([], []))⟩
theorem rfixed_ev (tab : Tab) (n : Int) (m F : Nat) (hm : m ≤ 8) (hF : m < F) : evFn rfixedC tab noCall F F46 [.d (.it .u64) n, .d (.it .i64) (m : Int)] [] (fun v S => exportF rfixedC F46.resultTypes.toList v S) = some (.own 0 (.it .u8) (fixedL n m)) := by
  conv => lhs; whnf
  refine loop_rule (α := Nat) (fun i => i ≤ m) (fun i => m - i)
    (fun i => [.d (.it .u64) n, .d (.it .i64) (m : Int), .bad, .bad, .bad, .own 1 (.it .u8) (fixedL n i), .d (.it .i64) (i : Int), .bad, .bad, .bad, .bad, .bad, .bad, .bad, .bad, .bad, .bad, .bad, .bad, .bad, .bad]) (fun i => [.fam 0, .fam (List.length (fixedL n i))])
    (fun i => some (V.own 0 (.it .u8) (fixedL n m))) ?_ F 0 (Nat.zero_le _) (by omega)
  intro i K hi hK
  have hl := fixedL_length n i
  conv => lhs; whnf
  by_cases ha : (i : Int) < (m : Int)
  · refine br_go (tst_t ha) ?_
    conv => lhs; whnf
    refine br_go (tst_t (by rw [wrapI64 (by omega) (by omega)]; omega)) ?_
    conv => lhs; whnf
    refine br_go (band (band rfl (tst_t rfl)) (tst_t ?_)) ?_
    · show (List.length (fixedL n i) + 1) * 1 ≤ 140737488355328
      omega
    conv => lhs; whnf
    have e1 : fixedL n i ++ [IntKind.u8.wrap (n.fdiv (2 ^ min (IntKind.i64.wrap (8 * (i : Int))).toNat IntKind.u64.bits))] = fixedL n (i + 1) := by
      rw [shr8 (by omega), wrapU8]; rfl
    have e2 : IntKind.i64.wrap ((i : Int) + 1) = ((i + 1 : Nat) : Int) := by rw [wrapI64 (by omega) (by omega)]; rfl
    have := hK (i + 1) (by omega) (by omega)
    rw [← e1, ← e2] at this
    exact this
  · refine br_no (tst_f ha) ?_
    have : i = m := by omega
    subst this
    conv => lhs; whnf
    refine br_go (tst_t rfl) ?_
    rfl
end Go.Proofs.Ytmpmmfbgdpfnpaa.Ev
/- Numbers of fixed width, read by the program. -/
namespace Go.Proofs.Ytmpmmfbgdpfnpaa.Ev
open Go Go.RowKit
set_option linter.unusedVariables false
set_option maxRecDepth 100000
theorem shl8 {x : Int} {i : Nat} (hi : i ≤ 7) (hx : 0 ≤ x ∧ x < 256) : IntKind.u64.wrap (IntKind.u64.wrap x * 2 ^ min (IntKind.i64.wrap (8 * (i : Int))).toNat IntKind.u64.bits) = x * ((256 ^ i : Nat) : Int) := by
  rw [wrapI64 (by omega) (by omega), wrapU64_id hx.1 (by omega)]
  have e1 : min (8 * (i : Int)).toNat IntKind.u64.bits = 8 * i := by simp only [IntKind.bits]; omega
  have e2 : (2 : Int) ^ (8 * i) = ((256 ^ i : Nat) : Int) := by
    rw [Int.natCast_pow, show ((256 : Nat) : Int) = 2 ^ 8 from by decide, ← Int.pow_mul]
  rw [e1, e2, wrapU64_id]
  · exact Int.mul_nonneg hx.1 (Int.natCast_nonneg _)
  · have p : (256 : Nat) ^ i ≤ 256 ^ 7 := Nat.pow_le_pow_right (by decide) hi
    have p' : ((256 ^ i : Nat) : Int) ≤ 72057594037927936 := by
      have : (256 : Nat) ^ 7 = 72057594037927936 := by decide
      omega
    calc x * ((256 ^ i : Nat) : Int) ≤ 255 * ((256 ^ i : Nat) : Int) := Int.mul_le_mul_of_nonneg_right (by omega) (Int.natCast_nonneg _)
      _ < 18446744073709551616 := by omega
abbrev unfixedC : Ctx := ⟨rows, (fun | 0 => ([0, 6, 12, 13], [6]) | 1 => ([], [0, 6, 12, 13]) | _ => ([], []))⟩
theorem unfixed_ev (tab : Tab) (l : List Int) (hb : Bytes l) (m F : Nat) (hm : m ≤ 8) (hml : m ≤ l.length) (hF : m < F) : evFn unfixedC tab noCall F F80 [.d (.li (.it .u8)) l, .d (.it .i64) (m : Int)] [] (fun v S => exportF unfixedC F80.resultTypes.toList v S) = some (.tup [.d (.it .u64) (leVal (l.take m)), .d (.it .i64) 0]) := by
  conv => lhs; whnf
  refine br_no (tst_f (by omega)) ?_
  conv => lhs; whnf
  refine loop_rule (α := Nat) (fun i => i ≤ m) (fun i => m - i)
    (fun i => [.d (.li (.it .u8)) l, .bad, .bad, .bad, .bad, .bad, .d (.it .u64) (leVal (l.take i)), .bad, .bad, .bad, .bad, .bad, .d (.it .i64) (m : Int), .d (.it .i64) (i : Int), .bad, .bad, .bad, .bad, .bad, .bad, .bad, .bad, .bad, .bad, .bad, .bad, .bad, .bad]) (fun i => [.gone])
    (fun i => some (V.tup [.d (.it .u64) (leVal (l.take m)), .d (.it .i64) 0])) ?_ F 0 (Nat.zero_le _) (by omega)
  intro i K hi hK
  conv => lhs; whnf
  by_cases ha : (i : Int) < (m : Int)
  · refine br_go (tst_t ha) ?_
    conv => lhs; whnf
    refine br_go (band (tst_t (show (0 : Int) ≤ (i : Int) by omega)) (tst_t (show (i : Int) < ((List.length l : Nat) : Int) by omega))) ?_
    conv => lhs; whnf
    refine br_go (tst_t (by rw [wrapI64 (by omega) (by omega)]; omega)) ?_
    conv => lhs; whnf
    have hx := rd_bytes hb (i : Int)
    have hr := leVal_range (hb.take i)
    have hlen : (l.take i).length = i := by rw [List.length_take]; omega
    rw [hlen] at hr
    have p : (256 : Nat) ^ i ≤ 256 ^ 7 := Nat.pow_le_pow_right (by decide) (by omega)
    have p' : ((256 ^ i : Nat) : Int) ≤ 72057594037927936 := by
      have : (256 : Nat) ^ 7 = 72057594037927936 := by decide
      omega
    have e1 : bits .or .u64 (leVal (l.take i)) (IntKind.u64.wrap (IntKind.u64.wrap (rd l (i : Int)) * 2 ^ min (IntKind.i64.wrap (8 * (i : Int))).toNat IntKind.u64.bits)) = leVal (l.take (i + 1)) := by
      rw [shl8 (by omega) hx, bits_or64 (by omega) hr ⟨hx.1, ?_⟩, take_succ' (by omega), leVal_append, hlen]
      · simp [leVal, Int.mul_comm]
      · calc rd l (i : Int) * ((256 ^ i : Nat) : Int) ≤ 255 * ((256 ^ i : Nat) : Int) := Int.mul_le_mul_of_nonneg_right (by omega) (Int.natCast_nonneg _)
          _ < 18446744073709551616 := by omega
    have e2 : IntKind.i64.wrap ((i : Int) + 1) = ((i + 1 : Nat) : Int) := by rw [wrapI64 (by omega) (by omega)]; rfl
    have := hK (i + 1) (by omega) (by omega)
    rw [← e1, ← e2] at this
    exact this
  · refine br_no (tst_f ha) ?_
    have : i = m := by omega
    subst this
    rfl
end Go.Proofs.Ytmpmmfbgdpfnpaa.Ev
/- Numbers of fixed width. -/
namespace Go.Proofs.Ytmpmmfbgdpfnpaa.Ev
open Go Go.RowKit
set_option linter.unusedVariables false
set_option maxRecDepth 100000
set_option maxHeartbeats 8000000
theorem fixed_ok (T : Tab) : fixedSp.Ok T fixedC F87 := by
  rintro ⟨(n : Int), (m : Int), _⟩ hf hp
  have hp : (0 : Int) ≤ m ∧ (m : Int) ≤ 8 := by simpa only [fixedSp, Bool.and_eq_true, tst_iff] using hp
  have := fixed_ev T n (Int.toNat m) (Int.toNat m + 1) (Int.toNat_le.2 hp.2) (Nat.lt_succ_self _)
  rw [Int.toNat_of_nonneg hp.1] at this
  exact ⟨_, 0, this⟩
end Go.Proofs.Ytmpmmfbgdpfnpaa.Ev
/- Keys and their parts, by the program. -/
namespace Go.Proofs.Ytmpmmfbgdpfnpaa.Ev
open Go Go.RowKit
set_option linter.unusedVariables false
set_option linter.unusedSimpArgs false
set_option maxRecDepth 100000
set_option maxHeartbeats 8000000
abbrev fixed8C : Ctx := ⟨rows, (fun  | _ => ([], []))⟩
theorem fixed8_ok (T : Tab) (h1 : T 87 = fixedSp.ent) : fixed8Sp.Ok T fixed8C F77 := by
  rw [on_top h1]
  rintro ⟨(n : Int), _⟩ hf _
  refine ⟨1, 0, ?_⟩
  conv => lhs; whnf
  try simp (maxSteps := 2000000) (disch := omega) only [NN, Ty.den, dflt_kv]
  refine br_go ?_ ?_
  focus (((repeat' first | exact rfl | exact ordB_st rfl | exact ordB_of rfl | apply band | apply tst_t | apply nt_t)  <;> (try dsimp only [Ty.den, dflt_kv]) <;> (try simp only [LL]) <;> (first | trivial | assumption | omega | (change (_ : Int) ≤ _; omega) | (change (_ : Int) < _; omega) | (change (_ : Nat) * 1 ≤ _; omega) | (change (_ : Nat) * 48 ≤ _; omega) | (change (_ : Nat) * 24 ≤ _; omega) | (change (_ : Nat) * 8 ≤ _; omega) | (change (_ : Nat) * 64 ≤ _; omega) | decide)); done)
  conv => lhs; whnf
  try simp (maxSteps := 2000000) (disch := omega) only [NN, Ty.den, dflt_kv]
  refine br_go ?_ ?_
  focus (((repeat' first | exact rfl | exact ordB_st rfl | exact ordB_of rfl | apply band | apply tst_t | apply nt_t)  <;> (try dsimp only [Ty.den, dflt_kv]) <;> (try simp only [LL]) <;> (first | trivial | assumption | omega | (change (_ : Int) ≤ _; omega) | (change (_ : Int) < _; omega) | (change (_ : Nat) * 1 ≤ _; omega) | (change (_ : Nat) * 48 ≤ _; omega) | (change (_ : Nat) * 24 ≤ _; omega) | (change (_ : Nat) * 8 ≤ _; omega) | (change (_ : Nat) * 64 ≤ _; omega) | decide)); done)
  conv => lhs; whnf
  try simp (maxSteps := 2000000) (disch := omega) only [NN, Ty.den, dflt_kv]
  exact own_eq rfl 0
theorem bytes_of {l : List Int} (h : Fits byl l) : Bytes l := fun x hx => by have := h.2 x hx; have := fits_u8.1 this; omega
theorem unfixed_ok (T : Tab) : unfixedSp.Ok T unfixedC F80 := by
  rintro ⟨(l : List Int), (m : Int), _⟩ hf hp
  have hp : (0 : Int) ≤ m ∧ (m : Int) ≤ 8 := by simpa only [unfixedSp, Bool.and_eq_true, tst_iff] using hp
  have hb := bytes_of hf.1
  by_cases h : l.length < Int.toNat m
  · have e : unfixedS l (Int.toNat m) = (0, 20) := if_pos h
    refine ⟨1, 0, ?_⟩
    show _ = some (unfixedSp.res (l, m, ()))
    simp only [unfixedSp, e]
    show evFn _ _ _ _ _ [.d byl l, .d i64 m] [] _ = _
    conv => lhs; whnf
    try simp (maxSteps := 2000000) (disch := omega) only [NN, Ty.den, dflt_kv]
    refine br_go (tst_t ?_) ?_
    · show ((List.length l : Nat) : Int) < m; omega
    rfl
  · have := unfixed_ev T l hb (Int.toNat m) (Int.toNat m + 1) (Int.toNat_le.2 hp.2) (by omega) (Nat.lt_succ_self _)
    rw [Int.toNat_of_nonneg hp.1] at this
    have e : unfixedS l (Int.toNat m) = (leVal (l.take (Int.toNat m)), 0) := if_neg h
    refine ⟨Int.toNat m + 1, 0, ?_⟩
    show _ = some (unfixedSp.res (l, m, ()))
    simp only [unfixedSp, e]
    exact this
theorem unfixedS_range {l : List Int} (hb : Bytes l) (n : Nat) : 0 ≤ (unfixedS l n).1 ∧ (unfixedS l n).1 < ((256 ^ n : Nat) : Int) := by
  unfold unfixedS
  split
  · have : 0 < 256 ^ n := Nat.pow_pos (by omega)
    constructor
    · show (0 : Int) ≤ 0; omega
    · show (0 : Int) < _; omega
  · have := leVal_range (hb.take n)
    rw [List.length_take, Nat.min_eq_left (by omega)] at this
    exact this
abbrev unfixed8C : Ctx := ⟨rows, (fun  | _ => ([], []))⟩
theorem unfixed8_ok (T : Tab) (h1 : T 80 = unfixedSp.ent) : unfixed8Sp.Ok T unfixed8C F65 := by
  rw [on_top h1]
  rintro ⟨(l : List Int), _⟩ hf _
  refine ⟨1, 0, ?_⟩
  conv => lhs; whnf
  try simp (maxSteps := 2000000) (disch := omega) only [NN, Ty.den, dflt_kv]
  refine br_go ?_ ?_
  focus (((repeat' first | exact rfl | exact ordB_st rfl | exact ordB_of rfl | apply band | apply tst_t | apply nt_t)  <;> (try dsimp only [Ty.den, dflt_kv]) <;> (try simp only [LL]) <;> (first | trivial | assumption | omega | (change (_ : Int) ≤ _; omega) | (change (_ : Int) < _; omega) | (change (_ : Nat) * 1 ≤ _; omega) | (change (_ : Nat) * 48 ≤ _; omega) | (change (_ : Nat) * 24 ≤ _; omega) | (change (_ : Nat) * 8 ≤ _; omega) | (change (_ : Nat) * 64 ≤ _; omega) | decide)); done)
  conv => lhs; whnf
  try simp (maxSteps := 2000000) (disch := omega) only [NN, Ty.den, dflt_kv]
  rfl
abbrev rightC : Ctx := ⟨rows, (fun  | _ => ([], []))⟩
theorem right_ok (T : Tab) : rightSp.Ok T rightC F66 := by
  rintro ⟨(l : List Int), (a : Int), (b : Int), _⟩ hf _
  obtain ⟨F, hF⟩ : ∃ F : Nat, F = 1 := ⟨_, rfl⟩
  refine ⟨F, 0, ?_⟩
  show evFn _ _ _ _ _ [.d byl l, .d u64 a, .d i64 b] [] _ = some (.d .bo (tst (Right l a b)) : V)
  conv => lhs; whnf
  try simp (maxSteps := 2000000) (disch := omega) only [NN, Ty.den, dflt_kv]
  repeat' (first | (refine br_split (fun _ => ?_) (fun _ => ?_) <;> (conv => lhs; whnf) <;> (try simp (maxSteps := 2000000) (disch := omega) only [NN, Ty.den, dflt_kv])) | (refine br_go ?_ ?_; (focus (((repeat' first | exact rfl | exact ordB_st rfl | exact ordB_of rfl | apply band | apply tst_t | apply nt_t)  <;> (try dsimp only [Ty.den, dflt_kv]) <;> (try simp only [LL]) <;> (first | trivial | assumption | omega | (change (_ : Int) ≤ _; omega) | (change (_ : Int) < _; omega) | (change (_ : Nat) * 1 ≤ _; omega) | (change (_ : Nat) * 48 ≤ _; omega) | (change (_ : Nat) * 24 ≤ _; omega) | (change (_ : Nat) * 8 ≤ _; omega) | (change (_ : Nat) * 64 ≤ _; omega) | decide)); done)); (conv => lhs; whnf); (try simp (maxSteps := 2000000) (disch := omega) only [NN, Ty.den, dflt_kv])))
  all_goals unfold Right
  all_goals
    (first | exact bo_t (by skip; omega) | exact bo_f (by skip; omega) | exact bo_tst (by skip; omega))
end Go.Proofs.Ytmpmmfbgdpfnpaa.Ev
/- Keys taken apart and held against one another, by the program. -/
namespace Go.Proofs.Ytmpmmfbgdpfnpaa.Ev
open Go Go.RowKit
set_option linter.unusedVariables false
set_option linter.unusedSimpArgs false
set_option maxRecDepth 100000
set_option maxHeartbeats 8000000
abbrev splitC : Ctx := ⟨rows, (fun  | _ => ([], []))⟩
theorem split_ok (T : Tab) (h1 : T 65 = unfixed8Sp.ent) (h2 : T 66 = rightSp.ent) (h3 : T 43 = cloneSp.ent) : splitSp.Ok T splitC F40 := by
  rw [on_top h1, on_top h2, on_top h3]
  rintro ⟨(l : List Int), _⟩ hf _
  have hl : l.length ≤ 140737488355328 := (fits_by.1 hf.1).1
  have hb : Bytes l := bytes_of hf.1
  have hr := leVal_range (hb.drop (l.length - 8))
  obtain ⟨F, hF⟩ : ∃ F : Nat, F = 1 := ⟨_, rfl⟩
  refine ⟨F, 0, ?_⟩
  show evFn _ _ _ _ _ [.d byl l] [] _ = some (.tup [.own 0 by8 (split l).1, .d u64 (split l).2.1, .d i64 (split l).2.2.1, .d i64 (split l).2.2.2] : V)
  conv => lhs; whnf
  try simp (maxSteps := 2000000) (disch := omega) only [NN, Ty.den, dflt_kv]
  by_cases h : l.length < 8
  · refine br_go (tst_t (by omega)) ?_
    conv => lhs; whnf
    try simp (maxSteps := 2000000) (disch := omega) only [NN, Ty.den, dflt_kv]
    have es : split l = ([], 0, 0, 23) := if_pos (.inl h)
    rw [es]
    refine br_go ?_ ?_
    focus (((repeat' first | exact rfl | exact ordB_st rfl | exact ordB_of rfl | apply band | apply tst_t | apply nt_t)  <;> (try dsimp only [Ty.den, dflt_kv]) <;> (try simp only [LL]) <;> (first | trivial | assumption | omega | (change (_ : Int) ≤ _; omega) | (change (_ : Int) < _; omega) | (change (_ : Nat) * 1 ≤ _; omega) | (change (_ : Nat) * 48 ≤ _; omega) | (change (_ : Nat) * 24 ≤ _; omega) | (change (_ : Nat) * 8 ≤ _; omega) | (change (_ : Nat) * 64 ≤ _; omega) | decide)); done)
    conv => lhs; whnf
    try simp (maxSteps := 2000000) (disch := omega) only [NN, Ty.den, dflt_kv]
  · refine br_no (tst_f (by omega)) ?_
    conv => lhs; whnf
    try simp (maxSteps := 2000000) (disch := omega) only [NN, Ty.den, dflt_kv]
    refine br_go ?_ ?_
    focus (((repeat' first | exact rfl | exact ordB_st rfl | exact ordB_of rfl | apply band | apply tst_t | apply nt_t)  <;> (try dsimp only [Ty.den, dflt_kv]) <;> (try simp only [LL]) <;> (first | trivial | assumption | omega | (change (_ : Int) ≤ _; omega) | (change (_ : Int) < _; omega) | (change (_ : Nat) * 1 ≤ _; omega) | (change (_ : Nat) * 48 ≤ _; omega) | (change (_ : Nat) * 24 ≤ _; omega) | (change (_ : Nat) * 8 ≤ _; omega) | (change (_ : Nat) * 64 ≤ _; omega) | decide)); done)
    conv => lhs; whnf
    try simp (maxSteps := 2000000) (disch := omega) only [NN, Ty.den, dflt_kv]
    have en : unfixedS (l.drop (l.length - 8)) 8 = (leVal (l.drop (l.length - 8)), 0) := by
      unfold unfixedS
      rw [if_neg (by rw [List.length_drop]; omega), List.take_of_length_le (by rw [List.length_drop]; omega)]
    rw [List.length_drop, show l.length - (l.length - 8) = 8 by omega, show (256 : Nat) ^ 8 = 18446744073709551616 by decide] at hr
    try simp (maxSteps := 2000000) (disch := omega) only [NN, Ty.den, dflt_kv, en]
    repeat (refine br_go ?_ ?_; (focus (((repeat' first | exact rfl | exact ordB_st rfl | exact ordB_of rfl | apply band | apply tst_t | apply nt_t)  <;> (try dsimp only [Ty.den, dflt_kv]) <;> (try simp only [LL]) <;> (first | trivial | assumption | omega | (change (_ : Int) ≤ _; omega) | (change (_ : Int) < _; omega) | (change (_ : Nat) * 1 ≤ _; omega) | (change (_ : Nat) * 48 ≤ _; omega) | (change (_ : Nat) * 24 ≤ _; omega) | (change (_ : Nat) * 8 ≤ _; omega) | (change (_ : Nat) * 64 ≤ _; omega) | decide)); done)); (conv => lhs; whnf); (try simp (maxSteps := 2000000) (disch := omega) only [NN, Ty.den, dflt_kv]))
    by_cases hq : Right (l.take (l.length - 8)) (leVal (l.drop (l.length - 8)) / 256) (leVal (l.drop (l.length - 8)) % 256)
    · refine br_no (nt_f hq) ?_
      conv => lhs; whnf
      try simp (maxSteps := 2000000) (disch := omega) only [NN, Ty.den, dflt_kv]
      repeat (refine br_go ?_ ?_; (focus (((repeat' first | exact rfl | exact ordB_st rfl | exact ordB_of rfl | apply band | apply tst_t | apply nt_t)  <;> (try dsimp only [Ty.den, dflt_kv]) <;> (try simp only [LL]) <;> (first | trivial | assumption | omega | (change (_ : Int) ≤ _; omega) | (change (_ : Int) < _; omega) | (change (_ : Nat) * 1 ≤ _; omega) | (change (_ : Nat) * 48 ≤ _; omega) | (change (_ : Nat) * 24 ≤ _; omega) | (change (_ : Nat) * 8 ≤ _; omega) | (change (_ : Nat) * 64 ≤ _; omega) | decide)); done)); (conv => lhs; whnf); (try simp (maxSteps := 2000000) (disch := omega) only [NN, Ty.den, dflt_kv]))
      have es : split l = (l.take (l.length - 8), leVal (l.drop (l.length - 8)) / 256, leVal (l.drop (l.length - 8)) % 256, 0) := by
        unfold Right at hq
        rw [List.length_take] at hq
        unfold split
        rw [if_neg (by omega), if_neg (by omega)]
      rw [es]
    · refine br_go (nt_t hq) ?_
      conv => lhs; whnf
      try simp (maxSteps := 2000000) (disch := omega) only [NN, Ty.den, dflt_kv]
      have es : split l = ([], 0, 0, 23) := by
        unfold Right at hq
        rw [List.length_take] at hq
        unfold split
        by_cases h1 : l.length < 8 ∨ 136 < l.length
        · rw [if_pos h1]
        · rw [if_neg h1, if_pos (by omega)]
      rw [es]
      repeat (refine br_go ?_ ?_; (focus (((repeat' first | exact rfl | exact ordB_st rfl | exact ordB_of rfl | apply band | apply tst_t | apply nt_t)  <;> (try dsimp only [Ty.den, dflt_kv]) <;> (try simp only [LL]) <;> (first | trivial | assumption | omega | (change (_ : Int) ≤ _; omega) | (change (_ : Int) < _; omega) | (change (_ : Nat) * 1 ≤ _; omega) | (change (_ : Nat) * 48 ≤ _; omega) | (change (_ : Nat) * 24 ≤ _; omega) | (change (_ : Nat) * 8 ≤ _; omega) | (change (_ : Nat) * 64 ≤ _; omega) | decide)); done)); (conv => lhs; whnf); (try simp (maxSteps := 2000000) (disch := omega) only [NN, Ty.den, dflt_kv]))
abbrev nanUC : Ctx := ⟨rows, (fun  | _ => ([], []))⟩
theorem nanU_ok (T : Tab) : nanUSp.Ok T nanUC F85 := by
  rintro ⟨(a : Int), _⟩ _ _
  obtain ⟨F, hF⟩ : ∃ F : Nat, F = 1 := ⟨_, rfl⟩
  refine ⟨F, 0, ?_⟩
  show evFn _ _ _ _ _ [.d u64 a] [] _ = some (.d .bo false : V)
  conv => lhs; whnf
  try simp (maxSteps := 2000000) (disch := omega) only [NN, Ty.den, dflt_kv]
  exact bo_eq (tst_f (by simp))
abbrev nanIC : Ctx := ⟨rows, (fun  | _ => ([], []))⟩
theorem nanI_ok (T : Tab) : nanISp.Ok T nanIC F86 := by
  rintro ⟨(a : Int), _⟩ _ _
  obtain ⟨F, hF⟩ : ∃ F : Nat, F = 1 := ⟨_, rfl⟩
  refine ⟨F, 0, ?_⟩
  show evFn _ _ _ _ _ [.d i64 a] [] _ = some (.d .bo false : V)
  conv => lhs; whnf
  try simp (maxSteps := 2000000) (disch := omega) only [NN, Ty.den, dflt_kv]
  exact bo_eq (tst_f (by simp))
abbrev cmpUC : Ctx := ⟨rows, (fun  | _ => ([], []))⟩
theorem cmpU_ok (T : Tab) (h1 : T 85 = nanUSp.ent) : cmpUSp.Ok T cmpUC F74 := by
  rw [on_top h1]
  rintro ⟨(a : Int), (b : Int), _⟩ _ _
  obtain ⟨F, hF⟩ : ∃ F : Nat, F = 1 := ⟨_, rfl⟩
  refine ⟨F, 0, ?_⟩
  show evFn _ _ _ _ _ [.d u64 a, .d u64 b] [] _ = some (.d i64 (cmpI a b) : V)
  conv => lhs; whnf
  try simp (maxSteps := 2000000) (disch := omega) only [NN, Ty.den, dflt_kv]
  unfold cmpI
  by_cases h : a < b
  · refine br_go (tst_t (h)) ?_
    conv => lhs; whnf
    try simp (maxSteps := 2000000) (disch := omega) only [NN, Ty.den, dflt_kv]
    rw [if_pos h]
  · refine br_no (tst_f (h)) ?_
    conv => lhs; whnf
    try simp (maxSteps := 2000000) (disch := omega) only [NN, Ty.den, dflt_kv]
    rw [if_neg h]
    by_cases h : a > b
    · refine br_go (tst_t (h)) ?_
      conv => lhs; whnf
      try simp (maxSteps := 2000000) (disch := omega) only [NN, Ty.den, dflt_kv]
      rw [if_pos h]
    · refine br_no (tst_f (h)) ?_
      conv => lhs; whnf
      try simp (maxSteps := 2000000) (disch := omega) only [NN, Ty.den, dflt_kv]
      rw [if_neg h]
abbrev cmpIC : Ctx := ⟨rows, (fun  | _ => ([], []))⟩
theorem cmpI_ok (T : Tab) (h1 : T 86 = nanISp.ent) : cmpISp.Ok T cmpIC F75 := by
  rw [on_top h1]
  rintro ⟨(a : Int), (b : Int), _⟩ _ _
  obtain ⟨F, hF⟩ : ∃ F : Nat, F = 1 := ⟨_, rfl⟩
  refine ⟨F, 0, ?_⟩
  show evFn _ _ _ _ _ [.d i64 a, .d i64 b] [] _ = some (.d i64 (cmpI a b) : V)
  conv => lhs; whnf
  try simp (maxSteps := 2000000) (disch := omega) only [NN, Ty.den, dflt_kv]
  unfold cmpI
  by_cases h : a < b
  · refine br_go (tst_t (h)) ?_
    conv => lhs; whnf
    try simp (maxSteps := 2000000) (disch := omega) only [NN, Ty.den, dflt_kv]
    rw [if_pos h]
  · refine br_no (tst_f (h)) ?_
    conv => lhs; whnf
    try simp (maxSteps := 2000000) (disch := omega) only [NN, Ty.den, dflt_kv]
    rw [if_neg h]
    by_cases h : a > b
    · refine br_go (tst_t (h)) ?_
      conv => lhs; whnf
      try simp (maxSteps := 2000000) (disch := omega) only [NN, Ty.den, dflt_kv]
      rw [if_pos h]
    · refine br_no (tst_f (h)) ?_
      conv => lhs; whnf
      try simp (maxSteps := 2000000) (disch := omega) only [NN, Ty.den, dflt_kv]
      rw [if_neg h]
abbrev bcompareC : Ctx := ⟨rows, (fun  | _ => ([], []))⟩
theorem bcompare_ok (T : Tab) (h1 : T 76 = cmpBSp.ent) : cmpBSp.Ok T bcompareC F58 := by
  rw [on_top h1]
  rintro ⟨(a : List Int), (b : List Int), _⟩ _ _
  obtain ⟨F, hF⟩ : ∃ F : Nat, F = 1 := ⟨_, rfl⟩
  refine ⟨F, 0, ?_⟩
  show evFn _ _ _ _ _ [.d byl a, .d byl b] [] _ = some (.d i64 (cmpB a b) : V)
  conv => lhs; whnf
  try simp (maxSteps := 2000000) (disch := omega) only [NN, Ty.den, dflt_kv]
abbrev compareC : Ctx := ⟨rows, (fun | 0 => ([], [14]) | 1 => ([], [6, 7, 8, 10, 11, 12]) | 2 => ([], [7, 8, 11, 12]) | 3 => ([], [8, 12]) | _ => ([], []))⟩
theorem compare_ok (T : Tab) (h1 : T 40 = splitSp.ent) (h2 : T 58 = cmpBSp.ent) (h3 : T 74 = cmpUSp.ent) (h4 : T 75 = cmpISp.ent) : compareSp.Ok T compareC F56 := by
  rw [on_top h1, on_top h2, on_top h3, on_top h4]
  rintro ⟨(a : List Int), (b : List Int), _⟩ hf _
  obtain ⟨F, hF⟩ : ∃ F : Nat, F = 1 := ⟨_, rfl⟩
  refine ⟨F, 0, ?_⟩
  show evFn _ _ _ _ _ [.d byl a, .d byl b] [] _ = some (.tup [.d i64 (compareK a b).1, .d i64 (compareK a b).2] : V)
  conv => lhs; whnf
  try simp (maxSteps := 2000000) (disch := omega) only [NN, Ty.den, dflt_kv]
  unfold compareK
  by_cases ha : (split a).2.2.2 = 0
  · refine br_no (tst_f (by simpa using ha)) ?_
    conv => lhs; whnf
    try simp (maxSteps := 2000000) (disch := omega) only [NN, Ty.den, dflt_kv]
    by_cases hb : (split b).2.2.2 = 0
    · refine br_no (tst_f (by simpa using hb)) ?_
      conv => lhs; whnf
      try simp (maxSteps := 2000000) (disch := omega) only [NN, Ty.den, dflt_kv]
      rw [if_pos ⟨ha, hb⟩]
      unfold order
      repeat (refine br_go ?_ ?_; (focus (((repeat' first | exact rfl | exact ordB_st rfl | exact ordB_of rfl | apply band | apply tst_t | apply nt_t)  <;> (try dsimp only [Ty.den, dflt_kv]) <;> (try simp only [LL]) <;> (first | trivial | assumption | omega | (change (_ : Int) ≤ _; omega) | (change (_ : Int) < _; omega) | (change (_ : Nat) * 1 ≤ _; omega) | (change (_ : Nat) * 48 ≤ _; omega) | (change (_ : Nat) * 24 ≤ _; omega) | (change (_ : Nat) * 8 ≤ _; omega) | (change (_ : Nat) * 64 ≤ _; omega) | decide)); done)); (conv => lhs; whnf); (try simp (maxSteps := 2000000) (disch := omega) only [NN, Ty.den, dflt_kv]))
      by_cases hc : cmpB (split a).1 (split b).1 ≠ 0
      · refine br_go (tst_t (hc)) ?_
        conv => lhs; whnf
        try simp (maxSteps := 2000000) (disch := omega) only [NN, Ty.den, dflt_kv]
        rw [if_pos hc]
      · refine br_no (tst_f (hc)) ?_
        conv => lhs; whnf
        try simp (maxSteps := 2000000) (disch := omega) only [NN, Ty.den, dflt_kv]
        rw [if_neg hc]
        by_cases hs : cmpI (split b).2.1 (split a).2.1 ≠ 0
        · refine br_go (tst_t (hs)) ?_
          conv => lhs; whnf
          try simp (maxSteps := 2000000) (disch := omega) only [NN, Ty.den, dflt_kv]
          refine tup_eq (cons_eq (vd_eq ?_) rfl)
          unfold cmpI at hs ⊢
          repeat' split
          all_goals first | rfl | (exfalso; omega) | (simp_all; done) | (simp_all; omega)
        · refine br_no (tst_f (hs)) ?_
          conv => lhs; whnf
          try simp (maxSteps := 2000000) (disch := omega) only [NN, Ty.den, dflt_kv]
          refine tup_eq (cons_eq (vd_eq ?_) rfl)
          unfold cmpI at hs ⊢
          repeat' split
          all_goals first | rfl | (exfalso; omega) | (simp_all; done) | (simp_all; omega)
    · refine br_go (tst_t (hb)) ?_
      conv => lhs; whnf
      try simp (maxSteps := 2000000) (disch := omega) only [NN, Ty.den, dflt_kv]
      rw [if_neg (fun h => hb h.2)]
  · refine br_go (tst_t (ha)) ?_
    conv => lhs; whnf
    try simp (maxSteps := 2000000) (disch := omega) only [NN, Ty.den, dflt_kv]
    rw [if_neg (fun h => ha h.1)]
end Go.Proofs.Ytmpmmfbgdpfnpaa.Ev
/- What the machine answers itself: bytes held against one another. -/
namespace Go.Proofs.Ytmpmmfbgdpfnpaa.Ev
open Go Go.RowKit
set_option linter.unusedVariables false
set_option linter.unusedSimpArgs false
set_option maxRecDepth 100000
set_option maxHeartbeats 8000000
theorem bytes_cells {m : Mem} {w : World} (hl : m.lies w) {l : List Int} {u : Value} (h : RepD m (.li (.it .u8)) l u) :
    (Extern.Bytes.bytesOf u).run Try.prog w = .ok ⟨(Lib.bytesOf l).toArray⟩ w := by
  obtain ⟨us, ⟨a, c, rfl, h1, h2, h3, h4⟩, rfl⟩ := h
  cases a with
  | none =>
    have hz : l = [] := List.eq_nil_of_length_eq_zero h4.1
    subst hz
    rfl
  | some ad =>
    have hc := Lib.run_loadBytesX (P := Try.prog) w l ad .empty (fun j x hj => by
      obtain ⟨hjl, hx⟩ := List.getElem?_eq_some_iff.1 hj
      obtain ⟨vs, k1, k2⟩ := h4.2 j hjl
      obtain ⟨rfl, k3⟩ := k2
      have k4 := hl _ _ _ (k1 0 _ rfl)
      have hs : ad.spot = none := h4.1 (by omega)
      rw [hx] at k4
      rw [← k4]
      congr 1
      unfold Addr.add
      simp only [hs, Ty.size, Nat.mul_one, Nat.add_zero]
      obtain ⟨b0, o0, s0⟩ := ad
      simp only at hs
      subst hs
      split
      · rename_i hz; subst hz; rfl
      · rfl)
    show (Extern.Bytes.loadBytes ad l.length .empty).run Try.prog w = _
    rw [hc]
    congr 1
    apply ByteArray.ext
    show (#[] : Array UInt8) ++ _ = _
    simp
theorem cmp_bytes {a b : List Int} (ha : Bytes a) (hb : Bytes b) : Lib.compareBytes (Lib.bytesOf a) (Lib.bytesOf b) = cmpB a b := by
  have lt : ∀ {x y : Int}, (0 ≤ x ∧ x < 256) → (0 ≤ y ∧ y < 256) → (UInt8.ofNat x.toNat < UInt8.ofNat y.toNat ↔ x < y) := by
    intro x y hx hy
    rw [UInt8.lt_iff_toNat_lt, UInt8.toNat_ofNat', UInt8.toNat_ofNat']
    simp only [show (2 : Nat) ^ 8 = 256 by decide]
    omega
  induction a generalizing b with
  | nil => cases b <;> simp [cmpB, Lib.compareBytes, Lib.bytesOf]
  | cons x a ih =>
    cases b with
    | nil => simp [cmpB, Lib.compareBytes, Lib.bytesOf]
    | cons y b =>
      have hx := ha x List.mem_cons_self
      have hy := hb y List.mem_cons_self
      have := ih (b := b) (fun z hz => ha z (List.mem_cons_of_mem _ hz)) (fun z hz => hb z (List.mem_cons_of_mem _ hz))
      simp only [Lib.bytesOf, List.map_cons, Lib.compareBytes, cmpB] at this ⊢
      rw [this]
      by_cases e : x = y
      · rw [if_pos e, if_neg (by rw [lt hx hy]; omega), if_neg (by rw [lt hy hx]; omega)]
      · rw [if_neg e]
        by_cases e2 : x < y
        · rw [if_pos e2, if_pos (by rw [lt hx hy]; exact e2)]
        · rw [if_neg e2, if_neg (by rw [lt hx hy]; exact e2), if_pos (by rw [lt hy hx]; omega)]
theorem compare_ext (x : dens cmpBSp.ts) : ExtRes Try.prog 76 (ofDens cmpBSp.ts x) (cmpBSp.res x) := by
  obtain ⟨(a : List Int), (b : List Int), _⟩ := x
  refine ⟨fun _ => rfl, ?_⟩
  intro m w us hl hr
  match us, hr with
  | [u, v], hr =>
    have h1 : RepV (Env.of m) (.d byl a) u := by have := hr; simp only [ofDens, cmpBSp, RepVs] at this; exact this.1
    have h2 : RepV (Env.of m) (.d byl b) v := by have := hr; simp only [ofDens, cmpBSp, RepVs] at this; exact this.2.1
    simp only [RepV] at h1 h2
    have ha : Bytes a := by
      obtain ⟨us, h, _⟩ := h1
      intro x hx; have := (RepL.fits _ _ _ h).2 x hx
      have := fits_u8.1 this; omega
    have hb : Bytes b := by
      obtain ⟨us, h, _⟩ := h2
      intro x hx; have := (RepL.fits _ _ _ h).2 x hx
      have := fits_u8.1 this; omega
    refine ⟨.int .i64 (cmpB a b), ?_, ?_⟩
    · rw [run_callFunc_extern Try.func76 (by kernel_rfl) (by kernel_rfl) (by kernel_rfl) (e := Extern.BytealgCompare.compare) (by kernel_rfl)]
      show ((Sem.run Try.prog (do pure (goInt (Extern.BytealgCompare.cmp (← Extern.Bytes.bytesOf u) (← Extern.Bytes.bytesOf v)))) w).andThen _) = _
      simp only [Sem.run_bind, bytes_cells hl h1, bytes_cells hl h2, Result.andThen]
      rw [Lib.cmp_eq]
      show Result.ok (Next.value (.int .i64 (Lib.compareBytes (Lib.bytesOf a) (Lib.bytesOf b)))) w = _
      rw [cmp_bytes ha hb]
    · intro E hE
      have hc := cmpB_cases a b
      exact rep_int_iff.2 ⟨rfl, by show IntKind.i64.min ≤ cmpB a b ∧ cmpB a b ≤ IntKind.i64.max; rw [show IntKind.i64.min = -9223372036854775808 by decide, show IntKind.i64.max = 9223372036854775807 by decide]; omega⟩
end Go.Proofs.Ytmpmmfbgdpfnpaa.Ev
/- Lists merged by a heap: the heap's functions, each by what is behind it. -/
namespace Go.Proofs.Ytmpmmfbgdpfnpaa.Ev
open Go Go.RowKit
set_option linter.unusedVariables false
set_option linter.unusedSimpArgs false
set_option maxRecDepth 100000
set_option maxHeartbeats 8000000
--safe List.length_set
abbrev kvll : Ty := .li kvl
/-- rounds of a loop: what comes behind is but a word while they are gone -/
theorem loop_ruleK {α R : Type} {n : Nat} {live : List Nat} {body : List V → List Ent → (Ex → List V → List Ent → Option R) → Option R} {k : Ex → List V → List Ent → Option R}
    (inv : α → Prop) (μ : α → Nat) (sl : α → List V) (S : α → List Ent) (G : α → Option R)
    (hb : ∀ kk, kk = k → ∀ a (K : List V → List Ent → Option R), inv a → (∀ b, inv b → μ b < μ a → K (sl b) (S b) = G b) → body (sl a) (S a) (fun e sl S => match e with | .normal => pickK n live 0 sl fun sl => truncK n S fun S => K sl S | e => kk e sl S) = G a) :
    ∀ (f : Nat) (a : α), inv a → μ a < f → loopN n live body f (sl a) (S a) k = G a := loop_rule inv μ sl S G (hb k rfl)
noncomputable def lenQSp : Sp := ⟨[kvll], fun _ => true, fun x => vI (List.length x.1)⟩
abbrev lenQC : Ctx := ⟨rows, (fun  | _ => ([], []))⟩
theorem lenQ_ok (T : Tab) : lenQSp.Ok T lenQC F62 := by
  rintro ⟨(l : List (List KV)), _⟩ hf _
  obtain ⟨F, hF⟩ : ∃ F : Nat, F = 1 := ⟨_, rfl⟩
  refine ⟨F, 0, ?_⟩
  show evFn _ _ _ _ _ [.d kvll l] [] _ = some (vI l.length : V)
  conv => lhs; whnf
  try simp (maxSteps := 2000000) (disch := omega) only [NN, Ty.den, dflt_kv]
  repeat (refine br_go ?_ ?_; (focus (((repeat' first | exact rfl | exact ordB_st rfl | exact ordB_of rfl | apply band | apply tst_t | apply nt_t)  <;> (try dsimp only [Ty.den, dflt_kv]) <;> (try simp only [LL, List.length_set]) <;> (first | trivial | assumption | omega | (change (_ : Int) ≤ _; omega) | (change (_ : Int) < _; omega) | (change (_ : Nat) * 1 ≤ _; omega) | (change (_ : Nat) * 48 ≤ _; omega) | (change (_ : Nat) * 24 ≤ _; omega) | (change (_ : Nat) * 8 ≤ _; omega) | (change (_ : Nat) * 64 ≤ _; omega) | decide)); done)); (conv => lhs; whnf); (try simp (maxSteps := 2000000) (disch := omega) only [NN, Ty.den, dflt_kv]))
def lessPre (q : List (List KV)) (i j : Int) : Prop := (0 ≤ i ∧ i < q.length) ∧ (0 ≤ j ∧ j < q.length) ∧ (0 < (q.getD i.toNat []).length ∧ 0 < (q.getD j.toNat []).length) ∧ (split (hd (q.getD i.toNat []))).2.2.2 = 0 ∧ (split (hd (q.getD j.toNat []))).2.2.2 = 0
instance (q : List (List KV)) (i j : Int) : Decidable (lessPre q i j) := inferInstanceAs (Decidable (_ ∧ _))
noncomputable def lessSp : Sp := ⟨[kvll, i64, i64], fun x => tst (lessPre x.1 x.2.1 x.2.2.1), fun x => .d .bo (tst (order (hd (List.getD x.1 (Int.toNat x.2.1) [])) (hd (List.getD x.1 (Int.toNat x.2.2.1) [])) < 0))⟩
abbrev lessC : Ctx := ⟨rows, (fun  | _ => ([], []))⟩
theorem less_ok (T : Tab) (h1 : T 56 = compareSp.ent) : lessSp.Ok T lessC F106 := by
  rw [on_top h1]
  rintro ⟨(q : List (List KV)), (i : Int), (j : Int), _⟩ hf hp
  obtain ⟨⟨a1, a2⟩, ⟨b1, b2⟩, ⟨c1, c2⟩, d1, d2⟩ : lessPre q i j := tst_iff.1 hp
  have e : compareK ((q.getD i.toNat []).getD 0 kvd).1 ((q.getD j.toNat []).getD 0 kvd).1 = (order (hd (q.getD i.toNat [])) (hd (q.getD j.toNat [])), 0) := by
    unfold compareK
    rw [if_pos ⟨d1, d2⟩]; rfl
  obtain ⟨F, hF⟩ : ∃ F : Nat, F = 5 := ⟨_, rfl⟩
  refine ⟨F, 0, ?_⟩
  show evFn _ _ _ _ _ [.d kvll q, vI i, vI j] [] _ = some (.d .bo (tst (order (hd (q.getD i.toNat [])) (hd (q.getD j.toNat [])) < 0)) : V)
  conv => lhs; whnf
  try simp (maxSteps := 2000000) (disch := omega) only [NN, Ty.den, dflt_kv]
  repeat (refine br_go ?_ ?_; (focus (((repeat' first | exact rfl | exact ordB_st rfl | exact ordB_of rfl | apply band | apply tst_t | apply nt_t)  <;> (try dsimp only [Ty.den, dflt_kv]) <;> (try simp only [LL, List.length_set]) <;> (first | trivial | assumption | omega | (change (_ : Int) ≤ _; omega) | (change (_ : Int) < _; omega) | (change (_ : Nat) * 1 ≤ _; omega) | (change (_ : Nat) * 48 ≤ _; omega) | (change (_ : Nat) * 24 ≤ _; omega) | (change (_ : Nat) * 8 ≤ _; omega) | (change (_ : Nat) * 64 ≤ _; omega) | decide)); done)); (conv => lhs; whnf); (try simp (maxSteps := 2000000) (disch := omega) only [NN, Ty.den, dflt_kv]))
  rw [e]
theorem getD_take {α : Type} {q : List α} {n a : Nat} {d : α} (h : a < n) : (List.take n q).getD a d = q.getD a d := by
  rw [List.getD_eq_getElem?_getD, List.getElem?_take, if_pos h, List.getD_eq_getElem?_getD]
/-- what is asked of a heap's lists is true -/
theorem less_pre {ys : List (List KV)} {w a b : Nat} (hw : w ≤ ys.length) (hn : ∀ y ∈ ys, 0 < y.length) (hk : ∀ y ∈ ys, ∀ z ∈ y, okK z) (ha : a < w) (hb : b < w) : lessPre (List.take w ys) (a : Int) (b : Int) := by
  have key : ∀ c, c < w → 0 < ((List.take w ys).getD c []).length ∧ (split (hd ((List.take w ys).getD c []))).2.2.2 = 0 := fun c hc => by
    rw [getD_take hc]
    have hm : ys.getD c [] ∈ ys := by rw [getD_at (by omega)]; exact List.getElem_mem _
    have h1 := hn _ hm
    refine ⟨h1, ?_⟩
    unfold hd
    rw [getD_at h1]
    exact (hk _ hm _ (List.getElem_mem _)).1
  have e : (List.take w ys).length = w := by rw [List.length_take]; omega
  unfold lessPre
  rw [e, Int.toNat_natCast, Int.toNat_natCast]
  exact ⟨⟨by omega, by omega⟩, ⟨by omega, by omega⟩, ⟨(key a ha).1, (key b hb).1⟩, (key a ha).2, (key b hb).2⟩
theorem less_iff {ys : List (List KV)} {w a b : Nat} (ha : a < w) (hb : b < w) : order (hd ((List.take w ys).getD a [])) (hd ((List.take w ys).getD b [])) < 0 ↔ lss ys a b := by
  unfold lss
  rw [getD_take ha, getD_take hb]

/-- what stands behind a call that was gone into -/
def wrapE (n : Nat) (v : V) (S' : List Ent) (k : V → List Ent → Option V) : Option V :=
  match notBad v with
  | true => (match keepR v with
    | false => forceV (finV n v) fun v => truncK n S' fun S => k v S
    | true => forceV v fun v => k v S')
  | false => none
theorem inlE (C : FuncId → Ctx) (tab : Tab) (fuel : Nat) (fns : FuncId → Option Func) (d : Nat) (g : FuncId) (fn : Func) (hg : fns g = some fn) (args : List V) (id : Nat) (S : List Ent) (k : V → List Ent → Option V) (n : Nat) (hn : 0 + S.length = n) :
    inlH C tab fuel fns (d + 1) g args id S k = evFn (C g) tab (inlH C tab fuel fns d) fuel fn args S (fun v S' => wrapE n v S' k) := by
  subst hn
  show (match fns g with | some fn => lenK S 0 fun n => evFn (C g) tab (inlH C tab fuel fns d) fuel fn args S (fun v S' => wrapE n v S' k) | none => none) = _
  rw [hg]
  show (lenK S 0 fun n => evFn (C g) tab (inlH C tab fuel fns d) fuel fn args S (fun v S' => wrapE n v S' k)) = _
  rw [lenK_eq]
abbrev qp : V := .ifc 113 (.p 2 0)
abbrev S3 (k w : Nat) (xs : List (List KV)) (tl : List Ent) : List Ent := Ent.fam 0 :: Ent.row k kvl xs :: Ent.obj [V.sr 1 k 0 w 1 .full] :: tl
structure RowFine (xs : List (List KV)) : Prop where
  ne : ∀ y ∈ xs, 0 < y.length
  ok : ∀ y ∈ xs, ∀ z ∈ y, okK z
theorem RowFine.perm {xs ys : List (List KV)} (h : RowFine xs) (hp : ys.Perm xs) : RowFine ys := ⟨fun y hy => h.ne y (hp.mem_iff.1 hy), fun y hy => h.ok y (hp.mem_iff.1 hy)⟩
def DownK (call : CallH V) (tl : List Ent) : Prop := ∀ (k w n lo id : Nat) (xs : List (List KV)) (K : V → List Ent → Option V) (r : Option V), n ≤ 9 → lo ≤ 9 → n ≤ w → w ≤ xs.length → RowFine xs → HeapX xs n lo lo →
  (∀ (ys : List (List KV)) (b : Bool), ys.Perm xs → ys.drop n = xs.drop n → HeapX ys n lo n → K (.d .bo b) (S3 k w ys tl) = r) → call 78 [qp, vI lo, vI n] id (S3 k w xs tl) K = r
theorem down_init (T : Tab) (F d : Nat) (hF : 10 ≤ F) (h7 : T 106 = lessSp.ent) (n8 : T 109 = none)  : DownK (inlH ctxOf T F fnOf (d + 2)) [.gone, .gone, .gone, .gone] := by
  rw [on_top h7, off_top n8]
  intro k w n lo id xs K r hn8 hl8 hnw hwl hfine hheap hK
  rw [inlE ctxOf _ F fnOf (d + 1) 78 F78 (by kernel_rfl) _ id _ K 7 rfl]
  have hxl := hwl
  conv => lhs; whnf
  try simp (maxSteps := 2000000) (disch := omega) only [NN, Ty.den, dflt_kv]
  refine loop_ruleK (α := Nat × List (List KV)) (fun s => (lo ≤ s.1 ∧ (s.1 < n ∨ s.1 = lo)) ∧ (s.2.Perm xs ∧ s.2.drop n = xs.drop n) ∧ HeapX s.2 n lo s.1) (fun s => n - s.1)
    (fun s => (V.ifc 113 (V.p 2 0) :: vI (lo : Nat) :: vI (n : Nat) :: V.bad :: V.bad :: V.bad :: V.bad :: vI s.1 :: V.bad :: V.bad :: V.bad :: V.bad :: V.bad :: V.bad :: V.bad :: V.bad :: V.bad :: V.bad :: V.bad :: V.bad :: V.bad :: V.bad :: V.bad :: V.bad :: V.bad :: V.bad :: V.bad :: V.bad :: V.bad :: V.bad :: V.bad :: V.bad :: V.bad :: V.bad :: V.bad :: V.bad :: V.bad :: V.bad :: V.bad :: V.bad :: V.bad :: V.bad :: V.bad :: V.bad :: V.bad :: V.bad :: V.bad :: V.bad :: []))
    (fun s => S3 k w s.2 [.gone, .gone, .gone, .gone])
    (fun _ => r) ?_ F (lo, xs) ⟨⟨Nat.le_refl _, .inr rfl⟩, ⟨.refl _, rfl⟩, hheap⟩ (by show n - lo < F; omega)
  rintro kkd hkd ⟨x, ys⟩ K2 ⟨⟨d1, d2⟩, ⟨d3, d3b⟩, d4⟩ hK2
  simp only at d1 d2 d3 d3b d4 hK2 ⊢
  have hyl : ys.length = xs.length := d3.length_eq
  have hyf := hfine.perm d3
  have lp : ∀ a b : Nat, a < n → b < n → lessPre (List.take w ys) (a : Int) (b : Int) := fun a b ha hb => less_pre (by omega) hyf.ne hyf.ok (by omega) (by omega)
  conv => lhs; whnf
  try simp (maxSteps := 2000000) (disch := omega) only [NN, Ty.den, dflt_kv]
  obtain ⟨j, hj1⟩ : ∃ j : Nat, j = 2 * x + 1 := ⟨_, rfl⟩
  have ej1 : (2 * (x : Int) + 1) = (j : Int) := by omega
  have hx8 : x ≤ 9 := by omega
  try simp (maxSteps := 2000000) (disch := omega) only [NN, Ty.den, dflt_kv, ej1]
  by_cases hj : j < n
  · refine br_no (tst_f (by omega)) ?_
    conv => lhs; whnf
    try simp (maxSteps := 2000000) (disch := omega) only [NN, Ty.den, dflt_kv]
    refine br_no (tst_f (by omega)) ?_
    conv => lhs; whnf
    try simp (maxSteps := 2000000) (disch := omega) only [NN, Ty.den, dflt_kv]
    repeat (refine br_go ?_ ?_; (focus (((repeat' first | exact rfl | exact ordB_st rfl | exact ordB_of rfl | apply band | apply tst_t | apply nt_t)  <;> (try dsimp only [Ty.den, dflt_kv]) <;> (try simp only [LL, List.length_set]) <;> (first | trivial | assumption | omega | (change (_ : Int) ≤ _; omega) | (change (_ : Int) < _; omega) | (change (_ : Nat) * 1 ≤ _; omega) | (change (_ : Nat) * 48 ≤ _; omega) | (change (_ : Nat) * 24 ≤ _; omega) | (change (_ : Nat) * 8 ≤ _; omega) | (change (_ : Nat) * 64 ≤ _; omega) | decide)); done)); (conv => lhs; whnf); (try simp (maxSteps := 2000000) (disch := omega) only [NN, Ty.den, dflt_kv]))
    by_cases hj2 : j + 1 < n
    · have ej2 : ((j : Int) + 1) = ((j + 1 : Nat) : Int) := by omega
      refine br_go (tst_t (by omega)) ?_
      conv => lhs; whnf
      try simp (maxSteps := 2000000) (disch := omega) only [NN, Ty.den, dflt_kv]
      try simp (maxSteps := 2000000) (disch := omega) only [NN, Ty.den, dflt_kv, ej2]
      repeat (refine br_go ?_ ?_; (focus (((repeat' first | exact rfl | exact ordB_st rfl | exact ordB_of rfl | apply band | apply tst_t | apply nt_t)  <;> (try dsimp only [Ty.den, dflt_kv]) <;> (try simp only [LL, List.length_set]) <;> (first | trivial | assumption | omega | (change (_ : Int) ≤ _; omega) | (change (_ : Int) < _; omega) | (change (_ : Nat) * 1 ≤ _; omega) | (change (_ : Nat) * 48 ≤ _; omega) | (change (_ : Nat) * 24 ≤ _; omega) | (change (_ : Nat) * 8 ≤ _; omega) | (change (_ : Nat) * 64 ≤ _; omega) | decide)); done)); (conv => lhs; whnf); (try simp (maxSteps := 2000000) (disch := omega) only [NN, Ty.den, dflt_kv]))
      refine br_go (tst_t (lp (j + 1) j hj2 hj)) ?_
      conv => lhs; whnf
      try simp (maxSteps := 2000000) (disch := omega) only [NN, Ty.den, dflt_kv]
      by_cases c : order (hd ((List.take w ys).getD (j + 1) [])) (hd ((List.take w ys).getD j [])) < 0
      · have hm : ∀ k, 0 < k → k < n → (k - 1) / 2 = x → leq ys (j + 1) k := fun k k0 kn ke => by
          have : k = j ∨ k = j + 1 := by omega
          rcases this with rfl | rfl
          · exact Int.le_of_lt ((less_iff (by omega) (by omega)).1 c)
          · exact leq_refl _ _
        refine br_go (tst_t (c)) ?_
        conv => lhs; whnf
        try simp (maxSteps := 2000000) (disch := omega) only [NN, Ty.den, dflt_kv]
        repeat (refine br_go ?_ ?_; (focus (((repeat' first | exact rfl | exact ordB_st rfl | exact ordB_of rfl | apply band | apply tst_t | apply nt_t)  <;> (try dsimp only [Ty.den, dflt_kv]) <;> (try simp only [LL, List.length_set]) <;> (first | trivial | assumption | omega | (change (_ : Int) ≤ _; omega) | (change (_ : Int) < _; omega) | (change (_ : Nat) * 1 ≤ _; omega) | (change (_ : Nat) * 48 ≤ _; omega) | (change (_ : Nat) * 24 ≤ _; omega) | (change (_ : Nat) * 8 ≤ _; omega) | (change (_ : Nat) * 64 ≤ _; omega) | decide)); done)); (conv => lhs; whnf); (try simp (maxSteps := 2000000) (disch := omega) only [NN, Ty.den, dflt_kv]))
        refine br_go (tst_t (lp (j + 1) x (by omega) (by omega))) ?_
        conv => lhs; whnf
        try simp (maxSteps := 2000000) (disch := omega) only [NN, Ty.den, dflt_kv]
        by_cases c2 : order (hd ((List.take w ys).getD (j + 1) [])) (hd ((List.take w ys).getD x [])) < 0
        · refine br_no (nt_f c2) ?_
          conv => lhs; whnf
          try simp (maxSteps := 2000000) (disch := omega) only [NN, Ty.den, dflt_kv]
          repeat (refine br_go ?_ ?_; (focus (((repeat' first | exact rfl | exact ordB_st rfl | exact ordB_of rfl | apply band | apply tst_t | apply nt_t)  <;> (try dsimp only [Ty.den, dflt_kv]) <;> (try simp only [LL, List.length_set]) <;> (first | trivial | assumption | omega | (change (_ : Int) ≤ _; omega) | (change (_ : Int) < _; omega) | (change (_ : Nat) * 1 ≤ _; omega) | (change (_ : Nat) * 48 ≤ _; omega) | (change (_ : Nat) * 24 ≤ _; omega) | (change (_ : Nat) * 8 ≤ _; omega) | (change (_ : Nat) * 64 ≤ _; omega) | decide)); done)); (conv => lhs; whnf); (try simp (maxSteps := 2000000) (disch := omega) only [NN, Ty.den, dflt_kv]))
          try simp (maxSteps := 2000000) (disch := omega) only [NN, Ty.den, dflt_kv, Nat.zero_add]
          exact hK2 ((j + 1), swp ys x (j + 1)) ⟨⟨by show lo ≤ (j + 1); omega, .inl (by show (j + 1) < n; omega)⟩, ⟨(swp_perm (by omega) (by omega)).trans d3, by show List.drop n (swp ys x (j + 1)) = _; rw [swp_drop (by omega) (by omega)]; exact d3b⟩, d4.step (by omega) d1 (by omega) ⟨by omega, by omega⟩ hm ((less_iff (by omega) (by omega)).1 c2)⟩ (by show n - (j + 1) < n - x; omega)
        · refine br_go (nt_t c2) ?_
          conv => lhs; whnf
          try simp (maxSteps := 2000000) (disch := omega) only [NN, Ty.den, dflt_kv]
          repeat (refine br_go ?_ ?_; (focus (((repeat' first | exact rfl | exact ordB_st rfl | exact ordB_of rfl | apply band | apply tst_t | apply nt_t)  <;> (try dsimp only [Ty.den, dflt_kv]) <;> (try simp only [LL, List.length_set]) <;> (first | trivial | assumption | omega | (change (_ : Int) ≤ _; omega) | (change (_ : Int) < _; omega) | (change (_ : Nat) * 1 ≤ _; omega) | (change (_ : Nat) * 48 ≤ _; omega) | (change (_ : Nat) * 24 ≤ _; omega) | (change (_ : Nat) * 8 ≤ _; omega) | (change (_ : Nat) * 64 ≤ _; omega) | decide)); done)); (conv => lhs; whnf); (try simp (maxSteps := 2000000) (disch := omega) only [NN, Ty.den, dflt_kv]))
          rw [hkd]
          conv => lhs; whnf
          try simp (maxSteps := 2000000) (disch := omega) only [NN, Ty.den, dflt_kv]
          repeat (refine br_go ?_ ?_; (focus (((repeat' first | exact rfl | exact ordB_st rfl | exact ordB_of rfl | apply band | apply tst_t | apply nt_t)  <;> (try dsimp only [Ty.den, dflt_kv]) <;> (try simp only [LL, List.length_set]) <;> (first | trivial | assumption | omega | (change (_ : Int) ≤ _; omega) | (change (_ : Int) < _; omega) | (change (_ : Nat) * 1 ≤ _; omega) | (change (_ : Nat) * 48 ≤ _; omega) | (change (_ : Nat) * 24 ≤ _; omega) | (change (_ : Nat) * 8 ≤ _; omega) | (change (_ : Nat) * 64 ≤ _; omega) | decide)); done)); (conv => lhs; whnf); (try simp (maxSteps := 2000000) (disch := omega) only [NN, Ty.den, dflt_kv]))
          exact hK ys _ d3 d3b (d4.stop (fun k k0 kn ke => leq_trans (leq_of (fun h => c2 ((less_iff (by omega) (by omega)).2 h))) (hm k k0 kn ke)))
      · have hm : ∀ k, 0 < k → k < n → (k - 1) / 2 = x → leq ys j k := fun k k0 kn ke => by
          have : k = j ∨ k = j + 1 := by omega
          rcases this with rfl | rfl
          · exact leq_refl _ _
          · exact leq_of (fun h => c ((less_iff (by omega) (by omega)).2 h))
        refine br_no (tst_f (c)) ?_
        conv => lhs; whnf
        try simp (maxSteps := 2000000) (disch := omega) only [NN, Ty.den, dflt_kv]
        repeat (refine br_go ?_ ?_; (focus (((repeat' first | exact rfl | exact ordB_st rfl | exact ordB_of rfl | apply band | apply tst_t | apply nt_t)  <;> (try dsimp only [Ty.den, dflt_kv]) <;> (try simp only [LL, List.length_set]) <;> (first | trivial | assumption | omega | (change (_ : Int) ≤ _; omega) | (change (_ : Int) < _; omega) | (change (_ : Nat) * 1 ≤ _; omega) | (change (_ : Nat) * 48 ≤ _; omega) | (change (_ : Nat) * 24 ≤ _; omega) | (change (_ : Nat) * 8 ≤ _; omega) | (change (_ : Nat) * 64 ≤ _; omega) | decide)); done)); (conv => lhs; whnf); (try simp (maxSteps := 2000000) (disch := omega) only [NN, Ty.den, dflt_kv]))
        refine br_go (tst_t (lp j x (by omega) (by omega))) ?_
        conv => lhs; whnf
        try simp (maxSteps := 2000000) (disch := omega) only [NN, Ty.den, dflt_kv]
        by_cases c2 : order (hd ((List.take w ys).getD j [])) (hd ((List.take w ys).getD x [])) < 0
        · refine br_no (nt_f c2) ?_
          conv => lhs; whnf
          try simp (maxSteps := 2000000) (disch := omega) only [NN, Ty.den, dflt_kv]
          repeat (refine br_go ?_ ?_; (focus (((repeat' first | exact rfl | exact ordB_st rfl | exact ordB_of rfl | apply band | apply tst_t | apply nt_t)  <;> (try dsimp only [Ty.den, dflt_kv]) <;> (try simp only [LL, List.length_set]) <;> (first | trivial | assumption | omega | (change (_ : Int) ≤ _; omega) | (change (_ : Int) < _; omega) | (change (_ : Nat) * 1 ≤ _; omega) | (change (_ : Nat) * 48 ≤ _; omega) | (change (_ : Nat) * 24 ≤ _; omega) | (change (_ : Nat) * 8 ≤ _; omega) | (change (_ : Nat) * 64 ≤ _; omega) | decide)); done)); (conv => lhs; whnf); (try simp (maxSteps := 2000000) (disch := omega) only [NN, Ty.den, dflt_kv]))
          try simp (maxSteps := 2000000) (disch := omega) only [NN, Ty.den, dflt_kv, Nat.zero_add]
          exact hK2 (j, swp ys x j) ⟨⟨by show lo ≤ j; omega, .inl (by show j < n; omega)⟩, ⟨(swp_perm (by omega) (by omega)).trans d3, by show List.drop n (swp ys x j) = _; rw [swp_drop (by omega) (by omega)]; exact d3b⟩, d4.step (by omega) d1 (by omega) ⟨by omega, by omega⟩ hm ((less_iff (by omega) (by omega)).1 c2)⟩ (by show n - j < n - x; omega)
        · refine br_go (nt_t c2) ?_
          conv => lhs; whnf
          try simp (maxSteps := 2000000) (disch := omega) only [NN, Ty.den, dflt_kv]
          repeat (refine br_go ?_ ?_; (focus (((repeat' first | exact rfl | exact ordB_st rfl | exact ordB_of rfl | apply band | apply tst_t | apply nt_t)  <;> (try dsimp only [Ty.den, dflt_kv]) <;> (try simp only [LL, List.length_set]) <;> (first | trivial | assumption | omega | (change (_ : Int) ≤ _; omega) | (change (_ : Int) < _; omega) | (change (_ : Nat) * 1 ≤ _; omega) | (change (_ : Nat) * 48 ≤ _; omega) | (change (_ : Nat) * 24 ≤ _; omega) | (change (_ : Nat) * 8 ≤ _; omega) | (change (_ : Nat) * 64 ≤ _; omega) | decide)); done)); (conv => lhs; whnf); (try simp (maxSteps := 2000000) (disch := omega) only [NN, Ty.den, dflt_kv]))
          rw [hkd]
          conv => lhs; whnf
          try simp (maxSteps := 2000000) (disch := omega) only [NN, Ty.den, dflt_kv]
          repeat (refine br_go ?_ ?_; (focus (((repeat' first | exact rfl | exact ordB_st rfl | exact ordB_of rfl | apply band | apply tst_t | apply nt_t)  <;> (try dsimp only [Ty.den, dflt_kv]) <;> (try simp only [LL, List.length_set]) <;> (first | trivial | assumption | omega | (change (_ : Int) ≤ _; omega) | (change (_ : Int) < _; omega) | (change (_ : Nat) * 1 ≤ _; omega) | (change (_ : Nat) * 48 ≤ _; omega) | (change (_ : Nat) * 24 ≤ _; omega) | (change (_ : Nat) * 8 ≤ _; omega) | (change (_ : Nat) * 64 ≤ _; omega) | decide)); done)); (conv => lhs; whnf); (try simp (maxSteps := 2000000) (disch := omega) only [NN, Ty.den, dflt_kv]))
          exact hK ys _ d3 d3b (d4.stop (fun k k0 kn ke => leq_trans (leq_of (fun h => c2 ((less_iff (by omega) (by omega)).2 h))) (hm k k0 kn ke)))
    · have hm : ∀ k, 0 < k → k < n → (k - 1) / 2 = x → leq ys j k := fun k k0 kn ke => by
        have : k = j := by omega
        subst this
        exact leq_refl _ _
      refine br_no (tst_f (by omega)) ?_
      conv => lhs; whnf
      try simp (maxSteps := 2000000) (disch := omega) only [NN, Ty.den, dflt_kv]
      repeat (refine br_go ?_ ?_; (focus (((repeat' first | exact rfl | exact ordB_st rfl | exact ordB_of rfl | apply band | apply tst_t | apply nt_t)  <;> (try dsimp only [Ty.den, dflt_kv]) <;> (try simp only [LL, List.length_set]) <;> (first | trivial | assumption | omega | (change (_ : Int) ≤ _; omega) | (change (_ : Int) < _; omega) | (change (_ : Nat) * 1 ≤ _; omega) | (change (_ : Nat) * 48 ≤ _; omega) | (change (_ : Nat) * 24 ≤ _; omega) | (change (_ : Nat) * 8 ≤ _; omega) | (change (_ : Nat) * 64 ≤ _; omega) | decide)); done)); (conv => lhs; whnf); (try simp (maxSteps := 2000000) (disch := omega) only [NN, Ty.den, dflt_kv]))
      refine br_go (tst_t (lp j x (by omega) (by omega))) ?_
      conv => lhs; whnf
      try simp (maxSteps := 2000000) (disch := omega) only [NN, Ty.den, dflt_kv]
      by_cases c2 : order (hd ((List.take w ys).getD j [])) (hd ((List.take w ys).getD x [])) < 0
      · refine br_no (nt_f c2) ?_
        conv => lhs; whnf
        try simp (maxSteps := 2000000) (disch := omega) only [NN, Ty.den, dflt_kv]
        repeat (refine br_go ?_ ?_; (focus (((repeat' first | exact rfl | exact ordB_st rfl | exact ordB_of rfl | apply band | apply tst_t | apply nt_t)  <;> (try dsimp only [Ty.den, dflt_kv]) <;> (try simp only [LL, List.length_set]) <;> (first | trivial | assumption | omega | (change (_ : Int) ≤ _; omega) | (change (_ : Int) < _; omega) | (change (_ : Nat) * 1 ≤ _; omega) | (change (_ : Nat) * 48 ≤ _; omega) | (change (_ : Nat) * 24 ≤ _; omega) | (change (_ : Nat) * 8 ≤ _; omega) | (change (_ : Nat) * 64 ≤ _; omega) | decide)); done)); (conv => lhs; whnf); (try simp (maxSteps := 2000000) (disch := omega) only [NN, Ty.den, dflt_kv]))
        try simp (maxSteps := 2000000) (disch := omega) only [NN, Ty.den, dflt_kv, Nat.zero_add]
        exact hK2 (j, swp ys x j) ⟨⟨by show lo ≤ j; omega, .inl (by show j < n; omega)⟩, ⟨(swp_perm (by omega) (by omega)).trans d3, by show List.drop n (swp ys x j) = _; rw [swp_drop (by omega) (by omega)]; exact d3b⟩, d4.step (by omega) d1 (by omega) ⟨by omega, by omega⟩ hm ((less_iff (by omega) (by omega)).1 c2)⟩ (by show n - j < n - x; omega)
      · refine br_go (nt_t c2) ?_
        conv => lhs; whnf
        try simp (maxSteps := 2000000) (disch := omega) only [NN, Ty.den, dflt_kv]
        repeat (refine br_go ?_ ?_; (focus (((repeat' first | exact rfl | exact ordB_st rfl | exact ordB_of rfl | apply band | apply tst_t | apply nt_t)  <;> (try dsimp only [Ty.den, dflt_kv]) <;> (try simp only [LL, List.length_set]) <;> (first | trivial | assumption | omega | (change (_ : Int) ≤ _; omega) | (change (_ : Int) < _; omega) | (change (_ : Nat) * 1 ≤ _; omega) | (change (_ : Nat) * 48 ≤ _; omega) | (change (_ : Nat) * 24 ≤ _; omega) | (change (_ : Nat) * 8 ≤ _; omega) | (change (_ : Nat) * 64 ≤ _; omega) | decide)); done)); (conv => lhs; whnf); (try simp (maxSteps := 2000000) (disch := omega) only [NN, Ty.den, dflt_kv]))
        rw [hkd]
        conv => lhs; whnf
        try simp (maxSteps := 2000000) (disch := omega) only [NN, Ty.den, dflt_kv]
        repeat (refine br_go ?_ ?_; (focus (((repeat' first | exact rfl | exact ordB_st rfl | exact ordB_of rfl | apply band | apply tst_t | apply nt_t)  <;> (try dsimp only [Ty.den, dflt_kv]) <;> (try simp only [LL, List.length_set]) <;> (first | trivial | assumption | omega | (change (_ : Int) ≤ _; omega) | (change (_ : Int) < _; omega) | (change (_ : Nat) * 1 ≤ _; omega) | (change (_ : Nat) * 48 ≤ _; omega) | (change (_ : Nat) * 24 ≤ _; omega) | (change (_ : Nat) * 8 ≤ _; omega) | (change (_ : Nat) * 64 ≤ _; omega) | decide)); done)); (conv => lhs; whnf); (try simp (maxSteps := 2000000) (disch := omega) only [NN, Ty.den, dflt_kv]))
        exact hK ys _ d3 d3b (d4.stop (fun k k0 kn ke => leq_trans (leq_of (fun h => c2 ((less_iff (by omega) (by omega)).2 h))) (hm k k0 kn ke)))
  · refine br_go (tst_t (by omega)) ?_
    conv => lhs; whnf
    try simp (maxSteps := 2000000) (disch := omega) only [NN, Ty.den, dflt_kv]
    repeat (refine br_go ?_ ?_; (focus (((repeat' first | exact rfl | exact ordB_st rfl | exact ordB_of rfl | apply band | apply tst_t | apply nt_t)  <;> (try dsimp only [Ty.den, dflt_kv]) <;> (try simp only [LL, List.length_set]) <;> (first | trivial | assumption | omega | (change (_ : Int) ≤ _; omega) | (change (_ : Int) < _; omega) | (change (_ : Nat) * 1 ≤ _; omega) | (change (_ : Nat) * 48 ≤ _; omega) | (change (_ : Nat) * 24 ≤ _; omega) | (change (_ : Nat) * 8 ≤ _; omega) | (change (_ : Nat) * 64 ≤ _; omega) | decide)); done)); (conv => lhs; whnf); (try simp (maxSteps := 2000000) (disch := omega) only [NN, Ty.den, dflt_kv]))
    rw [hkd]
    conv => lhs; whnf
    try simp (maxSteps := 2000000) (disch := omega) only [NN, Ty.den, dflt_kv]
    repeat (refine br_go ?_ ?_; (focus (((repeat' first | exact rfl | exact ordB_st rfl | exact ordB_of rfl | apply band | apply tst_t | apply nt_t)  <;> (try dsimp only [Ty.den, dflt_kv]) <;> (try simp only [LL, List.length_set]) <;> (first | trivial | assumption | omega | (change (_ : Int) ≤ _; omega) | (change (_ : Int) < _; omega) | (change (_ : Nat) * 1 ≤ _; omega) | (change (_ : Nat) * 48 ≤ _; omega) | (change (_ : Nat) * 24 ≤ _; omega) | (change (_ : Nat) * 8 ≤ _; omega) | (change (_ : Nat) * 64 ≤ _; omega) | decide)); done)); (conv => lhs; whnf); (try simp (maxSteps := 2000000) (disch := omega) only [NN, Ty.den, dflt_kv]))
    exact hK ys _ d3 d3b (d4.stop (fun k k0 kn ke => by omega))
theorem down_pop (T : Tab) (F d : Nat) (hF : 10 ≤ F) (h7 : T 106 = lessSp.ent) (n8 : T 109 = none) (m : Nat) : DownK (inlH ctxOf T F fnOf (d + 2)) [.gone, .gone, .fam m, .gone, .gone, .gone, .gone, .gone, .gone] := by
  rw [on_top h7, off_top n8]
  intro k w n lo id xs K r hn8 hl8 hnw hwl hfine hheap hK
  rw [inlE ctxOf _ F fnOf (d + 1) 78 F78 (by kernel_rfl) _ id _ K 12 rfl]
  have hxl := hwl
  conv => lhs; whnf
  try simp (maxSteps := 2000000) (disch := omega) only [NN, Ty.den, dflt_kv]
  refine loop_ruleK (α := Nat × List (List KV)) (fun s => (lo ≤ s.1 ∧ (s.1 < n ∨ s.1 = lo)) ∧ (s.2.Perm xs ∧ s.2.drop n = xs.drop n) ∧ HeapX s.2 n lo s.1) (fun s => n - s.1)
    (fun s => (V.ifc 113 (V.p 2 0) :: vI (lo : Nat) :: vI (n : Nat) :: V.bad :: V.bad :: V.bad :: V.bad :: vI s.1 :: V.bad :: V.bad :: V.bad :: V.bad :: V.bad :: V.bad :: V.bad :: V.bad :: V.bad :: V.bad :: V.bad :: V.bad :: V.bad :: V.bad :: V.bad :: V.bad :: V.bad :: V.bad :: V.bad :: V.bad :: V.bad :: V.bad :: V.bad :: V.bad :: V.bad :: V.bad :: V.bad :: V.bad :: V.bad :: V.bad :: V.bad :: V.bad :: V.bad :: V.bad :: V.bad :: V.bad :: V.bad :: V.bad :: V.bad :: V.bad :: []))
    (fun s => S3 k w s.2 [.gone, .gone, .fam m, .gone, .gone, .gone, .gone, .gone, .gone])
    (fun _ => r) ?_ F (lo, xs) ⟨⟨Nat.le_refl _, .inr rfl⟩, ⟨.refl _, rfl⟩, hheap⟩ (by show n - lo < F; omega)
  rintro kkd hkd ⟨x, ys⟩ K2 ⟨⟨d1, d2⟩, ⟨d3, d3b⟩, d4⟩ hK2
  simp only at d1 d2 d3 d3b d4 hK2 ⊢
  have hyl : ys.length = xs.length := d3.length_eq
  have hyf := hfine.perm d3
  have lp : ∀ a b : Nat, a < n → b < n → lessPre (List.take w ys) (a : Int) (b : Int) := fun a b ha hb => less_pre (by omega) hyf.ne hyf.ok (by omega) (by omega)
  conv => lhs; whnf
  try simp (maxSteps := 2000000) (disch := omega) only [NN, Ty.den, dflt_kv]
  obtain ⟨j, hj1⟩ : ∃ j : Nat, j = 2 * x + 1 := ⟨_, rfl⟩
  have ej1 : (2 * (x : Int) + 1) = (j : Int) := by omega
  have hx8 : x ≤ 9 := by omega
  try simp (maxSteps := 2000000) (disch := omega) only [NN, Ty.den, dflt_kv, ej1]
  by_cases hj : j < n
  · refine br_no (tst_f (by omega)) ?_
    conv => lhs; whnf
    try simp (maxSteps := 2000000) (disch := omega) only [NN, Ty.den, dflt_kv]
    refine br_no (tst_f (by omega)) ?_
    conv => lhs; whnf
    try simp (maxSteps := 2000000) (disch := omega) only [NN, Ty.den, dflt_kv]
    repeat (refine br_go ?_ ?_; (focus (((repeat' first | exact rfl | exact ordB_st rfl | exact ordB_of rfl | apply band | apply tst_t | apply nt_t)  <;> (try dsimp only [Ty.den, dflt_kv]) <;> (try simp only [LL, List.length_set]) <;> (first | trivial | assumption | omega | (change (_ : Int) ≤ _; omega) | (change (_ : Int) < _; omega) | (change (_ : Nat) * 1 ≤ _; omega) | (change (_ : Nat) * 48 ≤ _; omega) | (change (_ : Nat) * 24 ≤ _; omega) | (change (_ : Nat) * 8 ≤ _; omega) | (change (_ : Nat) * 64 ≤ _; omega) | decide)); done)); (conv => lhs; whnf); (try simp (maxSteps := 2000000) (disch := omega) only [NN, Ty.den, dflt_kv]))
    by_cases hj2 : j + 1 < n
    · have ej2 : ((j : Int) + 1) = ((j + 1 : Nat) : Int) := by omega
      refine br_go (tst_t (by omega)) ?_
      conv => lhs; whnf
      try simp (maxSteps := 2000000) (disch := omega) only [NN, Ty.den, dflt_kv]
      try simp (maxSteps := 2000000) (disch := omega) only [NN, Ty.den, dflt_kv, ej2]
      repeat (refine br_go ?_ ?_; (focus (((repeat' first | exact rfl | exact ordB_st rfl | exact ordB_of rfl | apply band | apply tst_t | apply nt_t)  <;> (try dsimp only [Ty.den, dflt_kv]) <;> (try simp only [LL, List.length_set]) <;> (first | trivial | assumption | omega | (change (_ : Int) ≤ _; omega) | (change (_ : Int) < _; omega) | (change (_ : Nat) * 1 ≤ _; omega) | (change (_ : Nat) * 48 ≤ _; omega) | (change (_ : Nat) * 24 ≤ _; omega) | (change (_ : Nat) * 8 ≤ _; omega) | (change (_ : Nat) * 64 ≤ _; omega) | decide)); done)); (conv => lhs; whnf); (try simp (maxSteps := 2000000) (disch := omega) only [NN, Ty.den, dflt_kv]))
      refine br_go (tst_t (lp (j + 1) j hj2 hj)) ?_
      conv => lhs; whnf
      try simp (maxSteps := 2000000) (disch := omega) only [NN, Ty.den, dflt_kv]
      by_cases c : order (hd ((List.take w ys).getD (j + 1) [])) (hd ((List.take w ys).getD j [])) < 0
      · have hm : ∀ k, 0 < k → k < n → (k - 1) / 2 = x → leq ys (j + 1) k := fun k k0 kn ke => by
          have : k = j ∨ k = j + 1 := by omega
          rcases this with rfl | rfl
          · exact Int.le_of_lt ((less_iff (by omega) (by omega)).1 c)
          · exact leq_refl _ _
        refine br_go (tst_t (c)) ?_
        conv => lhs; whnf
        try simp (maxSteps := 2000000) (disch := omega) only [NN, Ty.den, dflt_kv]
        repeat (refine br_go ?_ ?_; (focus (((repeat' first | exact rfl | exact ordB_st rfl | exact ordB_of rfl | apply band | apply tst_t | apply nt_t)  <;> (try dsimp only [Ty.den, dflt_kv]) <;> (try simp only [LL, List.length_set]) <;> (first | trivial | assumption | omega | (change (_ : Int) ≤ _; omega) | (change (_ : Int) < _; omega) | (change (_ : Nat) * 1 ≤ _; omega) | (change (_ : Nat) * 48 ≤ _; omega) | (change (_ : Nat) * 24 ≤ _; omega) | (change (_ : Nat) * 8 ≤ _; omega) | (change (_ : Nat) * 64 ≤ _; omega) | decide)); done)); (conv => lhs; whnf); (try simp (maxSteps := 2000000) (disch := omega) only [NN, Ty.den, dflt_kv]))
        refine br_go (tst_t (lp (j + 1) x (by omega) (by omega))) ?_
        conv => lhs; whnf
        try simp (maxSteps := 2000000) (disch := omega) only [NN, Ty.den, dflt_kv]
        by_cases c2 : order (hd ((List.take w ys).getD (j + 1) [])) (hd ((List.take w ys).getD x [])) < 0
        · refine br_no (nt_f c2) ?_
          conv => lhs; whnf
          try simp (maxSteps := 2000000) (disch := omega) only [NN, Ty.den, dflt_kv]
          repeat (refine br_go ?_ ?_; (focus (((repeat' first | exact rfl | exact ordB_st rfl | exact ordB_of rfl | apply band | apply tst_t | apply nt_t)  <;> (try dsimp only [Ty.den, dflt_kv]) <;> (try simp only [LL, List.length_set]) <;> (first | trivial | assumption | omega | (change (_ : Int) ≤ _; omega) | (change (_ : Int) < _; omega) | (change (_ : Nat) * 1 ≤ _; omega) | (change (_ : Nat) * 48 ≤ _; omega) | (change (_ : Nat) * 24 ≤ _; omega) | (change (_ : Nat) * 8 ≤ _; omega) | (change (_ : Nat) * 64 ≤ _; omega) | decide)); done)); (conv => lhs; whnf); (try simp (maxSteps := 2000000) (disch := omega) only [NN, Ty.den, dflt_kv]))
          try simp (maxSteps := 2000000) (disch := omega) only [NN, Ty.den, dflt_kv, Nat.zero_add]
          exact hK2 ((j + 1), swp ys x (j + 1)) ⟨⟨by show lo ≤ (j + 1); omega, .inl (by show (j + 1) < n; omega)⟩, ⟨(swp_perm (by omega) (by omega)).trans d3, by show List.drop n (swp ys x (j + 1)) = _; rw [swp_drop (by omega) (by omega)]; exact d3b⟩, d4.step (by omega) d1 (by omega) ⟨by omega, by omega⟩ hm ((less_iff (by omega) (by omega)).1 c2)⟩ (by show n - (j + 1) < n - x; omega)
        · refine br_go (nt_t c2) ?_
          conv => lhs; whnf
          try simp (maxSteps := 2000000) (disch := omega) only [NN, Ty.den, dflt_kv]
          repeat (refine br_go ?_ ?_; (focus (((repeat' first | exact rfl | exact ordB_st rfl | exact ordB_of rfl | apply band | apply tst_t | apply nt_t)  <;> (try dsimp only [Ty.den, dflt_kv]) <;> (try simp only [LL, List.length_set]) <;> (first | trivial | assumption | omega | (change (_ : Int) ≤ _; omega) | (change (_ : Int) < _; omega) | (change (_ : Nat) * 1 ≤ _; omega) | (change (_ : Nat) * 48 ≤ _; omega) | (change (_ : Nat) * 24 ≤ _; omega) | (change (_ : Nat) * 8 ≤ _; omega) | (change (_ : Nat) * 64 ≤ _; omega) | decide)); done)); (conv => lhs; whnf); (try simp (maxSteps := 2000000) (disch := omega) only [NN, Ty.den, dflt_kv]))
          rw [hkd]
          conv => lhs; whnf
          try simp (maxSteps := 2000000) (disch := omega) only [NN, Ty.den, dflt_kv]
          repeat (refine br_go ?_ ?_; (focus (((repeat' first | exact rfl | exact ordB_st rfl | exact ordB_of rfl | apply band | apply tst_t | apply nt_t)  <;> (try dsimp only [Ty.den, dflt_kv]) <;> (try simp only [LL, List.length_set]) <;> (first | trivial | assumption | omega | (change (_ : Int) ≤ _; omega) | (change (_ : Int) < _; omega) | (change (_ : Nat) * 1 ≤ _; omega) | (change (_ : Nat) * 48 ≤ _; omega) | (change (_ : Nat) * 24 ≤ _; omega) | (change (_ : Nat) * 8 ≤ _; omega) | (change (_ : Nat) * 64 ≤ _; omega) | decide)); done)); (conv => lhs; whnf); (try simp (maxSteps := 2000000) (disch := omega) only [NN, Ty.den, dflt_kv]))
          exact hK ys _ d3 d3b (d4.stop (fun k k0 kn ke => leq_trans (leq_of (fun h => c2 ((less_iff (by omega) (by omega)).2 h))) (hm k k0 kn ke)))
      · have hm : ∀ k, 0 < k → k < n → (k - 1) / 2 = x → leq ys j k := fun k k0 kn ke => by
          have : k = j ∨ k = j + 1 := by omega
          rcases this with rfl | rfl
          · exact leq_refl _ _
          · exact leq_of (fun h => c ((less_iff (by omega) (by omega)).2 h))
        refine br_no (tst_f (c)) ?_
        conv => lhs; whnf
        try simp (maxSteps := 2000000) (disch := omega) only [NN, Ty.den, dflt_kv]
        repeat (refine br_go ?_ ?_; (focus (((repeat' first | exact rfl | exact ordB_st rfl | exact ordB_of rfl | apply band | apply tst_t | apply nt_t)  <;> (try dsimp only [Ty.den, dflt_kv]) <;> (try simp only [LL, List.length_set]) <;> (first | trivial | assumption | omega | (change (_ : Int) ≤ _; omega) | (change (_ : Int) < _; omega) | (change (_ : Nat) * 1 ≤ _; omega) | (change (_ : Nat) * 48 ≤ _; omega) | (change (_ : Nat) * 24 ≤ _; omega) | (change (_ : Nat) * 8 ≤ _; omega) | (change (_ : Nat) * 64 ≤ _; omega) | decide)); done)); (conv => lhs; whnf); (try simp (maxSteps := 2000000) (disch := omega) only [NN, Ty.den, dflt_kv]))
        refine br_go (tst_t (lp j x (by omega) (by omega))) ?_
        conv => lhs; whnf
        try simp (maxSteps := 2000000) (disch := omega) only [NN, Ty.den, dflt_kv]
        by_cases c2 : order (hd ((List.take w ys).getD j [])) (hd ((List.take w ys).getD x [])) < 0
        · refine br_no (nt_f c2) ?_
          conv => lhs; whnf
          try simp (maxSteps := 2000000) (disch := omega) only [NN, Ty.den, dflt_kv]
          repeat (refine br_go ?_ ?_; (focus (((repeat' first | exact rfl | exact ordB_st rfl | exact ordB_of rfl | apply band | apply tst_t | apply nt_t)  <;> (try dsimp only [Ty.den, dflt_kv]) <;> (try simp only [LL, List.length_set]) <;> (first | trivial | assumption | omega | (change (_ : Int) ≤ _; omega) | (change (_ : Int) < _; omega) | (change (_ : Nat) * 1 ≤ _; omega) | (change (_ : Nat) * 48 ≤ _; omega) | (change (_ : Nat) * 24 ≤ _; omega) | (change (_ : Nat) * 8 ≤ _; omega) | (change (_ : Nat) * 64 ≤ _; omega) | decide)); done)); (conv => lhs; whnf); (try simp (maxSteps := 2000000) (disch := omega) only [NN, Ty.den, dflt_kv]))
          try simp (maxSteps := 2000000) (disch := omega) only [NN, Ty.den, dflt_kv, Nat.zero_add]
          exact hK2 (j, swp ys x j) ⟨⟨by show lo ≤ j; omega, .inl (by show j < n; omega)⟩, ⟨(swp_perm (by omega) (by omega)).trans d3, by show List.drop n (swp ys x j) = _; rw [swp_drop (by omega) (by omega)]; exact d3b⟩, d4.step (by omega) d1 (by omega) ⟨by omega, by omega⟩ hm ((less_iff (by omega) (by omega)).1 c2)⟩ (by show n - j < n - x; omega)
        · refine br_go (nt_t c2) ?_
          conv => lhs; whnf
          try simp (maxSteps := 2000000) (disch := omega) only [NN, Ty.den, dflt_kv]
          repeat (refine br_go ?_ ?_; (focus (((repeat' first | exact rfl | exact ordB_st rfl | exact ordB_of rfl | apply band | apply tst_t | apply nt_t)  <;> (try dsimp only [Ty.den, dflt_kv]) <;> (try simp only [LL, List.length_set]) <;> (first | trivial | assumption | omega | (change (_ : Int) ≤ _; omega) | (change (_ : Int) < _; omega) | (change (_ : Nat) * 1 ≤ _; omega) | (change (_ : Nat) * 48 ≤ _; omega) | (change (_ : Nat) * 24 ≤ _; omega) | (change (_ : Nat) * 8 ≤ _; omega) | (change (_ : Nat) * 64 ≤ _; omega) | decide)); done)); (conv => lhs; whnf); (try simp (maxSteps := 2000000) (disch := omega) only [NN, Ty.den, dflt_kv]))
          rw [hkd]
          conv => lhs; whnf
          try simp (maxSteps := 2000000) (disch := omega) only [NN, Ty.den, dflt_kv]
          repeat (refine br_go ?_ ?_; (focus (((repeat' first | exact rfl | exact ordB_st rfl | exact ordB_of rfl | apply band | apply tst_t | apply nt_t)  <;> (try dsimp only [Ty.den, dflt_kv]) <;> (try simp only [LL, List.length_set]) <;> (first | trivial | assumption | omega | (change (_ : Int) ≤ _; omega) | (change (_ : Int) < _; omega) | (change (_ : Nat) * 1 ≤ _; omega) | (change (_ : Nat) * 48 ≤ _; omega) | (change (_ : Nat) * 24 ≤ _; omega) | (change (_ : Nat) * 8 ≤ _; omega) | (change (_ : Nat) * 64 ≤ _; omega) | decide)); done)); (conv => lhs; whnf); (try simp (maxSteps := 2000000) (disch := omega) only [NN, Ty.den, dflt_kv]))
          exact hK ys _ d3 d3b (d4.stop (fun k k0 kn ke => leq_trans (leq_of (fun h => c2 ((less_iff (by omega) (by omega)).2 h))) (hm k k0 kn ke)))
    · have hm : ∀ k, 0 < k → k < n → (k - 1) / 2 = x → leq ys j k := fun k k0 kn ke => by
        have : k = j := by omega
        subst this
        exact leq_refl _ _
      refine br_no (tst_f (by omega)) ?_
      conv => lhs; whnf
      try simp (maxSteps := 2000000) (disch := omega) only [NN, Ty.den, dflt_kv]
      repeat (refine br_go ?_ ?_; (focus (((repeat' first | exact rfl | exact ordB_st rfl | exact ordB_of rfl | apply band | apply tst_t | apply nt_t)  <;> (try dsimp only [Ty.den, dflt_kv]) <;> (try simp only [LL, List.length_set]) <;> (first | trivial | assumption | omega | (change (_ : Int) ≤ _; omega) | (change (_ : Int) < _; omega) | (change (_ : Nat) * 1 ≤ _; omega) | (change (_ : Nat) * 48 ≤ _; omega) | (change (_ : Nat) * 24 ≤ _; omega) | (change (_ : Nat) * 8 ≤ _; omega) | (change (_ : Nat) * 64 ≤ _; omega) | decide)); done)); (conv => lhs; whnf); (try simp (maxSteps := 2000000) (disch := omega) only [NN, Ty.den, dflt_kv]))
      refine br_go (tst_t (lp j x (by omega) (by omega))) ?_
      conv => lhs; whnf
      try simp (maxSteps := 2000000) (disch := omega) only [NN, Ty.den, dflt_kv]
      by_cases c2 : order (hd ((List.take w ys).getD j [])) (hd ((List.take w ys).getD x [])) < 0
      · refine br_no (nt_f c2) ?_
        conv => lhs; whnf
        try simp (maxSteps := 2000000) (disch := omega) only [NN, Ty.den, dflt_kv]
        repeat (refine br_go ?_ ?_; (focus (((repeat' first | exact rfl | exact ordB_st rfl | exact ordB_of rfl | apply band | apply tst_t | apply nt_t)  <;> (try dsimp only [Ty.den, dflt_kv]) <;> (try simp only [LL, List.length_set]) <;> (first | trivial | assumption | omega | (change (_ : Int) ≤ _; omega) | (change (_ : Int) < _; omega) | (change (_ : Nat) * 1 ≤ _; omega) | (change (_ : Nat) * 48 ≤ _; omega) | (change (_ : Nat) * 24 ≤ _; omega) | (change (_ : Nat) * 8 ≤ _; omega) | (change (_ : Nat) * 64 ≤ _; omega) | decide)); done)); (conv => lhs; whnf); (try simp (maxSteps := 2000000) (disch := omega) only [NN, Ty.den, dflt_kv]))
        try simp (maxSteps := 2000000) (disch := omega) only [NN, Ty.den, dflt_kv, Nat.zero_add]
        exact hK2 (j, swp ys x j) ⟨⟨by show lo ≤ j; omega, .inl (by show j < n; omega)⟩, ⟨(swp_perm (by omega) (by omega)).trans d3, by show List.drop n (swp ys x j) = _; rw [swp_drop (by omega) (by omega)]; exact d3b⟩, d4.step (by omega) d1 (by omega) ⟨by omega, by omega⟩ hm ((less_iff (by omega) (by omega)).1 c2)⟩ (by show n - j < n - x; omega)
      · refine br_go (nt_t c2) ?_
        conv => lhs; whnf
        try simp (maxSteps := 2000000) (disch := omega) only [NN, Ty.den, dflt_kv]
        repeat (refine br_go ?_ ?_; (focus (((repeat' first | exact rfl | exact ordB_st rfl | exact ordB_of rfl | apply band | apply tst_t | apply nt_t)  <;> (try dsimp only [Ty.den, dflt_kv]) <;> (try simp only [LL, List.length_set]) <;> (first | trivial | assumption | omega | (change (_ : Int) ≤ _; omega) | (change (_ : Int) < _; omega) | (change (_ : Nat) * 1 ≤ _; omega) | (change (_ : Nat) * 48 ≤ _; omega) | (change (_ : Nat) * 24 ≤ _; omega) | (change (_ : Nat) * 8 ≤ _; omega) | (change (_ : Nat) * 64 ≤ _; omega) | decide)); done)); (conv => lhs; whnf); (try simp (maxSteps := 2000000) (disch := omega) only [NN, Ty.den, dflt_kv]))
        rw [hkd]
        conv => lhs; whnf
        try simp (maxSteps := 2000000) (disch := omega) only [NN, Ty.den, dflt_kv]
        repeat (refine br_go ?_ ?_; (focus (((repeat' first | exact rfl | exact ordB_st rfl | exact ordB_of rfl | apply band | apply tst_t | apply nt_t)  <;> (try dsimp only [Ty.den, dflt_kv]) <;> (try simp only [LL, List.length_set]) <;> (first | trivial | assumption | omega | (change (_ : Int) ≤ _; omega) | (change (_ : Int) < _; omega) | (change (_ : Nat) * 1 ≤ _; omega) | (change (_ : Nat) * 48 ≤ _; omega) | (change (_ : Nat) * 24 ≤ _; omega) | (change (_ : Nat) * 8 ≤ _; omega) | (change (_ : Nat) * 64 ≤ _; omega) | decide)); done)); (conv => lhs; whnf); (try simp (maxSteps := 2000000) (disch := omega) only [NN, Ty.den, dflt_kv]))
        exact hK ys _ d3 d3b (d4.stop (fun k k0 kn ke => leq_trans (leq_of (fun h => c2 ((less_iff (by omega) (by omega)).2 h))) (hm k k0 kn ke)))
  · refine br_go (tst_t (by omega)) ?_
    conv => lhs; whnf
    try simp (maxSteps := 2000000) (disch := omega) only [NN, Ty.den, dflt_kv]
    repeat (refine br_go ?_ ?_; (focus (((repeat' first | exact rfl | exact ordB_st rfl | exact ordB_of rfl | apply band | apply tst_t | apply nt_t)  <;> (try dsimp only [Ty.den, dflt_kv]) <;> (try simp only [LL, List.length_set]) <;> (first | trivial | assumption | omega | (change (_ : Int) ≤ _; omega) | (change (_ : Int) < _; omega) | (change (_ : Nat) * 1 ≤ _; omega) | (change (_ : Nat) * 48 ≤ _; omega) | (change (_ : Nat) * 24 ≤ _; omega) | (change (_ : Nat) * 8 ≤ _; omega) | (change (_ : Nat) * 64 ≤ _; omega) | decide)); done)); (conv => lhs; whnf); (try simp (maxSteps := 2000000) (disch := omega) only [NN, Ty.den, dflt_kv]))
    rw [hkd]
    conv => lhs; whnf
    try simp (maxSteps := 2000000) (disch := omega) only [NN, Ty.den, dflt_kv]
    repeat (refine br_go ?_ ?_; (focus (((repeat' first | exact rfl | exact ordB_st rfl | exact ordB_of rfl | apply band | apply tst_t | apply nt_t)  <;> (try dsimp only [Ty.den, dflt_kv]) <;> (try simp only [LL, List.length_set]) <;> (first | trivial | assumption | omega | (change (_ : Int) ≤ _; omega) | (change (_ : Int) < _; omega) | (change (_ : Nat) * 1 ≤ _; omega) | (change (_ : Nat) * 48 ≤ _; omega) | (change (_ : Nat) * 24 ≤ _; omega) | (change (_ : Nat) * 8 ≤ _; omega) | (change (_ : Nat) * 64 ≤ _; omega) | decide)); done)); (conv => lhs; whnf); (try simp (maxSteps := 2000000) (disch := omega) only [NN, Ty.den, dflt_kv]))
    exact hK ys _ d3 d3b (d4.stop (fun k k0 kn ke => by omega))
end Go.Proofs.Ytmpmmfbgdpfnpaa.Ev
/- Lists merged by a heap: heap.Init, heap.Pop, heap.Push, each by what is behind it. -/
namespace Go.Proofs.Ytmpmmfbgdpfnpaa.Ev
open Go Go.RowKit
set_option linter.unusedVariables false
set_option linter.unusedSimpArgs false
set_option maxRecDepth 100000
set_option maxHeartbeats 8000000
--safe List.length_set
def InitK (call : CallH V) (tl : List Ent) : Prop := ∀ (k id : Nat) (xs : List (List KV)) (K : V → List Ent → Option V) (r : Option V), xs.length ≤ 9 → RowFine xs →
  (∀ ys : List (List KV), ys.Perm xs → HeapX ys xs.length 0 xs.length → K (.tup []) (S3 k xs.length ys tl) = r) → call 61 [qp] id (S3 k xs.length xs tl) K = r
theorem init_gen (T : Tab) (F : Nat) (call : CallH V) (hF : 20 ≤ F) (h6 : T 62 = lenQSp.ent) (n4 : T 78 = none) (hD : DownK call [.gone, .gone, .gone, .gone]) (k : Nat) (xs : List (List KV)) (K : V → List Ent → Option V) (r : Option V) (h8 : xs.length ≤ 9) (hfine : RowFine xs)
    (hK : ∀ ys : List (List KV), ys.Perm xs → HeapX ys xs.length 0 xs.length → K (.tup []) (S3 k xs.length ys [.gone, .gone, .gone]) = r) : evFn (ctxOf 61) T call F F61 [qp] (S3 k xs.length xs [.gone, .gone]) K = r := by
  rw [on_top h6, off_top n4]
  conv => lhs; whnf
  try simp (maxSteps := 2000000) (disch := omega) only [NN, Ty.den, dflt_kv]
  repeat (refine br_go ?_ ?_; (focus (((repeat' first | exact rfl | exact ordB_st rfl | exact ordB_of rfl | apply band | apply tst_t | apply nt_t)  <;> (try dsimp only [Ty.den, dflt_kv]) <;> (try simp only [LL, List.length_set]) <;> (first | trivial | assumption | omega | (change (_ : Int) ≤ _; omega) | (change (_ : Int) < _; omega) | (change (_ : Nat) * 1 ≤ _; omega) | (change (_ : Nat) * 48 ≤ _; omega) | (change (_ : Nat) * 24 ≤ _; omega) | (change (_ : Nat) * 8 ≤ _; omega) | (change (_ : Nat) * 64 ≤ _; omega) | decide)); done)); (conv => lhs; whnf); (try simp (maxSteps := 2000000) (disch := omega) only [NN, Ty.den, dflt_kv]))
  have e0 : ((xs.length : Int) / 2 - 1) = ((xs.length / 2 : Nat) : Int) - 1 := by omega
  rw [e0]
  refine loop_ruleK (α := Nat × List (List KV)) (fun s => s.1 ≤ xs.length / 2 ∧ s.2.Perm xs ∧ HeapX s.2 xs.length s.1 xs.length) (fun s => s.1)
    (fun s => (V.ifc 113 (V.p 2 0) :: V.bad :: vI xs.length :: vI ((s.1 : Int) - 1) :: V.bad :: V.bad :: V.bad :: V.bad :: V.bad :: V.bad :: V.bad :: V.bad :: V.bad :: V.bad :: V.bad :: V.bad :: V.bad :: []))
    (fun s => S3 k xs.length s.2 [.gone, .gone, .gone])
    (fun _ => r) ?_ F (xs.length / 2, xs) ⟨Nat.le_refl _, .refl _, heap_half (by omega)⟩ (by show xs.length / 2 < F; omega)
  rintro kki hki ⟨i1, zs⟩ K1 ⟨g1, g2, g3⟩ hK1
  simp only at g1 g2 g3 hK1 ⊢
  have hzl : zs.length = xs.length := g2.length_eq
  conv => lhs; whnf
  try simp (maxSteps := 2000000) (disch := omega) only [NN, Ty.den, dflt_kv]
  by_cases hi1 : i1 = 0
  · subst hi1
    refine br_no (tst_f (by omega)) ?_
    conv => lhs; whnf
    try simp (maxSteps := 2000000) (disch := omega) only [NN, Ty.den, dflt_kv]
    repeat (refine br_go ?_ ?_; (focus (((repeat' first | exact rfl | exact ordB_st rfl | exact ordB_of rfl | apply band | apply tst_t | apply nt_t)  <;> (try dsimp only [Ty.den, dflt_kv]) <;> (try simp only [LL, List.length_set]) <;> (first | trivial | assumption | omega | (change (_ : Int) ≤ _; omega) | (change (_ : Int) < _; omega) | (change (_ : Nat) * 1 ≤ _; omega) | (change (_ : Nat) * 48 ≤ _; omega) | (change (_ : Nat) * 24 ≤ _; omega) | (change (_ : Nat) * 8 ≤ _; omega) | (change (_ : Nat) * 64 ≤ _; omega) | decide)); done)); (conv => lhs; whnf); (try simp (maxSteps := 2000000) (disch := omega) only [NN, Ty.den, dflt_kv]))
    rw [hki]
    conv => lhs; whnf
    try simp (maxSteps := 2000000) (disch := omega) only [NN, Ty.den, dflt_kv]
    repeat (refine br_go ?_ ?_; (focus (((repeat' first | exact rfl | exact ordB_st rfl | exact ordB_of rfl | apply band | apply tst_t | apply nt_t)  <;> (try dsimp only [Ty.den, dflt_kv]) <;> (try simp only [LL, List.length_set]) <;> (first | trivial | assumption | omega | (change (_ : Int) ≤ _; omega) | (change (_ : Int) < _; omega) | (change (_ : Nat) * 1 ≤ _; omega) | (change (_ : Nat) * 48 ≤ _; omega) | (change (_ : Nat) * 24 ≤ _; omega) | (change (_ : Nat) * 8 ≤ _; omega) | (change (_ : Nat) * 64 ≤ _; omega) | decide)); done)); (conv => lhs; whnf); (try simp (maxSteps := 2000000) (disch := omega) only [NN, Ty.den, dflt_kv]))
    exact hK zs g2 g3
  · refine br_go (tst_t (by omega)) ?_
    conv => lhs; whnf
    try simp (maxSteps := 2000000) (disch := omega) only [NN, Ty.den, dflt_kv]
    repeat (refine br_go ?_ ?_; (focus (((repeat' first | exact rfl | exact ordB_st rfl | exact ordB_of rfl | apply band | apply tst_t | apply nt_t)  <;> (try dsimp only [Ty.den, dflt_kv]) <;> (try simp only [LL, List.length_set]) <;> (first | trivial | assumption | omega | (change (_ : Int) ≤ _; omega) | (change (_ : Int) < _; omega) | (change (_ : Nat) * 1 ≤ _; omega) | (change (_ : Nat) * 48 ≤ _; omega) | (change (_ : Nat) * 24 ≤ _; omega) | (change (_ : Nat) * 8 ≤ _; omega) | (change (_ : Nat) * 64 ≤ _; omega) | decide)); done)); (conv => lhs; whnf); (try simp (maxSteps := 2000000) (disch := omega) only [NN, Ty.den, dflt_kv]))
    have ex : ((i1 : Int) - 1) = ((i1 - 1 : Nat) : Int) := by omega
    try simp (maxSteps := 2000000) (disch := omega) only [NN, Ty.den, dflt_kv, ex]
    refine hD k xs.length xs.length (i1 - 1) _ zs _ r h8 (by omega) (Nat.le_refl _) (by omega) (hfine.perm g2) (by rw [show i1 = (i1 - 1) + 1 by omega] at g3; exact g3.lower) (fun ys b y1 y2 y3 => ?_)
    conv => lhs; whnf
    try simp (maxSteps := 2000000) (disch := omega) only [NN, Ty.den, dflt_kv]
    repeat (refine br_go ?_ ?_; (focus (((repeat' first | exact rfl | exact ordB_st rfl | exact ordB_of rfl | apply band | apply tst_t | apply nt_t)  <;> (try dsimp only [Ty.den, dflt_kv]) <;> (try simp only [LL, List.length_set]) <;> (first | trivial | assumption | omega | (change (_ : Int) ≤ _; omega) | (change (_ : Int) < _; omega) | (change (_ : Nat) * 1 ≤ _; omega) | (change (_ : Nat) * 48 ≤ _; omega) | (change (_ : Nat) * 24 ≤ _; omega) | (change (_ : Nat) * 8 ≤ _; omega) | (change (_ : Nat) * 64 ≤ _; omega) | decide)); done)); (conv => lhs; whnf); (try simp (maxSteps := 2000000) (disch := omega) only [NN, Ty.den, dflt_kv]))
    exact hK1 (i1 - 1, ys) ⟨by show i1 - 1 ≤ _; omega, y1.trans g2, y3⟩ (by show i1 - 1 < i1; omega)
theorem wrap_init (k w : Nat) (ys : List (List KV)) (K : V → List Ent → Option V) : wrapE 5 (.tup []) (S3 k w ys [.gone, .gone, .gone]) K = K (.tup []) (S3 k w ys [.gone, .gone]) := rfl
theorem initK_ok (T : Tab) (F d : Nat) (hF : 20 ≤ F) (h6 : T 62 = lenQSp.ent) (h7 : T 106 = lessSp.ent) (n8 : T 109 = none) (n4 : T 78 = none) : InitK (inlH ctxOf T F fnOf (d + 3)) [.gone, .gone] := by
  intro k id xs K r h8 hfine hK
  rw [inlE ctxOf T F fnOf (d + 2) 61 F61 (by kernel_rfl) _ id _ K 5 rfl]
  refine init_gen T F _ hF h6 n4 (down_init T F d (by omega) h7 n8) k xs _ r h8 hfine (fun ys y1 y2 => ?_)
  rw [wrap_init]
  exact hK ys y1 y2
/-- two lists change places -/
def SwapK (call : CallH V) (tl : List Ent) : Prop := ∀ (k w i j id : Nat) (xs : List (List KV)) (K : V → List Ent → Option V), i < w → j < w → w ≤ xs.length → w ≤ 16 →
  call 109 [.sr 1 k 0 w 1 .full, vI i, vI j] id (S3 k w xs tl) K = K (.tup []) (S3 k w (swp xs i j) tl)
def QPopK (call : CallH V) (tl : List Ent) : Prop := ∀ (k n id : Nat) (xs : List (List KV)) (K : V → List Ent → Option V), n + 1 ≤ xs.length → n ≤ 16 →
  call 107 [.p 2 0] id (S3 k (n + 1) xs tl) K = K (.ifc 27 (.d kvl (xs.getD n []))) (S3 k n xs tl)
def QPushK (call : CallH V) (tl : List Ent) : Prop := ∀ (k n id : Nat) (xs : List (List KV)) (y : List KV) (K : V → List Ent → Option V), n ≤ xs.length → n ≤ 16 →
  call 108 [.p 2 0, .ifc 27 (.d kvl y)] id (S3 k n xs tl) K = K (.tup []) (S3 (k + 1) (n + 1) (xs.take n ++ [y] ++ xs.drop (n + 1)) tl)
def UpK (call : CallH V) (tl : List Ent) : Prop := ∀ (k w x id : Nat) (xs : List (List KV)) (K : V → List Ent → Option V) (r : Option V), w ≤ 9 → x < w → w ≤ xs.length → RowFine xs → UpX xs w x →
  (∀ (ys : List (List KV)), ys.Perm xs → ys.drop w = xs.drop w → HeapX ys w 0 w → K (.tup []) (S3 k w ys tl) = r) → call 79 [qp, vI x] id (S3 k w xs tl) K = r
theorem swap_pop (T : Tab) (F d : Nat) (m : Nat) : SwapK (inlH ctxOf T F fnOf (d + 1)) [.gone, .gone, .fam m, .gone, .gone, .gone, .gone, .gone] := by
  intro k w i j id xs K hi hj hw h16
  rw [inlE ctxOf _ F fnOf d 109 F109 (by kernel_rfl) _ id _ K 11 rfl]
  conv => lhs; whnf
  try simp (maxSteps := 2000000) (disch := omega) only [NN, Ty.den, dflt_kv]
  repeat (refine br_go ?_ ?_; (focus (((repeat' first | exact rfl | exact ordB_st rfl | exact ordB_of rfl | apply band | apply tst_t | apply nt_t)  <;> (try dsimp only [Ty.den, dflt_kv]) <;> (try simp only [LL, List.length_set]) <;> (first | trivial | assumption | omega | (change (_ : Int) ≤ _; omega) | (change (_ : Int) < _; omega) | (change (_ : Nat) * 1 ≤ _; omega) | (change (_ : Nat) * 48 ≤ _; omega) | (change (_ : Nat) * 24 ≤ _; omega) | (change (_ : Nat) * 8 ≤ _; omega) | (change (_ : Nat) * 64 ≤ _; omega) | decide)); done)); (conv => lhs; whnf); (try simp (maxSteps := 2000000) (disch := omega) only [NN, Ty.den, dflt_kv]))
  try simp (maxSteps := 2000000) (disch := omega) only [NN, Ty.den, dflt_kv, Nat.zero_add]
  repeat (refine br_go ?_ ?_; (focus (((repeat' first | exact rfl | exact ordB_st rfl | exact ordB_of rfl | apply band | apply tst_t | apply nt_t)  <;> (try dsimp only [Ty.den, dflt_kv]) <;> (try simp only [LL, List.length_set]) <;> (first | trivial | assumption | omega | (change (_ : Int) ≤ _; omega) | (change (_ : Int) < _; omega) | (change (_ : Nat) * 1 ≤ _; omega) | (change (_ : Nat) * 48 ≤ _; omega) | (change (_ : Nat) * 24 ≤ _; omega) | (change (_ : Nat) * 8 ≤ _; omega) | (change (_ : Nat) * 64 ≤ _; omega) | decide)); done)); (conv => lhs; whnf); (try simp (maxSteps := 2000000) (disch := omega) only [NN, Ty.den, dflt_kv]))
  try simp (maxSteps := 2000000) (disch := omega) only [NN, Ty.den, dflt_kv, Nat.zero_add]
  rfl
theorem qpop_pop (T : Tab) (F d : Nat) (m : Nat) : QPopK (inlH ctxOf T F fnOf (d + 1)) [.gone, .gone, .fam m, .gone, .gone, .gone, .gone, .gone, .gone, .gone] := by
  intro k n id xs K hn h16
  rw [inlE ctxOf _ F fnOf d 107 F107 (by kernel_rfl) _ id _ K 13 rfl]
  conv => lhs; whnf
  try simp (maxSteps := 2000000) (disch := omega) only [NN, Ty.den, dflt_kv]
  have en : (((n + 1 : Nat) : Int) - 1) = (n : Int) := by omega
  try simp (maxSteps := 2000000) (disch := omega) only [NN, Ty.den, dflt_kv, en]
  repeat (refine br_go ?_ ?_; (focus (((repeat' first | exact rfl | exact ordB_st rfl | exact ordB_of rfl | apply band | apply tst_t | apply nt_t)  <;> (try dsimp only [Ty.den, dflt_kv]) <;> (try simp only [LL, List.length_set]) <;> (first | trivial | assumption | omega | (change (_ : Int) ≤ _; omega) | (change (_ : Int) < _; omega) | (change (_ : Nat) * 1 ≤ _; omega) | (change (_ : Nat) * 48 ≤ _; omega) | (change (_ : Nat) * 24 ≤ _; omega) | (change (_ : Nat) * 8 ≤ _; omega) | (change (_ : Nat) * 64 ≤ _; omega) | decide)); done)); (conv => lhs; whnf); (try simp (maxSteps := 2000000) (disch := omega) only [NN, Ty.den, dflt_kv]))
  try simp (maxSteps := 2000000) (disch := omega) only [NN, Ty.den, dflt_kv, Nat.zero_add]
  rfl
/-- the least list is taken out -/
def PopK (call : CallH V) (tl : List Ent) : Prop := ∀ (k n id : Nat) (xs : List (List KV)) (K : V → List Ent → Option V) (r : Option V), n < 9 → n + 1 ≤ xs.length → RowFine xs → HeapX xs (n + 1) 0 (n + 1) →
  (∀ ys : List (List KV), ys.Perm (swp xs 0 n) → ys.drop n = (swp xs 0 n).drop n → HeapX ys n 0 n → K (.ifc 27 (.d kvl (xs.getD 0 []))) (S3 k n ys tl) = r) → call 63 [qp] id (S3 k (n + 1) xs tl) K = r
theorem pop_gen (T : Tab) (F m : Nat) (call : CallH V) (h6 : T 62 = lenQSp.ent) (n4 : T 78 = none) (n8 : T 109 = none) (n9 : T 107 = none)
    (hS : SwapK call [.gone, .gone, .fam m, .gone, .gone, .gone, .gone, .gone]) (hD : DownK call [.gone, .gone, .fam m, .gone, .gone, .gone, .gone, .gone, .gone]) (hQ : QPopK call [.gone, .gone, .fam m, .gone, .gone, .gone, .gone, .gone, .gone, .gone])
    (k n : Nat) (xs : List (List KV)) (K : V → List Ent → Option V) (r : Option V) (h8 : n < 9) (hl : n + 1 ≤ xs.length) (hfine : RowFine xs) (hh : HeapX xs (n + 1) 0 (n + 1))
    (hK : ∀ ys : List (List KV), ys.Perm (swp xs 0 n) → ys.drop n = (swp xs 0 n).drop n → HeapX ys n 0 n → K (.ifc 27 (.d kvl (xs.getD 0 []))) (S3 k n ys [.gone, .gone, .fam m, .gone, .gone, .gone, .gone, .gone, .gone, .gone]) = r) : evFn (ctxOf 63) T call F F63 [qp] (S3 k (n + 1) xs [.gone, .gone, .fam m, .gone, .gone, .gone]) K = r := by
  rw [on_top h6, off_top n4, off_top n8, off_top n9]
  have elw : (List.take (n + 1) xs).length = n + 1 := by rw [List.length_take]; omega
  have en : (((n + 1 : Nat) : Int) - 1) = (n : Int) := by omega
  conv => lhs; whnf
  try simp (maxSteps := 2000000) (disch := omega) only [NN, Ty.den, dflt_kv]
  repeat (refine br_go ?_ ?_; (focus (((repeat' first | exact rfl | exact ordB_st rfl | exact ordB_of rfl | apply band | apply tst_t | apply nt_t)  <;> (try dsimp only [Ty.den, dflt_kv]) <;> (try simp only [LL, List.length_set]) <;> (first | trivial | assumption | omega | (change (_ : Int) ≤ _; omega) | (change (_ : Int) < _; omega) | (change (_ : Nat) * 1 ≤ _; omega) | (change (_ : Nat) * 48 ≤ _; omega) | (change (_ : Nat) * 24 ≤ _; omega) | (change (_ : Nat) * 8 ≤ _; omega) | (change (_ : Nat) * 64 ≤ _; omega) | decide)); done)); (conv => lhs; whnf); (try simp (maxSteps := 2000000) (disch := omega) only [NN, Ty.den, dflt_kv]))
  try simp (maxSteps := 2000000) (disch := omega) only [NN, Ty.den, dflt_kv, elw, en]
  repeat (refine br_go ?_ ?_; (focus (((repeat' first | exact rfl | exact ordB_st rfl | exact ordB_of rfl | apply band | apply tst_t | apply nt_t)  <;> (try dsimp only [Ty.den, dflt_kv]) <;> (try simp only [LL, List.length_set]) <;> (first | trivial | assumption | omega | (change (_ : Int) ≤ _; omega) | (change (_ : Int) < _; omega) | (change (_ : Nat) * 1 ≤ _; omega) | (change (_ : Nat) * 48 ≤ _; omega) | (change (_ : Nat) * 24 ≤ _; omega) | (change (_ : Nat) * 8 ≤ _; omega) | (change (_ : Nat) * 64 ≤ _; omega) | decide)); done)); (conv => lhs; whnf); (try simp (maxSteps := 2000000) (disch := omega) only [NN, Ty.den, dflt_kv]))
  refine (hS k (n + 1) 0 n _ xs _ (by omega) (by omega) hl (by omega)).trans ?_
  conv => lhs; whnf
  try simp (maxSteps := 2000000) (disch := omega) only [NN, Ty.den, dflt_kv]
  repeat (refine br_go ?_ ?_; (focus (((repeat' first | exact rfl | exact ordB_st rfl | exact ordB_of rfl | apply band | apply tst_t | apply nt_t)  <;> (try dsimp only [Ty.den, dflt_kv]) <;> (try simp only [LL, List.length_set]) <;> (first | trivial | assumption | omega | (change (_ : Int) ≤ _; omega) | (change (_ : Int) < _; omega) | (change (_ : Nat) * 1 ≤ _; omega) | (change (_ : Nat) * 48 ≤ _; omega) | (change (_ : Nat) * 24 ≤ _; omega) | (change (_ : Nat) * 8 ≤ _; omega) | (change (_ : Nat) * 64 ≤ _; omega) | decide)); done)); (conv => lhs; whnf); (try simp (maxSteps := 2000000) (disch := omega) only [NN, Ty.den, dflt_kv]))
  refine hD k (n + 1) n 0 _ (swp xs 0 n) _ r (by omega) (by omega) (by omega) (by rw [swp_len]; exact hl) (hfine.perm (swp_perm (by omega) (by omega))) (hh.pop hl) (fun ys b y1 y2 y3 => ?_)
  obtain ⟨p1, p2, p3, p4⟩ := popped (by omega) y1 y2
  conv => lhs; whnf
  try simp (maxSteps := 2000000) (disch := omega) only [NN, Ty.den, dflt_kv]
  repeat (refine br_go ?_ ?_; (focus (((repeat' first | exact rfl | exact ordB_st rfl | exact ordB_of rfl | apply band | apply tst_t | apply nt_t)  <;> (try dsimp only [Ty.den, dflt_kv]) <;> (try simp only [LL, List.length_set]) <;> (first | trivial | assumption | omega | (change (_ : Int) ≤ _; omega) | (change (_ : Int) < _; omega) | (change (_ : Nat) * 1 ≤ _; omega) | (change (_ : Nat) * 48 ≤ _; omega) | (change (_ : Nat) * 24 ≤ _; omega) | (change (_ : Nat) * 8 ≤ _; omega) | (change (_ : Nat) * 64 ≤ _; omega) | decide)); done)); (conv => lhs; whnf); (try simp (maxSteps := 2000000) (disch := omega) only [NN, Ty.den, dflt_kv]))
  refine (hQ k n _ ys _ (by omega) (by omega)).trans ?_
  rw [p2]
  conv => lhs; whnf
  try simp (maxSteps := 2000000) (disch := omega) only [NN, Ty.den, dflt_kv]
  repeat (refine br_go ?_ ?_; (focus (((repeat' first | exact rfl | exact ordB_st rfl | exact ordB_of rfl | apply band | apply tst_t | apply nt_t)  <;> (try dsimp only [Ty.den, dflt_kv]) <;> (try simp only [LL, List.length_set]) <;> (first | trivial | assumption | omega | (change (_ : Int) ≤ _; omega) | (change (_ : Int) < _; omega) | (change (_ : Nat) * 1 ≤ _; omega) | (change (_ : Nat) * 48 ≤ _; omega) | (change (_ : Nat) * 24 ≤ _; omega) | (change (_ : Nat) * 8 ≤ _; omega) | (change (_ : Nat) * 64 ≤ _; omega) | decide)); done)); (conv => lhs; whnf); (try simp (maxSteps := 2000000) (disch := omega) only [NN, Ty.den, dflt_kv]))
  exact hK ys y1 y2 y3
theorem wrap_pop (k w m : Nat) (ys : List (List KV)) (y : List KV) (K : V → List Ent → Option V) : wrapE 9 (.ifc 27 (.d kvl y)) (S3 k w ys [.gone, .gone, .fam m, .gone, .gone, .gone, .gone, .gone, .gone, .gone]) K = K (.ifc 27 (.d kvl y)) (S3 k w ys [.gone, .gone, .fam m, .gone, .gone, .gone]) := rfl
theorem popK_ok (T : Tab) (F d m : Nat) (hF : 20 ≤ F) (h6 : T 62 = lenQSp.ent) (h7 : T 106 = lessSp.ent) (n8 : T 109 = none) (n4 : T 78 = none) (n9 : T 107 = none) : PopK (inlH ctxOf T F fnOf (d + 3)) [.gone, .gone, .fam m, .gone, .gone, .gone] := by
  intro k n id xs K r h8 hl hfine hh hK
  rw [inlE ctxOf T F fnOf (d + 2) 63 F63 (by kernel_rfl) _ id _ K 9 rfl]
  refine pop_gen T F m _ h6 n4 n8 n9 (swap_pop T F (d + 1) m) (down_pop T F d (by omega) h7 n8 m) (qpop_pop T F (d + 1) m) k n xs _ r h8 hl hfine hh (fun ys y1 y2 y3 => ?_)
  rw [wrap_pop]
  exact hK ys y1 y2 y3
theorem qpush_push (T : Tab) (F d : Nat) (m : Nat) : QPushK (inlH ctxOf T F fnOf (d + 1)) [.gone, .gone, .fam m, .gone, .gone, .gone, .gone, .gone, .lit 1, .gone, .gone, .gone, .gone, .gone] := by
  intro k n id xs y K hn h16
  rw [inlE ctxOf _ F fnOf d 108 F108 (by kernel_rfl) _ id _ K 17 rfl]
  conv => lhs; whnf
  try simp (maxSteps := 2000000) (disch := omega) only [NN, Ty.den, dflt_kv]
  repeat (refine br_go ?_ ?_; (focus (((repeat' first | exact rfl | exact ordB_st rfl | exact ordB_of rfl | apply band | apply tst_t | apply nt_t)  <;> (try dsimp only [Ty.den, dflt_kv]) <;> (try simp only [LL, List.length_set]) <;> (first | trivial | assumption | omega | (change (_ : Int) ≤ _; omega) | (change (_ : Int) < _; omega) | (change (_ : Nat) * 1 ≤ _; omega) | (change (_ : Nat) * 48 ≤ _; omega) | (change (_ : Nat) * 24 ≤ _; omega) | (change (_ : Nat) * 8 ≤ _; omega) | (change (_ : Nat) * 64 ≤ _; omega) | decide)); done)); (conv => lhs; whnf); (try simp (maxSteps := 2000000) (disch := omega) only [NN, Ty.den, dflt_kv]))
  try simp (maxSteps := 2000000) (disch := omega) only [NN, Ty.den, dflt_kv, Nat.zero_add]
  rfl
theorem up_push (T : Tab) (F d : Nat) (hF : 20 ≤ F) (h7 : T 106 = lessSp.ent) (n8 : T 109 = none) (m : Nat) : UpK (inlH ctxOf T F fnOf (d + 2)) [.gone, .gone, .fam m, .gone, .gone, .gone, .gone, .gone, .lit 1, .gone, .gone, .gone, .gone, .gone, .gone, .gone] := by
  rw [on_top h7, off_top n8]
  intro k w x0 id xs K r hw8 hx0 hwl hfine hup hK
  rw [inlE ctxOf _ F fnOf (d + 1) 79 F79 (by kernel_rfl) _ id _ K 19 rfl]
  conv => lhs; whnf
  try simp (maxSteps := 2000000) (disch := omega) only [NN, Ty.den, dflt_kv]
  refine loop_ruleK (α := Nat × List (List KV)) (fun s => s.1 < w ∧ (s.2.Perm xs ∧ s.2.drop w = xs.drop w) ∧ UpX s.2 w s.1) (fun s => s.1)
    (fun s => (V.ifc 113 (V.p 2 0) :: vI (s.1 : Nat) :: V.bad :: V.bad :: V.bad :: V.bad :: V.bad :: V.bad :: V.bad :: V.bad :: V.bad :: V.bad :: V.bad :: V.bad :: V.bad :: V.bad :: V.bad :: V.bad :: V.bad :: V.bad :: V.bad :: V.bad :: V.bad :: []))
    (fun s => S3 k w s.2 [.gone, .gone, .fam m, .gone, .gone, .gone, .gone, .gone, .lit 1, .gone, .gone, .gone, .gone, .gone, .gone, .gone])
    (fun _ => r) ?_ F (x0, xs) ⟨hx0, ⟨.refl _, rfl⟩, hup⟩ (by show x0 < F; omega)
  rintro kkd hkd ⟨x, ys⟩ K2 ⟨d1, ⟨d3, d3b⟩, d4⟩ hK2
  simp only at d1 d3 d3b d4 hK2 ⊢
  have hyl : ys.length = xs.length := d3.length_eq
  have hyf := hfine.perm d3
  have lp : ∀ a b : Nat, a < w → b < w → lessPre (List.take w ys) (a : Int) (b : Int) := fun a b ha hb => less_pre (by omega) hyf.ne hyf.ok (by omega) (by omega)
  obtain ⟨i, hi⟩ : ∃ i : Nat, i = (x - 1) / 2 := ⟨_, rfl⟩
  have e0 : Int.tdiv ((x : Int) - 1) 2 = (i : Int) := by
    by_cases hx : x = 0
    · subst hx; subst hi; decide
    · rw [Int.tdiv_eq_ediv_of_nonneg (by omega)]; omega
  conv => lhs; whnf
  try simp (maxSteps := 2000000) (disch := omega) only [NN, Ty.den, dflt_kv]
  refine br_go (nt_t (show ¬ ((2 : Int) = 0) by decide)) ?_
  conv => lhs; whnf
  try simp (maxSteps := 2000000) (disch := omega) only [NN, Ty.den, dflt_kv]
  repeat (refine br_go ?_ ?_; (focus (((repeat' first | exact rfl | exact ordB_st rfl | exact ordB_of rfl | apply band | apply tst_t | apply nt_t)  <;> (try dsimp only [Ty.den, dflt_kv]) <;> (try simp only [LL, List.length_set]) <;> (first | trivial | assumption | omega | (change (_ : Int) ≤ _; omega) | (change (_ : Int) < _; omega) | (change (_ : Nat) * 1 ≤ _; omega) | (change (_ : Nat) * 48 ≤ _; omega) | (change (_ : Nat) * 24 ≤ _; omega) | (change (_ : Nat) * 8 ≤ _; omega) | (change (_ : Nat) * 64 ≤ _; omega) | decide)); done)); (conv => lhs; whnf); (try simp (maxSteps := 2000000) (disch := omega) only [NN, Ty.den, dflt_kv]))
  try simp (maxSteps := 2000000) (disch := omega) only [NN, Ty.den, dflt_kv, e0]
  repeat (refine br_go ?_ ?_; (focus (((repeat' first | exact rfl | exact ordB_st rfl | exact ordB_of rfl | apply band | apply tst_t | apply nt_t)  <;> (try dsimp only [Ty.den, dflt_kv]) <;> (try simp only [LL, List.length_set]) <;> (first | trivial | assumption | omega | (change (_ : Int) ≤ _; omega) | (change (_ : Int) < _; omega) | (change (_ : Nat) * 1 ≤ _; omega) | (change (_ : Nat) * 48 ≤ _; omega) | (change (_ : Nat) * 24 ≤ _; omega) | (change (_ : Nat) * 8 ≤ _; omega) | (change (_ : Nat) * 64 ≤ _; omega) | decide)); done)); (conv => lhs; whnf); (try simp (maxSteps := 2000000) (disch := omega) only [NN, Ty.den, dflt_kv]))
  by_cases hx : x = 0
  · subst hx
    refine br_go (tst_t (by omega)) ?_
    conv => lhs; whnf
    try simp (maxSteps := 2000000) (disch := omega) only [NN, Ty.den, dflt_kv]
    repeat (refine br_go ?_ ?_; (focus (((repeat' first | exact rfl | exact ordB_st rfl | exact ordB_of rfl | apply band | apply tst_t | apply nt_t)  <;> (try dsimp only [Ty.den, dflt_kv]) <;> (try simp only [LL, List.length_set]) <;> (first | trivial | assumption | omega | (change (_ : Int) ≤ _; omega) | (change (_ : Int) < _; omega) | (change (_ : Nat) * 1 ≤ _; omega) | (change (_ : Nat) * 48 ≤ _; omega) | (change (_ : Nat) * 24 ≤ _; omega) | (change (_ : Nat) * 8 ≤ _; omega) | (change (_ : Nat) * 64 ≤ _; omega) | decide)); done)); (conv => lhs; whnf); (try simp (maxSteps := 2000000) (disch := omega) only [NN, Ty.den, dflt_kv]))
    rw [hkd]
    conv => lhs; whnf
    try simp (maxSteps := 2000000) (disch := omega) only [NN, Ty.den, dflt_kv]
    repeat (refine br_go ?_ ?_; (focus (((repeat' first | exact rfl | exact ordB_st rfl | exact ordB_of rfl | apply band | apply tst_t | apply nt_t)  <;> (try dsimp only [Ty.den, dflt_kv]) <;> (try simp only [LL, List.length_set]) <;> (first | trivial | assumption | omega | (change (_ : Int) ≤ _; omega) | (change (_ : Int) < _; omega) | (change (_ : Nat) * 1 ≤ _; omega) | (change (_ : Nat) * 48 ≤ _; omega) | (change (_ : Nat) * 24 ≤ _; omega) | (change (_ : Nat) * 8 ≤ _; omega) | (change (_ : Nat) * 64 ≤ _; omega) | decide)); done)); (conv => lhs; whnf); (try simp (maxSteps := 2000000) (disch := omega) only [NN, Ty.den, dflt_kv]))
    exact hK ys d3 d3b (d4.stop (.inl rfl))
  · refine br_no (tst_f (by omega)) ?_
    conv => lhs; whnf
    try simp (maxSteps := 2000000) (disch := omega) only [NN, Ty.den, dflt_kv]
    repeat (refine br_go ?_ ?_; (focus (((repeat' first | exact rfl | exact ordB_st rfl | exact ordB_of rfl | apply band | apply tst_t | apply nt_t)  <;> (try dsimp only [Ty.den, dflt_kv]) <;> (try simp only [LL, List.length_set]) <;> (first | trivial | assumption | omega | (change (_ : Int) ≤ _; omega) | (change (_ : Int) < _; omega) | (change (_ : Nat) * 1 ≤ _; omega) | (change (_ : Nat) * 48 ≤ _; omega) | (change (_ : Nat) * 24 ≤ _; omega) | (change (_ : Nat) * 8 ≤ _; omega) | (change (_ : Nat) * 64 ≤ _; omega) | decide)); done)); (conv => lhs; whnf); (try simp (maxSteps := 2000000) (disch := omega) only [NN, Ty.den, dflt_kv]))
    refine br_go (tst_t (lp x i (by omega) (by omega))) ?_
    conv => lhs; whnf
    try simp (maxSteps := 2000000) (disch := omega) only [NN, Ty.den, dflt_kv]
    by_cases c2 : order (hd ((List.take w ys).getD x [])) (hd ((List.take w ys).getD i [])) < 0
    · refine br_no (nt_f c2) ?_
      conv => lhs; whnf
      try simp (maxSteps := 2000000) (disch := omega) only [NN, Ty.den, dflt_kv]
      repeat (refine br_go ?_ ?_; (focus (((repeat' first | exact rfl | exact ordB_st rfl | exact ordB_of rfl | apply band | apply tst_t | apply nt_t)  <;> (try dsimp only [Ty.den, dflt_kv]) <;> (try simp only [LL, List.length_set]) <;> (first | trivial | assumption | omega | (change (_ : Int) ≤ _; omega) | (change (_ : Int) < _; omega) | (change (_ : Nat) * 1 ≤ _; omega) | (change (_ : Nat) * 48 ≤ _; omega) | (change (_ : Nat) * 24 ≤ _; omega) | (change (_ : Nat) * 8 ≤ _; omega) | (change (_ : Nat) * 64 ≤ _; omega) | decide)); done)); (conv => lhs; whnf); (try simp (maxSteps := 2000000) (disch := omega) only [NN, Ty.den, dflt_kv]))
      try simp (maxSteps := 2000000) (disch := omega) only [NN, Ty.den, dflt_kv, Nat.zero_add]
      subst hi
      exact hK2 ((x - 1) / 2, swp ys ((x - 1) / 2) x) ⟨by show (x - 1) / 2 < w; omega, ⟨(swp_perm (by omega) (by omega)).trans d3, by show List.drop w (swp ys _ x) = _; rw [swp_drop (by omega) (by omega)]; exact d3b⟩, d4.step (by omega) (by omega) d1 ((less_iff (by omega) (by omega)).1 c2)⟩ (by show (x - 1) / 2 < x; omega)
    · refine br_go (nt_t c2) ?_
      conv => lhs; whnf
      try simp (maxSteps := 2000000) (disch := omega) only [NN, Ty.den, dflt_kv]
      repeat (refine br_go ?_ ?_; (focus (((repeat' first | exact rfl | exact ordB_st rfl | exact ordB_of rfl | apply band | apply tst_t | apply nt_t)  <;> (try dsimp only [Ty.den, dflt_kv]) <;> (try simp only [LL, List.length_set]) <;> (first | trivial | assumption | omega | (change (_ : Int) ≤ _; omega) | (change (_ : Int) < _; omega) | (change (_ : Nat) * 1 ≤ _; omega) | (change (_ : Nat) * 48 ≤ _; omega) | (change (_ : Nat) * 24 ≤ _; omega) | (change (_ : Nat) * 8 ≤ _; omega) | (change (_ : Nat) * 64 ≤ _; omega) | decide)); done)); (conv => lhs; whnf); (try simp (maxSteps := 2000000) (disch := omega) only [NN, Ty.den, dflt_kv]))
      rw [hkd]
      conv => lhs; whnf
      try simp (maxSteps := 2000000) (disch := omega) only [NN, Ty.den, dflt_kv]
      repeat (refine br_go ?_ ?_; (focus (((repeat' first | exact rfl | exact ordB_st rfl | exact ordB_of rfl | apply band | apply tst_t | apply nt_t)  <;> (try dsimp only [Ty.den, dflt_kv]) <;> (try simp only [LL, List.length_set]) <;> (first | trivial | assumption | omega | (change (_ : Int) ≤ _; omega) | (change (_ : Int) < _; omega) | (change (_ : Nat) * 1 ≤ _; omega) | (change (_ : Nat) * 48 ≤ _; omega) | (change (_ : Nat) * 24 ≤ _; omega) | (change (_ : Nat) * 8 ≤ _; omega) | (change (_ : Nat) * 64 ≤ _; omega) | decide)); done)); (conv => lhs; whnf); (try simp (maxSteps := 2000000) (disch := omega) only [NN, Ty.den, dflt_kv]))
      exact hK ys d3 d3b (d4.stop (.inr (by rw [← hi]; exact leq_of (fun h => c2 ((less_iff (by omega) (by omega)).2 h)))))
def PushK (call : CallH V) (tl : List Ent) : Prop := ∀ (k n id : Nat) (xs : List (List KV)) (y : List KV) (K : V → List Ent → Option V) (r : Option V), n < 9 → n ≤ xs.length → RowFine xs → (0 < y.length ∧ ∀ z ∈ y, okK z) → HeapX xs n 0 n →
  (∀ ys : List (List KV), ys.Perm (xs.take n ++ [y] ++ xs.drop (n + 1)) → ys.drop (n + 1) = xs.drop (n + 1) → HeapX ys (n + 1) 0 (n + 1) → K (.tup []) (S3 (k + 1) (n + 1) ys tl) = r) → call 64 [qp, .ifc 27 (.d kvl y)] id (S3 k n xs tl) K = r
theorem push_get {xs : List (List KV)} {n : Nat} {y : List KV} (hn : n ≤ xs.length) : (∀ k, k < n → (xs.take n ++ [y] ++ xs.drop (n + 1)).getD k [] = xs.getD k []) ∧ n + 1 ≤ (xs.take n ++ [y] ++ xs.drop (n + 1)).length ∧ (xs.take n ++ [y] ++ xs.drop (n + 1)).drop (n + 1) = xs.drop (n + 1) ∧ (xs.take n ++ [y] ++ xs.drop (n + 1)).take (n + 1) = xs.take n ++ [y] := by
  have hl : (xs.take n ++ [y]).length = n + 1 := by rw [List.length_append, List.length_take, List.length_singleton]; omega
  refine ⟨fun k hk => ?_, ?_, ?_, ?_⟩
  · rw [List.append_assoc, List.getD_eq_getElem?_getD, List.getElem?_append_left (by rw [List.length_take]; omega), List.getElem?_take, if_pos hk, List.getD_eq_getElem?_getD]
  · rw [List.length_append, hl]; omega
  · rw [← hl, List.drop_left]
  · rw [← hl, List.take_left]
theorem push_gen (T : Tab) (F m : Nat) (call : CallH V) (h6 : T 62 = lenQSp.ent) (n5 : T 79 = none) (n10 : T 108 = none)
    (hQ : QPushK call [.gone, .gone, .fam m, .gone, .gone, .gone, .gone, .gone, .lit 1, .gone, .gone, .gone, .gone, .gone]) (hU : UpK call [.gone, .gone, .fam m, .gone, .gone, .gone, .gone, .gone, .lit 1, .gone, .gone, .gone, .gone, .gone, .gone, .gone])
    (k n : Nat) (xs : List (List KV)) (y : List KV) (K : V → List Ent → Option V) (r : Option V) (h8 : n < 9) (hl : n ≤ xs.length) (hfine : RowFine xs) (hy : 0 < y.length ∧ ∀ z ∈ y, okK z) (hh : HeapX xs n 0 n)
    (hK : ∀ ys : List (List KV), ys.Perm (xs.take n ++ [y] ++ xs.drop (n + 1)) → ys.drop (n + 1) = xs.drop (n + 1) → HeapX ys (n + 1) 0 (n + 1) → K (.tup []) (S3 (k + 1) (n + 1) ys [.gone, .gone, .fam m, .gone, .gone, .gone, .gone, .gone, .lit 1, .gone, .gone, .gone, .gone, .gone, .gone, .gone]) = r) : evFn (ctxOf 64) T call F F64 [qp, .ifc 27 (.d kvl y)] (S3 k n xs [.gone, .gone, .fam m, .gone, .gone, .gone, .gone, .gone, .lit 1, .gone, .gone, .gone, .gone]) K = r := by
  rw [on_top h6, off_top n5, off_top n10]
  obtain ⟨q1, q2, q3, q4⟩ := push_get (y := y) hl
  have hfx : RowFine (xs.take n ++ [y] ++ xs.drop (n + 1)) := by
    constructor
    · intro z hz
      rcases List.mem_append.1 hz with hz | hz
      · rcases List.mem_append.1 hz with hz | hz
        · exact hfine.ne z (List.mem_of_mem_take hz)
        · rw [List.mem_singleton.1 hz]; exact hy.1
      · exact hfine.ne z (List.mem_of_mem_drop hz)
    · intro z hz
      rcases List.mem_append.1 hz with hz | hz
      · rcases List.mem_append.1 hz with hz | hz
        · exact hfine.ok z (List.mem_of_mem_take hz)
        · rw [List.mem_singleton.1 hz]; exact hy.2
      · exact hfine.ok z (List.mem_of_mem_drop hz)
  have hup : UpX (xs.take n ++ [y] ++ xs.drop (n + 1)) (n + 1) n := hh.push q1
  conv => lhs; whnf
  try simp (maxSteps := 2000000) (disch := omega) only [NN, Ty.den, dflt_kv]
  repeat (refine br_go ?_ ?_; (focus (((repeat' first | exact rfl | exact ordB_st rfl | exact ordB_of rfl | apply band | apply tst_t | apply nt_t)  <;> (try dsimp only [Ty.den, dflt_kv]) <;> (try simp only [LL, List.length_set]) <;> (first | trivial | assumption | omega | (change (_ : Int) ≤ _; omega) | (change (_ : Int) < _; omega) | (change (_ : Nat) * 1 ≤ _; omega) | (change (_ : Nat) * 48 ≤ _; omega) | (change (_ : Nat) * 24 ≤ _; omega) | (change (_ : Nat) * 8 ≤ _; omega) | (change (_ : Nat) * 64 ≤ _; omega) | decide)); done)); (conv => lhs; whnf); (try simp (maxSteps := 2000000) (disch := omega) only [NN, Ty.den, dflt_kv]))
  refine (hQ k n _ xs y _ hl (by omega)).trans ?_
  generalize hX : xs.take n ++ [y] ++ xs.drop (n + 1) = X at *
  have elw : (List.take (n + 1) X).length = n + 1 := by rw [List.length_take]; omega
  have en : (((n + 1 : Nat) : Int) - 1) = (n : Int) := by omega
  conv => lhs; whnf
  try simp (maxSteps := 2000000) (disch := omega) only [NN, Ty.den, dflt_kv]
  repeat (refine br_go ?_ ?_; (focus (((repeat' first | exact rfl | exact ordB_st rfl | exact ordB_of rfl | apply band | apply tst_t | apply nt_t)  <;> (try dsimp only [Ty.den, dflt_kv]) <;> (try simp only [LL, List.length_set]) <;> (first | trivial | assumption | omega | (change (_ : Int) ≤ _; omega) | (change (_ : Int) < _; omega) | (change (_ : Nat) * 1 ≤ _; omega) | (change (_ : Nat) * 48 ≤ _; omega) | (change (_ : Nat) * 24 ≤ _; omega) | (change (_ : Nat) * 8 ≤ _; omega) | (change (_ : Nat) * 64 ≤ _; omega) | decide)); done)); (conv => lhs; whnf); (try simp (maxSteps := 2000000) (disch := omega) only [NN, Ty.den, dflt_kv]))
  try simp (maxSteps := 2000000) (disch := omega) only [NN, Ty.den, dflt_kv, elw, en]
  refine hU (k + 1) (n + 1) n _ X _ r (by omega) (by omega) q2 hfx hup (fun ys y1 y2 y3 => ?_)
  conv => lhs; whnf
  try simp (maxSteps := 2000000) (disch := omega) only [NN, Ty.den, dflt_kv]
  repeat (refine br_go ?_ ?_; (focus (((repeat' first | exact rfl | exact ordB_st rfl | exact ordB_of rfl | apply band | apply tst_t | apply nt_t)  <;> (try dsimp only [Ty.den, dflt_kv]) <;> (try simp only [LL, List.length_set]) <;> (first | trivial | assumption | omega | (change (_ : Int) ≤ _; omega) | (change (_ : Int) < _; omega) | (change (_ : Nat) * 1 ≤ _; omega) | (change (_ : Nat) * 48 ≤ _; omega) | (change (_ : Nat) * 24 ≤ _; omega) | (change (_ : Nat) * 8 ≤ _; omega) | (change (_ : Nat) * 64 ≤ _; omega) | decide)); done)); (conv => lhs; whnf); (try simp (maxSteps := 2000000) (disch := omega) only [NN, Ty.den, dflt_kv]))
  exact hK ys y1 (by rw [y2, q3]) y3
theorem wrap_push (k w m : Nat) (ys : List (List KV)) (K : V → List Ent → Option V) : wrapE 16 (.tup []) (S3 k w ys [.gone, .gone, .fam m, .gone, .gone, .gone, .gone, .gone, .lit 1, .gone, .gone, .gone, .gone, .gone, .gone, .gone]) K = K (.tup []) (S3 k w ys [.gone, .gone, .fam m, .gone, .gone, .gone, .gone, .gone, .lit 1, .gone, .gone, .gone, .gone]) := rfl
theorem pushK_ok (T : Tab) (F d m : Nat) (hF : 20 ≤ F) (h6 : T 62 = lenQSp.ent) (h7 : T 106 = lessSp.ent) (n8 : T 109 = none) (n5 : T 79 = none) (n10 : T 108 = none) : PushK (inlH ctxOf T F fnOf (d + 3)) [.gone, .gone, .fam m, .gone, .gone, .gone, .gone, .gone, .lit 1, .gone, .gone, .gone, .gone] := by
  intro k n id xs y K r h8 hl hfine hy hh hK
  rw [inlE ctxOf T F fnOf (d + 2) 64 F64 (by kernel_rfl) _ id _ K 16 rfl]
  refine push_gen T F m _ h6 n5 n10 (qpush_push T F (d + 1) m) (up_push T F d hF h7 n8 m) k n xs y _ r h8 hl hfine hy hh (fun ys y1 y2 y3 => ?_)
  rw [wrap_push]
  exact hK ys y1 y2 y3
end Go.Proofs.Ytmpmmfbgdpfnpaa.Ev
/- Lists merged by a heap: the program's. -/
namespace Go.Proofs.Ytmpmmfbgdpfnpaa.Ev
open Go Go.RowKit
set_option linter.unusedVariables false
set_option linter.unusedSimpArgs false
set_option maxRecDepth 100000
set_option maxHeartbeats 8000000
--safe List.length_set
def fewL (l : List (List KV)) : Prop := l.length ≤ 9 ∧ l.flatten.length ≤ 80
instance (l : List (List KV)) : Decidable (fewL l) := inferInstanceAs (Decidable (_ ∧ _))
def allRise (l : List (List KV)) : Bool := l.all fun x => decide (Rises x)
noncomputable def mergedSp : Sp := ⟨[kvll], fun x => tst (fewL x.1) && tst (allRise x.1 = true), fun x => .tup [.own 0 kv (mergeS x.1).1, .d .bo (mergeS x.1).2]⟩
def ne (l : List KV) : Bool := !l.isEmpty
theorem filter_flat : ∀ (l : List (List KV)), (l.filter ne).flatten = l.flatten
  | [] => rfl
  | [] :: l => by rw [List.filter_cons, if_neg (by simp [ne]), filter_flat l]; rfl
  | (x :: y) :: l => by rw [List.filter_cons, if_pos (by simp [ne]), List.flatten_cons, List.flatten_cons, filter_flat l]
abbrev mergedC : Ctx := ⟨rows, fun b => if b = 999999 then ([10], []) else (fun | 0 => ([4, 12, 13, 14], [4]) | 1 => ([], [4, 12, 13, 14]) | 2 => ([4, 7], [7]) | 3 => ([], [4, 7]) | _ => ([], [])) b⟩
theorem merged_gen (T : Tab) (F : Nat) (call : CallH V) (hF : F = 500) (h2 : T 41 = equalSp.ent) (h6 : T 62 = lenQSp.ent) (n1 : T 61 = none) (n2 : T 63 = none) (n3 : T 64 = none)
    (hI : InitK call [.gone, .gone]) (hP : ∀ m, PopK call [.gone, .gone, .fam m, .gone, .gone, .gone]) (hU : ∀ m, PushK call [.gone, .gone, .fam m, .gone, .gone, .gone, .gone, .gone, .lit 1, .gone, .gone, .gone, .gone]) (l : List (List KV)) (hf1 : Fits kvll l) (hl : l.length ≤ 9) (ht : l.flatten.length ≤ 80) (hr : allRise l = true) :
    evFn mergedC T call F F38 [.d kvll l] [] (fun v S => exportF mergedC [27, 4] v S) = some (V.tup [.own 0 kv (mergeS l).1, .d .bo (mergeS l).2]) := by
  rw [on_top h2, on_top h6, off_top n1, off_top n2, off_top n3]
  conv => lhs; whnf
  try simp (maxSteps := 2000000) (disch := omega) only [NN, Ty.den, dflt_kv]
  refine loop_ruleK (α := Nat × List (List KV)) (fun s => s.1 ≤ l.length ∧ s.2 = (l.take s.1).filter ne) (fun s => l.length - s.1)
    (fun s => (V.bad :: V.bad :: V.bad :: V.bad :: V.p 2 0 :: V.bad :: V.bad :: V.bad :: V.bad :: V.bad :: V.bad :: V.bad :: V.d kvll l :: vI l.length :: vI s.1 :: V.bad :: V.bad :: V.bad :: V.bad :: V.bad :: V.bad :: V.bad :: V.bad :: V.bad :: V.bad :: V.bad :: V.bad :: V.bad :: V.bad :: V.bad :: V.bad :: V.bad :: V.bad :: V.bad :: V.bad :: V.bad :: V.bad :: V.bad :: V.bad :: V.bad :: V.bad :: V.bad :: V.bad :: V.bad :: V.bad :: V.bad :: V.bad :: V.bad :: V.bad :: V.bad :: V.bad :: V.bad :: V.bad :: V.bad :: V.bad :: V.bad :: V.bad :: V.bad :: V.bad :: V.bad :: V.bad :: V.bad :: V.bad :: V.bad :: V.bad :: V.bad :: V.bad :: V.bad :: V.bad :: V.bad :: V.bad :: V.bad :: V.bad :: V.bad :: V.bad :: []))
    (fun s => [.fam 0, .row s.2.length kvl s.2, .obj [.sr 1 s.2.length 0 s.2.length 1 .full], .gone])
    (fun _ => some (V.tup [.own 0 kv (mergeS l).1, .d .bo (mergeS l).2])) ?_ F (0, []) ⟨Nat.zero_le _, rfl⟩ (by show l.length - 0 < F; omega)
  rintro kka hka ⟨i, q⟩ K ⟨k1, k2⟩ hK
  simp only at k1 k2 hK ⊢
  conv => lhs; whnf
  try simp (maxSteps := 2000000) (disch := omega) only [NN, Ty.den, dflt_kv]
  by_cases hi : i < l.length
  · refine br_go (tst_t (by omega)) ?_
    conv => lhs; whnf
    try simp (maxSteps := 2000000) (disch := omega) only [NN, Ty.den, dflt_kv]
    repeat (refine br_go ?_ ?_; (focus (((repeat' first | exact rfl | exact ordB_st rfl | exact ordB_of rfl | apply band | apply tst_t | apply nt_t)  <;> (try dsimp only [Ty.den, dflt_kv]) <;> (try simp only [LL, List.length_set]) <;> (first | trivial | assumption | omega | (change (_ : Int) ≤ _; omega) | (change (_ : Int) < _; omega) | (change (_ : Nat) * 1 ≤ _; omega) | (change (_ : Nat) * 48 ≤ _; omega) | (change (_ : Nat) * 24 ≤ _; omega) | (change (_ : Nat) * 8 ≤ _; omega) | (change (_ : Nat) * 64 ≤ _; omega) | decide)); done)); (conv => lhs; whnf); (try simp (maxSteps := 2000000) (disch := omega) only [NN, Ty.den, dflt_kv]))
    by_cases hx : (l.getD i []).length = 0
    · refine br_no (tst_f (by omega)) ?_
      conv => lhs; whnf
      try simp (maxSteps := 2000000) (disch := omega) only [NN, Ty.den, dflt_kv]
      repeat (refine br_go ?_ ?_; (focus (((repeat' first | exact rfl | exact ordB_st rfl | exact ordB_of rfl | apply band | apply tst_t | apply nt_t)  <;> (try dsimp only [Ty.den, dflt_kv]) <;> (try simp only [LL, List.length_set]) <;> (first | trivial | assumption | omega | (change (_ : Int) ≤ _; omega) | (change (_ : Int) < _; omega) | (change (_ : Nat) * 1 ≤ _; omega) | (change (_ : Nat) * 48 ≤ _; omega) | (change (_ : Nat) * 24 ≤ _; omega) | (change (_ : Nat) * 8 ≤ _; omega) | (change (_ : Nat) * 64 ≤ _; omega) | decide)); done)); (conv => lhs; whnf); (try simp (maxSteps := 2000000) (disch := omega) only [NN, Ty.den, dflt_kv]))
      refine hK (i + 1, q) ⟨by show i + 1 ≤ _; omega, ?_⟩ (by show l.length - (i + 1) < l.length - i; omega)
      show q = (l.take (i + 1)).filter ne
      rw [take_at (d := []) hi, List.filter_append, ← k2, List.filter_cons, if_neg (by rw [List.eq_nil_of_length_eq_zero hx]; simp [ne]), List.filter_nil, List.append_nil]
    · refine br_go (tst_t (by omega)) ?_
      conv => lhs; whnf
      try simp (maxSteps := 2000000) (disch := omega) only [NN, Ty.den, dflt_kv]
      have hqi : q.length ≤ i := by rw [k2]; exact Nat.le_trans (List.length_filter_le _ _) (by rw [List.length_take]; omega)
      repeat (refine br_go ?_ ?_; (focus (((repeat' first | exact rfl | exact ordB_st rfl | exact ordB_of rfl | apply band | apply tst_t | apply nt_t)  <;> (try dsimp only [Ty.den, dflt_kv]) <;> (try simp only [LL, List.length_set]) <;> (first | trivial | assumption | omega | (change (_ : Int) ≤ _; omega) | (change (_ : Int) < _; omega) | (change (_ : Nat) * 1 ≤ _; omega) | (change (_ : Nat) * 48 ≤ _; omega) | (change (_ : Nat) * 24 ≤ _; omega) | (change (_ : Nat) * 8 ≤ _; omega) | (change (_ : Nat) * 64 ≤ _; omega) | decide)); done)); (conv => lhs; whnf); (try simp (maxSteps := 2000000) (disch := omega) only [NN, Ty.den, dflt_kv]))
      have ed : q ++ [l.getD i []] ++ List.drop (q.length + [l.getD i []].length) q = q ++ [l.getD i []] := by rw [List.drop_eq_nil_of_le (by simp), List.append_nil]
      have el : q.length + [l.getD i []].length = q.length + 1 := rfl
      rw [ed]
      have := hK (i + 1, q ++ [l.getD i []]) ⟨by show i + 1 ≤ _; omega, by
        show q ++ _ = (l.take (i + 1)).filter ne
        rw [take_at (d := []) hi, List.filter_append, ← k2, List.filter_cons, if_pos (by
          generalize l.getD i [] = y at *
          cases y <;> simp_all [ne])]
        rfl⟩ (by show l.length - (i + 1) < l.length - i; omega)
      dsimp only at this
      rw [List.length_append] at this
      exact this
  · refine br_no (tst_f (by omega)) ?_
    conv => lhs; whnf
    try simp (maxSteps := 2000000) (disch := omega) only [NN, Ty.den, dflt_kv]
    repeat (refine br_go ?_ ?_; (focus (((repeat' first | exact rfl | exact ordB_st rfl | exact ordB_of rfl | apply band | apply tst_t | apply nt_t)  <;> (try dsimp only [Ty.den, dflt_kv]) <;> (try simp only [LL, List.length_set]) <;> (first | trivial | assumption | omega | (change (_ : Int) ≤ _; omega) | (change (_ : Int) < _; omega) | (change (_ : Nat) * 1 ≤ _; omega) | (change (_ : Nat) * 48 ≤ _; omega) | (change (_ : Nat) * 24 ≤ _; omega) | (change (_ : Nat) * 8 ≤ _; omega) | (change (_ : Nat) * 64 ≤ _; omega) | decide)); done)); (conv => lhs; whnf); (try simp (maxSteps := 2000000) (disch := omega) only [NN, Ty.den, dflt_kv]))
    rw [hka]
    conv => lhs; whnf
    try simp (maxSteps := 2000000) (disch := omega) only [NN, Ty.den, dflt_kv]
    repeat (refine br_go ?_ ?_; (focus (((repeat' first | exact rfl | exact ordB_st rfl | exact ordB_of rfl | apply band | apply tst_t | apply nt_t)  <;> (try dsimp only [Ty.den, dflt_kv]) <;> (try simp only [LL, List.length_set]) <;> (first | trivial | assumption | omega | (change (_ : Int) ≤ _; omega) | (change (_ : Int) < _; omega) | (change (_ : Nat) * 1 ≤ _; omega) | (change (_ : Nat) * 48 ≤ _; omega) | (change (_ : Nat) * 24 ≤ _; omega) | (change (_ : Nat) * 8 ≤ _; omega) | (change (_ : Nat) * 64 ≤ _; omega) | decide)); done)); (conv => lhs; whnf); (try simp (maxSteps := 2000000) (disch := omega) only [NN, Ty.den, dflt_kv]))
    have hq : q = l.filter ne := by rw [k2, List.take_of_length_le (by omega)]
    have hql : q.length ≤ 9 := by rw [hq]; exact Nat.le_trans (List.length_filter_le _ _) hl
    have hqn : ∀ x ∈ q, 0 < x.length := fun x hx => by
      rw [hq] at hx
      have := (List.mem_filter.1 hx).2
      cases x <;> simp_all [ne]
    have hok : ∀ y ∈ q, ∀ z ∈ y, okK z := fun y hy z hz => by
      rw [hq] at hy
      have hy' := (List.mem_filter.1 hy).1
      have h1 : Rises y := of_decide_eq_true (List.all_eq_true.1 hr y hy')
      refine ⟨((rises_iff y).1 h1).1 z hz, ?_⟩
      have h2 : Fits kvl y := hf1.2 y hy'
      have h3 : Fits kv z := h2.2 z hz
      exact bytes_of h3.1
    have hri : ∀ y ∈ q, y.Pairwise ltK := fun y hy => by
      rw [hq] at hy
      have h1 : Rises y := of_decide_eq_true (List.all_eq_true.1 hr y (List.mem_filter.1 hy).1)
      exact ((rises_iff y).1 h1).2
    refine hI q.length _ q _ _ hql ⟨hqn, hok⟩ (fun xs g2 g3 => ?_)
    conv => lhs; whnf
    try simp (maxSteps := 2000000) (disch := omega) only [NN, Ty.den, dflt_kv]
    repeat (refine br_go ?_ ?_; (focus (((repeat' first | exact rfl | exact ordB_st rfl | exact ordB_of rfl | apply band | apply tst_t | apply nt_t)  <;> (try dsimp only [Ty.den, dflt_kv]) <;> (try simp only [LL, List.length_set]) <;> (first | trivial | assumption | omega | (change (_ : Int) ≤ _; omega) | (change (_ : Int) < _; omega) | (change (_ : Nat) * 1 ≤ _; omega) | (change (_ : Nat) * 48 ≤ _; omega) | (change (_ : Nat) * 24 ≤ _; omega) | (change (_ : Nat) * 8 ≤ _; omega) | (change (_ : Nat) * 64 ≤ _; omega) | decide)); done)); (conv => lhs; whnf); (try simp (maxSteps := 2000000) (disch := omega) only [NN, Ty.den, dflt_kv]))
    have hall : ∀ y ∈ l, ∀ z ∈ y, okK z := fun y hy z hz => hok y (by rw [hq]; exact List.mem_filter.2 ⟨hy, by cases y <;> simp_all [ne]⟩) z hz
    have hxl : xs.length = q.length := g2.length_eq
    have hL : (xs.take q.length).flatten.Perm l.flatten := by
      rw [List.take_of_length_le (by omega)]
      refine (flat_perm g2).trans ?_
      rw [hq, filter_flat]
    refine loop_ruleK (α := (Nat × Nat) × List (List KV) × List KV) (fun s => s.1.2 ≤ 9 ∧ MInv l.flatten s.2.2 s.2.1 s.1.2) (fun s => (s.2.1.take s.1.2).flatten.length)
      (fun s => (V.bad :: V.bad :: V.bad :: V.bad :: V.p 2 0 :: V.bad :: V.bad :: V.own 5 kv s.2.2 :: V.bad :: V.bad :: V.bad :: V.bad :: V.bad :: V.bad :: V.bad :: V.bad :: V.bad :: V.bad :: V.bad :: V.bad :: V.bad :: V.bad :: V.bad :: V.bad :: V.bad :: V.bad :: V.bad :: V.bad :: V.bad :: V.bad :: V.bad :: V.bad :: V.bad :: V.bad :: V.bad :: V.bad :: V.bad :: V.bad :: V.bad :: V.bad :: V.bad :: V.bad :: V.bad :: V.bad :: V.bad :: V.bad :: V.bad :: V.bad :: V.bad :: V.bad :: V.bad :: V.bad :: V.bad :: V.bad :: V.bad :: V.bad :: V.bad :: V.bad :: V.bad :: V.bad :: V.bad :: V.bad :: V.bad :: V.bad :: V.bad :: V.bad :: V.bad :: V.bad :: V.bad :: V.bad :: V.bad :: V.bad :: V.bad :: V.bad :: V.bad :: []))
      (fun s => [.fam 0, .row s.1.1 kvl s.2.1, .obj [.sr 1 s.1.1 0 s.1.2 1 .full], .gone, .gone, .fam s.2.2.length])
      (fun _ => some (V.tup [.own 0 kv (mergeS l).1, .d .bo (mergeS l).2])) ?_ F ((q.length, q.length), xs, []) ⟨by show q.length ≤ 9; omega, by show q.length ≤ xs.length; omega, fun y hy => hqn y (g2.mem_iff.1 hy), fun y hy => hok y (g2.mem_iff.1 hy), fun y hy => hri y (g2.mem_iff.1 hy), g3, hL, List.Pairwise.nil, fun a ha => by cases ha⟩ (by show (xs.take q.length).flatten.length < F; rw [hL.length_eq]; omega)
    clear g3 hL hxl g2
    rintro kkm hkm ⟨⟨k, w⟩, zs, out⟩ K3 ⟨w8, hinv⟩ hK3
    simp only at w8 hinv hK3 ⊢
    have hwl := hinv.wl
    have hpl := hinv.perm.length_eq
    rw [List.length_append] at hpl
    conv => lhs; whnf
    try simp (maxSteps := 2000000) (disch := omega) only [NN, Ty.den, dflt_kv]
    have elw : (List.take w zs).length = w := by rw [List.length_take]; omega
    refine br_go ?_ ?_
    focus (((repeat' first | exact rfl | exact ordB_st rfl | exact ordB_of rfl | apply band | apply tst_t | apply nt_t)  <;> (try dsimp only [Ty.den, dflt_kv]) <;> (try simp only [LL, List.length_set]) <;> (first | trivial | assumption | omega | (change (_ : Int) ≤ _; omega) | (change (_ : Int) < _; omega) | (change (_ : Nat) * 1 ≤ _; omega) | (change (_ : Nat) * 48 ≤ _; omega) | (change (_ : Nat) * 24 ≤ _; omega) | (change (_ : Nat) * 8 ≤ _; omega) | (change (_ : Nat) * 64 ≤ _; omega) | decide)); done)
    conv => lhs; whnf
    try simp (maxSteps := 2000000) (disch := omega) only [NN, Ty.den, dflt_kv]
    try simp (maxSteps := 2000000) (disch := omega) only [NN, Ty.den, dflt_kv, elw]
    by_cases hw : w = 0
    · subst hw
      refine br_no (tst_f (by omega)) ?_
      conv => lhs; whnf
      try simp (maxSteps := 2000000) (disch := omega) only [NN, Ty.den, dflt_kv]
      repeat (refine br_go ?_ ?_; (focus (((repeat' first | exact rfl | exact ordB_st rfl | exact ordB_of rfl | apply band | apply tst_t | apply nt_t)  <;> (try dsimp only [Ty.den, dflt_kv]) <;> (try simp only [LL, List.length_set]) <;> (first | trivial | assumption | omega | (change (_ : Int) ≤ _; omega) | (change (_ : Int) < _; omega) | (change (_ : Nat) * 1 ≤ _; omega) | (change (_ : Nat) * 48 ≤ _; omega) | (change (_ : Nat) * 24 ≤ _; omega) | (change (_ : Nat) * 8 ≤ _; omega) | (change (_ : Nat) * 64 ≤ _; omega) | decide)); done)); (conv => lhs; whnf); (try simp (maxSteps := 2000000) (disch := omega) only [NN, Ty.den, dflt_kv]))
      rw [hkm]
      conv => lhs; whnf
      try simp (maxSteps := 2000000) (disch := omega) only [NN, Ty.den, dflt_kv]
      repeat (refine br_go ?_ ?_; (focus (((repeat' first | exact rfl | exact ordB_st rfl | exact ordB_of rfl | apply band | apply tst_t | apply nt_t)  <;> (try dsimp only [Ty.den, dflt_kv]) <;> (try simp only [LL, List.length_set]) <;> (first | trivial | assumption | omega | (change (_ : Int) ≤ _; omega) | (change (_ : Int) < _; omega) | (change (_ : Nat) * 1 ≤ _; omega) | (change (_ : Nat) * 48 ≤ _; omega) | (change (_ : Nat) * 24 ≤ _; omega) | (change (_ : Nat) * 8 ≤ _; omega) | (change (_ : Nat) * 64 ≤ _; omega) | decide)); done)); (conv => lhs; whnf); (try simp (maxSteps := 2000000) (disch := omega) only [NN, Ty.den, dflt_kv]))
      rw [merge_done (out := out) (fun x hx => ?_) (by have := hinv.perm; simpa using this) hinv.srt]
      obtain ⟨y, hy, hxy⟩ := List.mem_flatten.1 hx
      exact hall y hy x hxy
    · obtain ⟨n, rfl⟩ : ∃ n, w = n + 1 := ⟨w - 1, by omega⟩
      refine br_go (tst_t (by omega)) ?_
      conv => lhs; whnf
      try simp (maxSteps := 2000000) (disch := omega) only [NN, Ty.den, dflt_kv]
      repeat (refine br_go ?_ ?_; (focus (((repeat' first | exact rfl | exact ordB_st rfl | exact ordB_of rfl | apply band | apply tst_t | apply nt_t)  <;> (try dsimp only [Ty.den, dflt_kv]) <;> (try simp only [LL, List.length_set]) <;> (first | trivial | assumption | omega | (change (_ : Int) ≤ _; omega) | (change (_ : Int) < _; omega) | (change (_ : Nat) * 1 ≤ _; omega) | (change (_ : Nat) * 48 ≤ _; omega) | (change (_ : Nat) * 24 ≤ _; omega) | (change (_ : Nat) * 8 ≤ _; omega) | (change (_ : Nat) * 64 ≤ _; omega) | decide)); done)); (conv => lhs; whnf); (try simp (maxSteps := 2000000) (disch := omega) only [NN, Ty.den, dflt_kv]))
      refine hP out.length k n _ zs _ _ (by omega) (by omega) ⟨hinv.ne, hinv.ok⟩ hinv.heap (fun ys y1 y2 y3 => ?_)
      obtain ⟨p1, p2, p3, p4⟩ := popped (by omega) y1 y2
      have hm0 : zs.getD 0 [] ∈ zs := by rw [getD_at (by omega)]; exact List.getElem_mem _
      have hm1 : zs.getD 0 [] ∈ zs.take (n + 1) := by rw [getD_at (by omega), List.mem_take_iff_getElem]; exact ⟨0, by omega, rfl⟩
      obtain ⟨z, rst, hz⟩ : ∃ z t, zs.getD 0 [] = z :: t := by
        have h0 := hinv.ne _ hm0
        cases hg : zs.getD 0 [] with
        | nil => rw [hg] at h0; simp at h0
        | cons z t => exact ⟨z, t, rfl⟩
      have hzm : z ∈ (zs.take (n + 1)).flatten := List.mem_flatten.2 ⟨_, hm1, by rw [hz]; exact List.mem_cons_self⟩
      have hzk : okK z := hinv.ok _ hm0 z (by rw [hz]; exact List.mem_cons_self)
      rw [hz]
      have hys : ∀ y ∈ ys, y ∈ zs := fun y hy => ((y1.trans (swp_perm (by omega) (by omega))).mem_iff).1 hy
      have hfl := (flat_perm p3).length_eq
      rw [List.flatten_append, List.length_append, hz] at hfl
      simp only [List.flatten_cons, List.flatten_nil, List.append_nil, List.length_cons] at hfl
      have hoo : ∀ a ∈ out, okK a := fun a ha => by
        obtain ⟨y, hy, hay⟩ := List.mem_flatten.1 (hinv.perm.mem_iff.1 (List.mem_append_left _ ha))
        exact hall y hy a hay
      have hlz : (z :: rst).length = rst.length + 1 := rfl
      conv => lhs; whnf
      try simp (maxSteps := 2000000) (disch := omega) only [NN, Ty.den, dflt_kv]
      repeat (refine br_go ?_ ?_; (focus (((repeat' first | exact rfl | exact ordB_st rfl | exact ordB_of rfl | apply band | apply tst_t | apply nt_t)  <;> (try dsimp only [Ty.den, dflt_kv]) <;> (try simp only [LL, List.length_set]) <;> (first | trivial | assumption | omega | (change (_ : Int) ≤ _; omega) | (change (_ : Int) < _; omega) | (change (_ : Nat) * 1 ≤ _; omega) | (change (_ : Nat) * 48 ≤ _; omega) | (change (_ : Nat) * 24 ≤ _; omega) | (change (_ : Nat) * 8 ≤ _; omega) | (change (_ : Nat) * 64 ≤ _; omega) | decide)); done)); (conv => lhs; whnf); (try simp (maxSteps := 2000000) (disch := omega) only [NN, Ty.den, dflt_kv]))
      have hgz : (z :: rst).getD 0 kvd = z := rfl
      try simp (maxSteps := 2000000) (disch := omega) only [NN, Ty.den, dflt_kv, hgz]
      by_cases ho : out.length = 0
      · have hnd : ∀ a ∈ out, order a.1 z.1 ≠ 0 := fun a ha => by rw [List.eq_nil_of_length_eq_zero ho] at ha; cases ha
        refine br_no (tst_f (by omega)) ?_
        conv => lhs; whnf
        try simp (maxSteps := 2000000) (disch := omega) only [NN, Ty.den, dflt_kv]
        repeat (refine br_go ?_ ?_; (focus (((repeat' first | exact rfl | exact ordB_st rfl | exact ordB_of rfl | apply band | apply tst_t | apply nt_t)  <;> (try dsimp only [Ty.den, dflt_kv]) <;> (try simp only [LL, List.length_set]) <;> (first | trivial | assumption | omega | (change (_ : Int) ≤ _; omega) | (change (_ : Int) < _; omega) | (change (_ : Nat) * 1 ≤ _; omega) | (change (_ : Nat) * 48 ≤ _; omega) | (change (_ : Nat) * 24 ≤ _; omega) | (change (_ : Nat) * 8 ≤ _; omega) | (change (_ : Nat) * 64 ≤ _; omega) | decide)); done)); (conv => lhs; whnf); (try simp (maxSteps := 2000000) (disch := omega) only [NN, Ty.den, dflt_kv]))
        by_cases hr1 : rst = []
        · subst hr1
          refine br_no (tst_f (by (show ¬ (((1 : Nat) : Int) > 1)); omega)) ?_
          conv => lhs; whnf
          try simp (maxSteps := 2000000) (disch := omega) only [NN, Ty.den, dflt_kv]
          repeat (refine br_go ?_ ?_; (focus (((repeat' first | exact rfl | exact ordB_st rfl | exact ordB_of rfl | apply band | apply tst_t | apply nt_t)  <;> (try dsimp only [Ty.den, dflt_kv]) <;> (try simp only [LL, List.length_set]) <;> (first | trivial | assumption | omega | (change (_ : Int) ≤ _; omega) | (change (_ : Int) < _; omega) | (change (_ : Nat) * 1 ≤ _; omega) | (change (_ : Nat) * 48 ≤ _; omega) | (change (_ : Nat) * 24 ≤ _; omega) | (change (_ : Nat) * 8 ≤ _; omega) | (change (_ : Nat) * 64 ≤ _; omega) | decide)); done)); (conv => lhs; whnf); (try simp (maxSteps := 2000000) (disch := omega) only [NN, Ty.den, dflt_kv]))
          exact hK3 ((k, n), ys, out ++ [z]) ⟨by show n ≤ 9; omega, hinv.next hz hnd p3 (fun y hy => .inl (hys y hy)) (by show n ≤ ys.length; omega) y3 (by rw [List.append_nil])⟩ (by show ((ys.take n).flatten).length < ((zs.take (n + 1)).flatten).length; omega)
        · have hr2 : 0 < rst.length := List.length_pos_iff.2 hr1
          have hrk : ∀ b ∈ rst, okK b := fun b hb => hinv.ok _ hm0 b (by rw [hz]; exact List.mem_cons_of_mem _ hb)
          refine br_go (tst_t (by omega)) ?_
          conv => lhs; whnf
          try simp (maxSteps := 2000000) (disch := omega) only [NN, Ty.den, dflt_kv]
          repeat (refine br_go ?_ ?_; (focus (((repeat' first | exact rfl | exact ordB_st rfl | exact ordB_of rfl | apply band | apply tst_t | apply nt_t)  <;> (try dsimp only [Ty.den, dflt_kv]) <;> (try simp only [LL, List.length_set]) <;> (first | trivial | assumption | omega | (change (_ : Int) ≤ _; omega) | (change (_ : Int) < _; omega) | (change (_ : Nat) * 1 ≤ _; omega) | (change (_ : Nat) * 48 ≤ _; omega) | (change (_ : Nat) * 24 ≤ _; omega) | (change (_ : Nat) * 8 ≤ _; omega) | (change (_ : Nat) * 64 ≤ _; omega) | decide)); done)); (conv => lhs; whnf); (try simp (maxSteps := 2000000) (disch := omega) only [NN, Ty.den, dflt_kv]))
          refine hU (out ++ [z]).length k n _ ys rst _ _ (by omega) (by omega) ⟨fun y hy => hinv.ne y (hys y hy), fun y hy => hinv.ok y (hys y hy)⟩ ⟨hr2, hrk⟩ y3 (fun vs v1 v2 v3 => ?_)
          obtain ⟨q1, q2, q3, q4⟩ := push_get (xs := ys) (n := n) (y := rst) (by omega)
          have hvf : (vs.take (n + 1)).flatten.Perm ((ys.take n).flatten ++ rst) := by
            have h1 := take_perm v1 (v2.trans q3.symm)
            rw [q4] at h1
            have h2 := flat_perm h1
            rw [List.flatten_append] at h2
            simpa using h2
          have hvl := hvf.length_eq
          rw [List.length_append] at hvl
          conv => lhs; whnf
          try simp (maxSteps := 2000000) (disch := omega) only [NN, Ty.den, dflt_kv]
          repeat (refine br_go ?_ ?_; (focus (((repeat' first | exact rfl | exact ordB_st rfl | exact ordB_of rfl | apply band | apply tst_t | apply nt_t)  <;> (try dsimp only [Ty.den, dflt_kv]) <;> (try simp only [LL, List.length_set]) <;> (first | trivial | assumption | omega | (change (_ : Int) ≤ _; omega) | (change (_ : Int) < _; omega) | (change (_ : Nat) * 1 ≤ _; omega) | (change (_ : Nat) * 48 ≤ _; omega) | (change (_ : Nat) * 24 ≤ _; omega) | (change (_ : Nat) * 8 ≤ _; omega) | (change (_ : Nat) * 64 ≤ _; omega) | decide)); done)); (conv => lhs; whnf); (try simp (maxSteps := 2000000) (disch := omega) only [NN, Ty.den, dflt_kv]))
          exact hK3 ((k + 1, n + 1), vs, out ++ [z]) ⟨by show n + 1 ≤ 9; omega, hinv.next hz hnd p3 (fun y hy => by
            rcases List.mem_append.1 (v1.mem_iff.1 hy) with hy | hy
            · rcases List.mem_append.1 hy with hy | hy
              · exact .inl (hys y (List.mem_of_mem_take hy))
              · exact .inr ⟨List.mem_singleton.1 hy, hr1⟩
            · exact .inl (hys y (List.mem_of_mem_drop hy))) (by show n + 1 ≤ vs.length; have := v1.length_eq; omega) v3 hvf⟩ (by show ((vs.take (n + 1)).flatten).length < ((zs.take (n + 1)).flatten).length; omega)
      · have hom : out.getD (out.length - 1) kvd ∈ out := by rw [getD_at (by omega)]; exact List.getElem_mem _
        refine br_go (tst_t (by omega)) ?_
        conv => lhs; whnf
        try simp (maxSteps := 2000000) (disch := omega) only [NN, Ty.den, dflt_kv]
        repeat (refine br_go ?_ ?_; (focus (((repeat' first | exact rfl | exact ordB_st rfl | exact ordB_of rfl | apply band | apply tst_t | apply nt_t)  <;> (try dsimp only [Ty.den, dflt_kv]) <;> (try simp only [LL, List.length_set]) <;> (first | trivial | assumption | omega | (change (_ : Int) ≤ _; omega) | (change (_ : Int) < _; omega) | (change (_ : Nat) * 1 ≤ _; omega) | (change (_ : Nat) * 48 ≤ _; omega) | (change (_ : Nat) * 24 ≤ _; omega) | (change (_ : Nat) * 8 ≤ _; omega) | (change (_ : Nat) * 64 ≤ _; omega) | decide)); done)); (conv => lhs; whnf); (try simp (maxSteps := 2000000) (disch := omega) only [NN, Ty.den, dflt_kv]))
        by_cases he : (out.getD (out.length - 1) kvd).1 = z.1
        · refine br_go (tst_t (he)) ?_
          conv => lhs; whnf
          try simp (maxSteps := 2000000) (disch := omega) only [NN, Ty.den, dflt_kv]
          repeat (refine br_go ?_ ?_; (focus (((repeat' first | exact rfl | exact ordB_st rfl | exact ordB_of rfl | apply band | apply tst_t | apply nt_t)  <;> (try dsimp only [Ty.den, dflt_kv]) <;> (try simp only [LL, List.length_set]) <;> (first | trivial | assumption | omega | (change (_ : Int) ≤ _; omega) | (change (_ : Int) < _; omega) | (change (_ : Nat) * 1 ≤ _; omega) | (change (_ : Nat) * 48 ≤ _; omega) | (change (_ : Nat) * 24 ≤ _; omega) | (change (_ : Nat) * 8 ≤ _; omega) | (change (_ : Nat) * 64 ≤ _; omega) | decide)); done)); (conv => lhs; whnf); (try simp (maxSteps := 2000000) (disch := omega) only [NN, Ty.den, dflt_kv]))
          rw [hkm]
          conv => lhs; whnf
          try simp (maxSteps := 2000000) (disch := omega) only [NN, Ty.den, dflt_kv]
          repeat (refine br_go ?_ ?_; (focus (((repeat' first | exact rfl | exact ordB_st rfl | exact ordB_of rfl | apply band | apply tst_t | apply nt_t)  <;> (try dsimp only [Ty.den, dflt_kv]) <;> (try simp only [LL, List.length_set]) <;> (first | trivial | assumption | omega | (change (_ : Int) ≤ _; omega) | (change (_ : Int) < _; omega) | (change (_ : Nat) * 1 ≤ _; omega) | (change (_ : Nat) * 48 ≤ _; omega) | (change (_ : Nat) * 24 ≤ _; omega) | (change (_ : Nat) * 8 ≤ _; omega) | (change (_ : Nat) * 64 ≤ _; omega) | decide)); done)); (conv => lhs; whnf); (try simp (maxSteps := 2000000) (disch := omega) only [NN, Ty.den, dflt_kv]))
          obtain ⟨rest, x, d1, d2⟩ := hinv.dup hom (by rw [hz]; show order (out.getD (out.length - 1) kvd).1 z.1 = 0; rw [he]; have := order_neg z.1 z.1; omega)
          rw [merge_dup d1 hom d2]
        · have hnd : ∀ a ∈ out, order a.1 z.1 ≠ 0 := hinv.apart hzm (.inr (fun e => he (order_zero (hoo _ hom).2 hzk.2 (hoo _ hom).1 hzk.1 e)))
          refine br_no (tst_f (he)) ?_
          conv => lhs; whnf
          try simp (maxSteps := 2000000) (disch := omega) only [NN, Ty.den, dflt_kv]
          repeat (refine br_go ?_ ?_; (focus (((repeat' first | exact rfl | exact ordB_st rfl | exact ordB_of rfl | apply band | apply tst_t | apply nt_t)  <;> (try dsimp only [Ty.den, dflt_kv]) <;> (try simp only [LL, List.length_set]) <;> (first | trivial | assumption | omega | (change (_ : Int) ≤ _; omega) | (change (_ : Int) < _; omega) | (change (_ : Nat) * 1 ≤ _; omega) | (change (_ : Nat) * 48 ≤ _; omega) | (change (_ : Nat) * 24 ≤ _; omega) | (change (_ : Nat) * 8 ≤ _; omega) | (change (_ : Nat) * 64 ≤ _; omega) | decide)); done)); (conv => lhs; whnf); (try simp (maxSteps := 2000000) (disch := omega) only [NN, Ty.den, dflt_kv]))
          by_cases hr1 : rst = []
          · subst hr1
            refine br_no (tst_f (by (show ¬ (((1 : Nat) : Int) > 1)); omega)) ?_
            conv => lhs; whnf
            try simp (maxSteps := 2000000) (disch := omega) only [NN, Ty.den, dflt_kv]
            repeat (refine br_go ?_ ?_; (focus (((repeat' first | exact rfl | exact ordB_st rfl | exact ordB_of rfl | apply band | apply tst_t | apply nt_t)  <;> (try dsimp only [Ty.den, dflt_kv]) <;> (try simp only [LL, List.length_set]) <;> (first | trivial | assumption | omega | (change (_ : Int) ≤ _; omega) | (change (_ : Int) < _; omega) | (change (_ : Nat) * 1 ≤ _; omega) | (change (_ : Nat) * 48 ≤ _; omega) | (change (_ : Nat) * 24 ≤ _; omega) | (change (_ : Nat) * 8 ≤ _; omega) | (change (_ : Nat) * 64 ≤ _; omega) | decide)); done)); (conv => lhs; whnf); (try simp (maxSteps := 2000000) (disch := omega) only [NN, Ty.den, dflt_kv]))
            exact hK3 ((k, n), ys, out ++ [z]) ⟨by show n ≤ 9; omega, hinv.next hz hnd p3 (fun y hy => .inl (hys y hy)) (by show n ≤ ys.length; omega) y3 (by rw [List.append_nil])⟩ (by show ((ys.take n).flatten).length < ((zs.take (n + 1)).flatten).length; omega)
          · have hr2 : 0 < rst.length := List.length_pos_iff.2 hr1
            have hrk : ∀ b ∈ rst, okK b := fun b hb => hinv.ok _ hm0 b (by rw [hz]; exact List.mem_cons_of_mem _ hb)
            refine br_go (tst_t (by omega)) ?_
            conv => lhs; whnf
            try simp (maxSteps := 2000000) (disch := omega) only [NN, Ty.den, dflt_kv]
            repeat (refine br_go ?_ ?_; (focus (((repeat' first | exact rfl | exact ordB_st rfl | exact ordB_of rfl | apply band | apply tst_t | apply nt_t)  <;> (try dsimp only [Ty.den, dflt_kv]) <;> (try simp only [LL, List.length_set]) <;> (first | trivial | assumption | omega | (change (_ : Int) ≤ _; omega) | (change (_ : Int) < _; omega) | (change (_ : Nat) * 1 ≤ _; omega) | (change (_ : Nat) * 48 ≤ _; omega) | (change (_ : Nat) * 24 ≤ _; omega) | (change (_ : Nat) * 8 ≤ _; omega) | (change (_ : Nat) * 64 ≤ _; omega) | decide)); done)); (conv => lhs; whnf); (try simp (maxSteps := 2000000) (disch := omega) only [NN, Ty.den, dflt_kv]))
            refine hU (out ++ [z]).length k n _ ys rst _ _ (by omega) (by omega) ⟨fun y hy => hinv.ne y (hys y hy), fun y hy => hinv.ok y (hys y hy)⟩ ⟨hr2, hrk⟩ y3 (fun vs v1 v2 v3 => ?_)
            obtain ⟨q1, q2, q3, q4⟩ := push_get (xs := ys) (n := n) (y := rst) (by omega)
            have hvf : (vs.take (n + 1)).flatten.Perm ((ys.take n).flatten ++ rst) := by
              have h1 := take_perm v1 (v2.trans q3.symm)
              rw [q4] at h1
              have h2 := flat_perm h1
              rw [List.flatten_append] at h2
              simpa using h2
            have hvl := hvf.length_eq
            rw [List.length_append] at hvl
            conv => lhs; whnf
            try simp (maxSteps := 2000000) (disch := omega) only [NN, Ty.den, dflt_kv]
            repeat (refine br_go ?_ ?_; (focus (((repeat' first | exact rfl | exact ordB_st rfl | exact ordB_of rfl | apply band | apply tst_t | apply nt_t)  <;> (try dsimp only [Ty.den, dflt_kv]) <;> (try simp only [LL, List.length_set]) <;> (first | trivial | assumption | omega | (change (_ : Int) ≤ _; omega) | (change (_ : Int) < _; omega) | (change (_ : Nat) * 1 ≤ _; omega) | (change (_ : Nat) * 48 ≤ _; omega) | (change (_ : Nat) * 24 ≤ _; omega) | (change (_ : Nat) * 8 ≤ _; omega) | (change (_ : Nat) * 64 ≤ _; omega) | decide)); done)); (conv => lhs; whnf); (try simp (maxSteps := 2000000) (disch := omega) only [NN, Ty.den, dflt_kv]))
            exact hK3 ((k + 1, n + 1), vs, out ++ [z]) ⟨by show n + 1 ≤ 9; omega, hinv.next hz hnd p3 (fun y hy => by
              rcases List.mem_append.1 (v1.mem_iff.1 hy) with hy | hy
              · rcases List.mem_append.1 hy with hy | hy
                · exact .inl (hys y (List.mem_of_mem_take hy))
                · exact .inr ⟨List.mem_singleton.1 hy, hr1⟩
              · exact .inl (hys y (List.mem_of_mem_drop hy))) (by show n + 1 ≤ vs.length; have := v1.length_eq; omega) v3 hvf⟩ (by show ((vs.take (n + 1)).flatten).length < ((zs.take (n + 1)).flatten).length; omega)
theorem merged_ok (T : Tab) (h2 : T 41 = equalSp.ent) (h6 : T 62 = lenQSp.ent) (h7 : T 106 = lessSp.ent) (n1 : T 61 = none) (n2 : T 63 = none) (n3 : T 64 = none) (n4 : T 78 = none) (n5 : T 79 = none)
    (n8 : T 109 = none) (n9 : T 107 = none) (n10 : T 108 = none) : mergedSp.Ok T mergedC F38 := by
  rintro ⟨(l : List (List KV)), _⟩ hf hp
  have hf1 : Fits kvll l := hf.1
  have hp : fewL l ∧ allRise l = true := by simpa only [mergedSp, Bool.and_eq_true, tst_iff] using hp
  obtain ⟨⟨hl, ht⟩, hr⟩ := hp
  exact ⟨500, 3, merged_gen T 500 _ rfl h2 h6 n1 n2 n3 (initK_ok T 500 0 (by omega) h6 h7 n8 n4) (fun m => popK_ok T 500 0 m (by omega) h6 h7 n8 n4 n9) (fun m => pushK_ok T 500 0 m (by omega) h6 h7 n8 n5 n10) l hf1 hl ht hr⟩
end Go.Proofs.Ytmpmmfbgdpfnpaa.Ev
/- Blocks: what they are made of. -/
namespace Go.Proofs.Ytmpmmfbgdpfnpaa.Ev
open Go Go.RowKit
set_option linter.unusedVariables false
def sharedL : List Int → List Int → Nat
  | a :: x, b :: y => if a = b then sharedL x y + 1 else 0
  | _, _ => 0
theorem sharedL_left (a b : List Int) : sharedL a b ≤ a.length := by
  induction a generalizing b with
  | nil => simp [sharedL]
  | cons x a ih =>
    cases b with
    | nil => simp [sharedL]
    | cons y b => simp only [sharedL, List.length_cons]; have := ih b; split <;> omega
theorem sharedL_right (a b : List Int) : sharedL a b ≤ b.length := by
  induction a generalizing b with
  | nil => simp [sharedL]
  | cons x a ih =>
    cases b with
    | nil => simp [sharedL]
    | cons y b => simp only [sharedL, List.length_cons]; have := ih b; split <;> omega
/-- an entry's bytes behind so many shared ones -/
def entB (k : Nat) (x : KV) : List Int := putS k ++ putS (x.1.length - k) ++ putS x.2.1.length ++ x.1.drop k ++ x.2.1
/-- a block's bytes from an entry on: the key ahead, how many entries lie ahead, the bytes, the restarts' places as bytes, how many they are -/
def builtGo (r : Nat) : List Int → Nat → List KV → List Int → List Int → Nat → List Int
  | _, _, [], out, tail, n => out ++ tail ++ fixedL n 4
  | p, i, x :: l, out, tail, n =>
    if i % r = 0 then builtGo r x.1 (i + 1) l (out ++ entB 0 x) (tail ++ fixedL out.length 4) (n + 1)
    else builtGo r x.1 (i + 1) l (out ++ entB (sharedL p x.1) x) tail n
def built (l : List KV) (r : Nat) : List Int := builtGo r [] 0 l [] [] 0
def keyAt (l : List KV) (i : Nat) : List Int := if i = 0 then [] else (l.getD (i - 1) kvd).1
theorem entB_length {k : Nat} {x : KV} (hx : x.1.length ≤ 140737488355328) (hy : x.2.1.length ≤ 140737488355328) (hk : k ≤ x.1.length) : (entB k x).length ≤ x.1.length + x.2.1.length + 30 := by
  have h1 := putS_length64 (n := k) (by omega)
  have h2 := putS_length64 (n := x.1.length - k) (by omega)
  have h3 := putS_length64 (n := x.2.1.length) (by omega)
  simp only [entB, List.length_append, List.length_drop]
  omega
noncomputable section
def sharedSp : Sp := ⟨[byl, byl], fun _ => true, fun x => vI (sharedL x.1 x.2.1)⟩
/-- entries that are not too many to lay down -/
def Fair (l : List KV) : Prop := l.length ≤ 1048576 ∧ total l ≤ 1073741824
instance (l : List KV) : Decidable (Fair l) := inferInstanceAs (Decidable (_ ∧ _))
def builtPre (l : List KV) (r : Int) : Bool := tst (Fair l) && tst (1 ≤ r) && tst (r ≤ 64)
def builtSp : Sp := ⟨[kvl, i64], fun x => builtPre x.1 x.2.1, fun x => vO 0 (built x.1 (Int.toNat x.2.1))⟩
def buildS (l : List KV) (r : Int) (e1 e2 : Int) : List Int × Int := if r < 1 ∨ 64 < r then ([], e1) else if Rises l then (built l r.toNat, 0) else ([], e2)
def buildPre (l : List KV) : Bool := tst (Fair l)
def buildSp : Sp := ⟨[kvl, i64], fun x => buildPre x.1, fun x => .tup [vO 0 (buildS x.1 x.2.1 71 70).1, vI (buildS x.1 x.2.1 71 70).2]⟩
end
end Go.Proofs.Ytmpmmfbgdpfnpaa.Ev
/- Blocks built, by the program and by the document. -/
namespace Go.Proofs.Ytmpmmfbgdpfnpaa.Ev
open Go Go.RowKit
set_option linter.unusedVariables false
set_option linter.unusedSimpArgs false
set_option maxRecDepth 100000
set_option maxHeartbeats 8000000
abbrev risesC : Ctx := ⟨rows, (fun | 0 => ([0, 3], []) | 1 => ([], [0, 3]) | _ => ([], []))⟩
def prevOf (l : List KV) (i : Nat) : Option (List Int) := if i = 0 then none else some (l.getD (i - 1) kvd).1
theorem prevOf_succ (l : List KV) (i : Nat) : prevOf l (i + 1) = some (l.getD i kvd).1 := by rw [prevOf, if_neg (by omega)]; rfl
theorem rises_ok (T : Tab) (h1 : T 47 = isSp.ent) (h2 : T 44 = orderSp.ent) : risesSp.Ok T risesC F21 := by
  rw [on_top h1, on_top h2]
  rintro ⟨(l : List KV), _⟩ hf _
  have hl : l.length ≤ 140737488355328 := (fits_kvl.1 hf.1).1
  obtain ⟨F, hF⟩ : ∃ F : Nat, F = l.length + 1 := ⟨_, rfl⟩
  refine ⟨F, 0, ?_⟩
  show evFn _ _ _ _ _ [vK l] [] _ = some (vT (Rises l) : V)
  conv => lhs; whnf
  try simp (maxSteps := 2000000) (disch := omega) only [NN, Ty.den, dflt_kv]
  refine (loop_rule (α := Nat) (fun i => i ≤ l.length) (fun i => l.length - i)
    (fun i => (vK l :: V.bad :: V.bad :: vI i :: V.bad :: V.bad :: V.bad :: V.bad :: V.bad :: V.bad :: V.bad :: V.bad :: V.bad :: V.bad :: V.bad :: V.bad :: V.bad :: V.bad :: V.bad :: V.bad :: V.bad :: V.bad :: V.bad :: V.bad :: V.bad :: V.bad :: V.bad :: V.bad :: V.bad :: V.bad :: V.bad :: V.bad :: V.bad :: V.bad :: V.bad :: V.bad :: [])) (fun i => [])
    (fun i => some (vT (risesFrom (prevOf l i) (l.drop i) = true))) ?_ F 0 (by omega) (by omega))
  rintro i K h1 hK
  conv => lhs; whnf
  try simp (maxSteps := 2000000) (disch := omega) only [NN, Ty.den, dflt_kv]
  by_cases hi : i < l.length
  · refine br_go (tst_t (by omega)) ?_
    conv => lhs; whnf
    try simp (maxSteps := 2000000) (disch := omega) only [NN, Ty.den, dflt_kv]
    repeat (refine br_go ?_ ?_; (focus (((repeat' first | exact rfl | exact ordB_st rfl | exact ordB_of rfl | apply band | apply tst_t | apply nt_t)  <;> (try dsimp only [Ty.den, dflt_kv]) <;> (try simp only [LL]) <;> (first | trivial | assumption | omega | (change (_ : Int) ≤ _; omega) | (change (_ : Int) < _; omega) | (change (_ : Nat) * 1 ≤ _; omega) | (change (_ : Nat) * 48 ≤ _; omega) | (change (_ : Nat) * 24 ≤ _; omega) | (change (_ : Nat) * 8 ≤ _; omega) | (change (_ : Nat) * 64 ≤ _; omega) | decide)); done)); (conv => lhs; whnf); (try simp (maxSteps := 2000000) (disch := omega) only [NN, Ty.den, dflt_kv]))
    rw [drop_at (d := kvd) hi]
    by_cases ho : (split (l.getD i kvd).1).2.2.2 = 0
    · refine br_no (nt_f ho) ?_
      conv => lhs; whnf
      try simp (maxSteps := 2000000) (disch := omega) only [NN, Ty.den, dflt_kv]
      by_cases h0 : i = 0
      · refine br_no (tst_f (by omega)) ?_
        conv => lhs; whnf
        try simp (maxSteps := 2000000) (disch := omega) only [NN, Ty.den, dflt_kv]
        repeat (refine br_go ?_ ?_; (focus (((repeat' first | exact rfl | exact ordB_st rfl | exact ordB_of rfl | apply band | apply tst_t | apply nt_t)  <;> (try dsimp only [Ty.den, dflt_kv]) <;> (try simp only [LL]) <;> (first | trivial | assumption | omega | (change (_ : Int) ≤ _; omega) | (change (_ : Int) < _; omega) | (change (_ : Nat) * 1 ≤ _; omega) | (change (_ : Nat) * 48 ≤ _; omega) | (change (_ : Nat) * 24 ≤ _; omega) | (change (_ : Nat) * 8 ≤ _; omega) | (change (_ : Nat) * 64 ≤ _; omega) | decide)); done)); (conv => lhs; whnf); (try simp (maxSteps := 2000000) (disch := omega) only [NN, Ty.den, dflt_kv]))
        subst h0
        refine (hK 1 (by omega) (by omega)).trans (bo_tst ?_)
        rw [risesFrom_cons, decide_eq_true ho, prevOf_succ, show prevOf l 0 = none from rfl, aheadOK, Bool.true_and, Bool.true_and]
      · refine br_go (tst_t (by omega)) ?_
        conv => lhs; whnf
        try simp (maxSteps := 2000000) (disch := omega) only [NN, Ty.den, dflt_kv]
        repeat (refine br_go ?_ ?_; (focus (((repeat' first | exact rfl | exact ordB_st rfl | exact ordB_of rfl | apply band | apply tst_t | apply nt_t)  <;> (try dsimp only [Ty.den, dflt_kv]) <;> (try simp only [LL]) <;> (first | trivial | assumption | omega | (change (_ : Int) ≤ _; omega) | (change (_ : Int) < _; omega) | (change (_ : Nat) * 1 ≤ _; omega) | (change (_ : Nat) * 48 ≤ _; omega) | (change (_ : Nat) * 24 ≤ _; omega) | (change (_ : Nat) * 8 ≤ _; omega) | (change (_ : Nat) * 64 ≤ _; omega) | decide)); done)); (conv => lhs; whnf); (try simp (maxSteps := 2000000) (disch := omega) only [NN, Ty.den, dflt_kv]))
        have hp : prevOf l i = some (l.getD (i - 1) kvd).1 := if_neg h0
        rw [hp, risesFrom_cons, decide_eq_true ho, aheadOK]
        by_cases hc : order (l.getD (i - 1) kvd).1 (l.getD i kvd).1 ≥ 0
        · refine br_go (tst_t (hc)) ?_
          conv => lhs; whnf
          try simp (maxSteps := 2000000) (disch := omega) only [NN, Ty.den, dflt_kv]
          exact bo_f (by rw [decide_eq_false (by omega)]; simp only [Bool.false_and, Bool.and_false, Bool.false_eq_true, not_false_eq_true])
        · refine br_no (tst_f (hc)) ?_
          conv => lhs; whnf
          try simp (maxSteps := 2000000) (disch := omega) only [NN, Ty.den, dflt_kv]
          refine (hK (i + 1) (by omega) (by omega)).trans (bo_tst ?_)
          rw [prevOf_succ, decide_eq_true (by omega : order (l.getD (i - 1) kvd).1 (l.getD i kvd).1 < 0), Bool.true_and, Bool.true_and]
    · refine br_go (nt_t ho) ?_
      conv => lhs; whnf
      try simp (maxSteps := 2000000) (disch := omega) only [NN, Ty.den, dflt_kv]
      repeat (refine br_go ?_ ?_; (focus (((repeat' first | exact rfl | exact ordB_st rfl | exact ordB_of rfl | apply band | apply tst_t | apply nt_t)  <;> (try dsimp only [Ty.den, dflt_kv]) <;> (try simp only [LL]) <;> (first | trivial | assumption | omega | (change (_ : Int) ≤ _; omega) | (change (_ : Int) < _; omega) | (change (_ : Nat) * 1 ≤ _; omega) | (change (_ : Nat) * 48 ≤ _; omega) | (change (_ : Nat) * 24 ≤ _; omega) | (change (_ : Nat) * 8 ≤ _; omega) | (change (_ : Nat) * 64 ≤ _; omega) | decide)); done)); (conv => lhs; whnf); (try simp (maxSteps := 2000000) (disch := omega) only [NN, Ty.den, dflt_kv]))
      exact bo_f (by rw [risesFrom_cons, decide_eq_false ho]; simp only [Bool.false_and, Bool.false_eq_true, not_false_eq_true])
  · refine br_no (tst_f (by omega)) ?_
    conv => lhs; whnf
    try simp (maxSteps := 2000000) (disch := omega) only [NN, Ty.den, dflt_kv]
    repeat (refine br_go ?_ ?_; (focus (((repeat' first | exact rfl | exact ordB_st rfl | exact ordB_of rfl | apply band | apply tst_t | apply nt_t)  <;> (try dsimp only [Ty.den, dflt_kv]) <;> (try simp only [LL]) <;> (first | trivial | assumption | omega | (change (_ : Int) ≤ _; omega) | (change (_ : Int) < _; omega) | (change (_ : Nat) * 1 ≤ _; omega) | (change (_ : Nat) * 48 ≤ _; omega) | (change (_ : Nat) * 24 ≤ _; omega) | (change (_ : Nat) * 8 ≤ _; omega) | (change (_ : Nat) * 64 ≤ _; omega) | decide)); done)); (conv => lhs; whnf); (try simp (maxSteps := 2000000) (disch := omega) only [NN, Ty.den, dflt_kv]))
    exact bo_t (by rw [List.drop_eq_nil_of_le (by omega : l.length ≤ i)]; rfl)
end Go.Proofs.Ytmpmmfbgdpfnpaa.Ev
/- Merging: what is asked of entries, lists and spans, by the program and by the document. -/
namespace Go.Proofs.Ytmpmmfbgdpfnpaa.Ev
open Go Go.RowKit
set_option linter.unusedVariables false
set_option linter.unusedSimpArgs false
set_option maxRecDepth 100000
set_option maxHeartbeats 8000000
abbrev crisesC : Ctx := ⟨rows, (fun | 0 => ([0, 8, 9, 10], []) | 1 => ([], [0, 8, 9, 10]) | _ => ([], []))⟩
theorem crises_ok (T : Tab) (h1 : T 56 = compareSp.ent) : risesSp.Ok T crisesC F37 := by
  rw [on_top h1]
  rintro ⟨(l : List KV), _⟩ hf _
  have hl : l.length ≤ 140737488355328 := (fits_kvl.1 hf.1).1
  obtain ⟨F, hF⟩ : ∃ F : Nat, F = l.length + 1 := ⟨_, rfl⟩
  refine ⟨F, 0, ?_⟩
  show evFn _ _ _ _ _ [vK l] [] _ = some (vT (Rises l) : V)
  conv => lhs; whnf
  try simp (maxSteps := 2000000) (disch := omega) only [NN, Ty.den, dflt_kv]
  refine (loop_rule (α := Nat) (fun i => i ≤ l.length ∧ (0 < i → (split (l.getD (i - 1) kvd).1).2.2.2 = 0)) (fun i => l.length - i)
    (fun i => (vK l :: V.bad :: V.bad :: V.bad :: V.bad :: V.bad :: V.bad :: V.bad :: vK l :: vI l.length :: vI i :: V.bad :: V.bad :: V.bad :: V.bad :: V.bad :: V.bad :: V.bad :: V.bad :: V.bad :: V.bad :: V.bad :: V.bad :: V.bad :: V.bad :: V.bad :: V.bad :: V.bad :: V.bad :: V.bad :: V.bad :: V.bad :: V.bad :: V.bad :: V.bad :: V.bad :: V.bad :: V.bad :: V.bad :: V.bad :: V.bad :: V.bad :: V.bad :: [])) (fun i => [.gone])
    (fun i => some (vT (risesFrom (prevOf l i) (l.drop i) = true))) ?_ F 0 ⟨by omega, by omega⟩ (by omega))
  rintro i K ⟨h1, h4⟩ hK
  conv => lhs; whnf
  try simp (maxSteps := 2000000) (disch := omega) only [NN, Ty.den, dflt_kv]
  by_cases hi : i < l.length
  · refine br_go (tst_t (by omega)) ?_
    conv => lhs; whnf
    try simp (maxSteps := 2000000) (disch := omega) only [NN, Ty.den, dflt_kv]
    repeat (refine br_go ?_ ?_; (focus (((repeat' first | exact rfl | exact ordB_st rfl | exact ordB_of rfl | apply band | apply tst_t | apply nt_t)  <;> (try dsimp only [Ty.den, dflt_kv]) <;> (try simp only [LL]) <;> (first | trivial | assumption | omega | (change (_ : Int) ≤ _; omega) | (change (_ : Int) < _; omega) | (change (_ : Nat) * 1 ≤ _; omega) | (change (_ : Nat) * 48 ≤ _; omega) | (change (_ : Nat) * 24 ≤ _; omega) | (change (_ : Nat) * 8 ≤ _; omega) | (change (_ : Nat) * 64 ≤ _; omega) | decide)); done)); (conv => lhs; whnf); (try simp (maxSteps := 2000000) (disch := omega) only [NN, Ty.den, dflt_kv]))
    rw [drop_at (d := kvd) hi]
    by_cases h0 : i = 0
    · subst h0
      refine br_no (tst_f (by omega)) ?_
      conv => lhs; whnf
      try simp (maxSteps := 2000000) (disch := omega) only [NN, Ty.den, dflt_kv]
      repeat (refine br_go ?_ ?_; (focus (((repeat' first | exact rfl | exact ordB_st rfl | exact ordB_of rfl | apply band | apply tst_t | apply nt_t)  <;> (try dsimp only [Ty.den, dflt_kv]) <;> (try simp only [LL]) <;> (first | trivial | assumption | omega | (change (_ : Int) ≤ _; omega) | (change (_ : Int) < _; omega) | (change (_ : Nat) * 1 ≤ _; omega) | (change (_ : Nat) * 48 ≤ _; omega) | (change (_ : Nat) * 24 ≤ _; omega) | (change (_ : Nat) * 8 ≤ _; omega) | (change (_ : Nat) * 64 ≤ _; omega) | decide)); done)); (conv => lhs; whnf); (try simp (maxSteps := 2000000) (disch := omega) only [NN, Ty.den, dflt_kv]))
      by_cases ho : (split (l.getD 0 kvd).1).2.2.2 = 0
      · have hc : compareK (l.getD 0 kvd).1 (l.getD 0 kvd).1 = (order (l.getD 0 kvd).1 (l.getD 0 kvd).1, 0) := by unfold compareK; rw [if_pos ⟨ho, ho⟩]
        try simp (maxSteps := 2000000) (disch := omega) only [NN, Ty.den, dflt_kv, hc]
        repeat (refine br_go ?_ ?_; (focus (((repeat' first | exact rfl | exact ordB_st rfl | exact ordB_of rfl | apply band | apply tst_t | apply nt_t)  <;> (try dsimp only [Ty.den, dflt_kv]) <;> (try simp only [LL]) <;> (first | trivial | assumption | omega | (change (_ : Int) ≤ _; omega) | (change (_ : Int) < _; omega) | (change (_ : Nat) * 1 ≤ _; omega) | (change (_ : Nat) * 48 ≤ _; omega) | (change (_ : Nat) * 24 ≤ _; omega) | (change (_ : Nat) * 8 ≤ _; omega) | (change (_ : Nat) * 64 ≤ _; omega) | decide)); done)); (conv => lhs; whnf); (try simp (maxSteps := 2000000) (disch := omega) only [NN, Ty.den, dflt_kv]))
        refine br_no (tst_f ((show ¬ ((0 : Int) ≠ 0) by decide))) ?_
        conv => lhs; whnf
        try simp (maxSteps := 2000000) (disch := omega) only [NN, Ty.den, dflt_kv]
        repeat (refine br_go ?_ ?_; (focus (((repeat' first | exact rfl | exact ordB_st rfl | exact ordB_of rfl | apply band | apply tst_t | apply nt_t)  <;> (try dsimp only [Ty.den, dflt_kv]) <;> (try simp only [LL]) <;> (first | trivial | assumption | omega | (change (_ : Int) ≤ _; omega) | (change (_ : Int) < _; omega) | (change (_ : Nat) * 1 ≤ _; omega) | (change (_ : Nat) * 48 ≤ _; omega) | (change (_ : Nat) * 24 ≤ _; omega) | (change (_ : Nat) * 8 ≤ _; omega) | (change (_ : Nat) * 64 ≤ _; omega) | decide)); done)); (conv => lhs; whnf); (try simp (maxSteps := 2000000) (disch := omega) only [NN, Ty.den, dflt_kv]))
        refine br_no (tst_f (by omega)) ?_
        conv => lhs; whnf
        try simp (maxSteps := 2000000) (disch := omega) only [NN, Ty.den, dflt_kv]
        repeat (refine br_go ?_ ?_; (focus (((repeat' first | exact rfl | exact ordB_st rfl | exact ordB_of rfl | apply band | apply tst_t | apply nt_t)  <;> (try dsimp only [Ty.den, dflt_kv]) <;> (try simp only [LL]) <;> (first | trivial | assumption | omega | (change (_ : Int) ≤ _; omega) | (change (_ : Int) < _; omega) | (change (_ : Nat) * 1 ≤ _; omega) | (change (_ : Nat) * 48 ≤ _; omega) | (change (_ : Nat) * 24 ≤ _; omega) | (change (_ : Nat) * 8 ≤ _; omega) | (change (_ : Nat) * 64 ≤ _; omega) | decide)); done)); (conv => lhs; whnf); (try simp (maxSteps := 2000000) (disch := omega) only [NN, Ty.den, dflt_kv]))
        refine (hK 1 ⟨by omega, fun _ => ho⟩ (by omega)).trans (bo_tst ?_)
        rw [risesFrom_cons, decide_eq_true ho, prevOf_succ, show prevOf l 0 = none from rfl, aheadOK, Bool.true_and, Bool.true_and]
      · have hc : compareK (l.getD 0 kvd).1 (l.getD 0 kvd).1 = (0, 23) := by unfold compareK; rw [if_neg (fun h => ho h.1)]
        try simp (maxSteps := 2000000) (disch := omega) only [NN, Ty.den, dflt_kv, hc]
        repeat (refine br_go ?_ ?_; (focus (((repeat' first | exact rfl | exact ordB_st rfl | exact ordB_of rfl | apply band | apply tst_t | apply nt_t)  <;> (try dsimp only [Ty.den, dflt_kv]) <;> (try simp only [LL]) <;> (first | trivial | assumption | omega | (change (_ : Int) ≤ _; omega) | (change (_ : Int) < _; omega) | (change (_ : Nat) * 1 ≤ _; omega) | (change (_ : Nat) * 48 ≤ _; omega) | (change (_ : Nat) * 24 ≤ _; omega) | (change (_ : Nat) * 8 ≤ _; omega) | (change (_ : Nat) * 64 ≤ _; omega) | decide)); done)); (conv => lhs; whnf); (try simp (maxSteps := 2000000) (disch := omega) only [NN, Ty.den, dflt_kv]))
        exact bo_f (by rw [risesFrom_cons, decide_eq_false ho, Bool.false_and]; decide)
    · refine br_go (tst_t (by omega)) ?_
      conv => lhs; whnf
      try simp (maxSteps := 2000000) (disch := omega) only [NN, Ty.den, dflt_kv]
      repeat (refine br_go ?_ ?_; (focus (((repeat' first | exact rfl | exact ordB_st rfl | exact ordB_of rfl | apply band | apply tst_t | apply nt_t)  <;> (try dsimp only [Ty.den, dflt_kv]) <;> (try simp only [LL]) <;> (first | trivial | assumption | omega | (change (_ : Int) ≤ _; omega) | (change (_ : Int) < _; omega) | (change (_ : Nat) * 1 ≤ _; omega) | (change (_ : Nat) * 48 ≤ _; omega) | (change (_ : Nat) * 24 ≤ _; omega) | (change (_ : Nat) * 8 ≤ _; omega) | (change (_ : Nat) * 64 ≤ _; omega) | decide)); done)); (conv => lhs; whnf); (try simp (maxSteps := 2000000) (disch := omega) only [NN, Ty.den, dflt_kv]))
      have hp : prevOf l i = some (l.getD (i - 1) kvd).1 := if_neg h0
      have hq := h4 (by omega)
      rw [hp, risesFrom_cons]
      by_cases ho : (split (l.getD i kvd).1).2.2.2 = 0
      · have hc : compareK (l.getD (i - 1) kvd).1 (l.getD i kvd).1 = (order (l.getD (i - 1) kvd).1 (l.getD i kvd).1, 0) := by unfold compareK; rw [if_pos ⟨hq, ho⟩]
        try simp (maxSteps := 2000000) (disch := omega) only [NN, Ty.den, dflt_kv, hc]
        repeat (refine br_go ?_ ?_; (focus (((repeat' first | exact rfl | exact ordB_st rfl | exact ordB_of rfl | apply band | apply tst_t | apply nt_t)  <;> (try dsimp only [Ty.den, dflt_kv]) <;> (try simp only [LL]) <;> (first | trivial | assumption | omega | (change (_ : Int) ≤ _; omega) | (change (_ : Int) < _; omega) | (change (_ : Nat) * 1 ≤ _; omega) | (change (_ : Nat) * 48 ≤ _; omega) | (change (_ : Nat) * 24 ≤ _; omega) | (change (_ : Nat) * 8 ≤ _; omega) | (change (_ : Nat) * 64 ≤ _; omega) | decide)); done)); (conv => lhs; whnf); (try simp (maxSteps := 2000000) (disch := omega) only [NN, Ty.den, dflt_kv]))
        refine br_no (tst_f ((show ¬ ((0 : Int) ≠ 0) by decide))) ?_
        conv => lhs; whnf
        try simp (maxSteps := 2000000) (disch := omega) only [NN, Ty.den, dflt_kv]
        repeat (refine br_go ?_ ?_; (focus (((repeat' first | exact rfl | exact ordB_st rfl | exact ordB_of rfl | apply band | apply tst_t | apply nt_t)  <;> (try dsimp only [Ty.den, dflt_kv]) <;> (try simp only [LL]) <;> (first | trivial | assumption | omega | (change (_ : Int) ≤ _; omega) | (change (_ : Int) < _; omega) | (change (_ : Nat) * 1 ≤ _; omega) | (change (_ : Nat) * 48 ≤ _; omega) | (change (_ : Nat) * 24 ≤ _; omega) | (change (_ : Nat) * 8 ≤ _; omega) | (change (_ : Nat) * 64 ≤ _; omega) | decide)); done)); (conv => lhs; whnf); (try simp (maxSteps := 2000000) (disch := omega) only [NN, Ty.den, dflt_kv]))
        rw [decide_eq_true ho, aheadOK]
        by_cases hc : order (l.getD (i - 1) kvd).1 (l.getD i kvd).1 ≥ 0
        · refine br_go (tst_t (hc)) ?_
          conv => lhs; whnf
          try simp (maxSteps := 2000000) (disch := omega) only [NN, Ty.den, dflt_kv]
          repeat (refine br_go ?_ ?_; (focus (((repeat' first | exact rfl | exact ordB_st rfl | exact ordB_of rfl | apply band | apply tst_t | apply nt_t)  <;> (try dsimp only [Ty.den, dflt_kv]) <;> (try simp only [LL]) <;> (first | trivial | assumption | omega | (change (_ : Int) ≤ _; omega) | (change (_ : Int) < _; omega) | (change (_ : Nat) * 1 ≤ _; omega) | (change (_ : Nat) * 48 ≤ _; omega) | (change (_ : Nat) * 24 ≤ _; omega) | (change (_ : Nat) * 8 ≤ _; omega) | (change (_ : Nat) * 64 ≤ _; omega) | decide)); done)); (conv => lhs; whnf); (try simp (maxSteps := 2000000) (disch := omega) only [NN, Ty.den, dflt_kv]))
          exact bo_f (by rw [decide_eq_false (by omega : ¬ order (l.getD (i - 1) kvd).1 (l.getD i kvd).1 < 0)]; simp only [Bool.false_and, Bool.and_false, Bool.false_eq_true, not_false_eq_true])
        · refine br_no (tst_f (hc)) ?_
          conv => lhs; whnf
          try simp (maxSteps := 2000000) (disch := omega) only [NN, Ty.den, dflt_kv]
          repeat (refine br_go ?_ ?_; (focus (((repeat' first | exact rfl | exact ordB_st rfl | exact ordB_of rfl | apply band | apply tst_t | apply nt_t)  <;> (try dsimp only [Ty.den, dflt_kv]) <;> (try simp only [LL]) <;> (first | trivial | assumption | omega | (change (_ : Int) ≤ _; omega) | (change (_ : Int) < _; omega) | (change (_ : Nat) * 1 ≤ _; omega) | (change (_ : Nat) * 48 ≤ _; omega) | (change (_ : Nat) * 24 ≤ _; omega) | (change (_ : Nat) * 8 ≤ _; omega) | (change (_ : Nat) * 64 ≤ _; omega) | decide)); done)); (conv => lhs; whnf); (try simp (maxSteps := 2000000) (disch := omega) only [NN, Ty.den, dflt_kv]))
          refine (hK (i + 1) ⟨by omega, fun _ => ho⟩ (by omega)).trans (bo_tst ?_)
          rw [prevOf_succ, decide_eq_true (by omega : order (l.getD (i - 1) kvd).1 (l.getD i kvd).1 < 0), Bool.true_and, Bool.true_and]
      · have hc : compareK (l.getD (i - 1) kvd).1 (l.getD i kvd).1 = (0, 23) := by unfold compareK; rw [if_neg (fun h => ho h.2)]
        try simp (maxSteps := 2000000) (disch := omega) only [NN, Ty.den, dflt_kv, hc]
        repeat (refine br_go ?_ ?_; (focus (((repeat' first | exact rfl | exact ordB_st rfl | exact ordB_of rfl | apply band | apply tst_t | apply nt_t)  <;> (try dsimp only [Ty.den, dflt_kv]) <;> (try simp only [LL]) <;> (first | trivial | assumption | omega | (change (_ : Int) ≤ _; omega) | (change (_ : Int) < _; omega) | (change (_ : Nat) * 1 ≤ _; omega) | (change (_ : Nat) * 48 ≤ _; omega) | (change (_ : Nat) * 24 ≤ _; omega) | (change (_ : Nat) * 8 ≤ _; omega) | (change (_ : Nat) * 64 ≤ _; omega) | decide)); done)); (conv => lhs; whnf); (try simp (maxSteps := 2000000) (disch := omega) only [NN, Ty.den, dflt_kv]))
        exact bo_f (by rw [decide_eq_false ho, Bool.false_and]; decide)
  · refine br_no (tst_f (by omega)) ?_
    conv => lhs; whnf
    try simp (maxSteps := 2000000) (disch := omega) only [NN, Ty.den, dflt_kv]
    repeat (refine br_go ?_ ?_; (focus (((repeat' first | exact rfl | exact ordB_st rfl | exact ordB_of rfl | apply band | apply tst_t | apply nt_t)  <;> (try dsimp only [Ty.den, dflt_kv]) <;> (try simp only [LL]) <;> (first | trivial | assumption | omega | (change (_ : Int) ≤ _; omega) | (change (_ : Int) < _; omega) | (change (_ : Nat) * 1 ≤ _; omega) | (change (_ : Nat) * 48 ≤ _; omega) | (change (_ : Nat) * 24 ≤ _; omega) | (change (_ : Nat) * 8 ≤ _; omega) | (change (_ : Nat) * 64 ≤ _; omega) | decide)); done)); (conv => lhs; whnf); (try simp (maxSteps := 2000000) (disch := omega) only [NN, Ty.den, dflt_kv]))
    exact bo_t (by rw [List.drop_eq_nil_of_le (by omega : l.length ≤ i)]; rfl)
/-- is a user key in one of some spans? -/
def inB (l : List KV) (u : List Int) : Bool := l.any fun s => decide (cmpB s.1 u ≤ 0) && decide (cmpB u s.2.1 ≤ 0)
noncomputable def withinSp : Sp := ⟨[kvl, byl], fun _ => true, fun x => .d .bo (inB x.1 x.2.1)⟩
noncomputable def inSp : Sp := ⟨[byl, kvl], fun _ => true, fun x => .d .bo (inB x.2.1 x.1)⟩
abbrev withinC : Ctx := ⟨rows, (fun | 0 => ([1, 7, 8, 9], []) | 1 => ([], [1, 7, 8, 9]) | _ => ([], []))⟩
theorem within_ok (T : Tab) (h1 : T 58 = cmpBSp.ent) : withinSp.Ok T withinC F42 := by
  rw [on_top h1]
  rintro ⟨(l : List KV), (u : List Int), _⟩ hf _
  have hl : l.length ≤ 140737488355328 := (fits_kvl.1 hf.1).1
  obtain ⟨F, hF⟩ : ∃ F : Nat, F = l.length + 1 := ⟨_, rfl⟩
  refine ⟨F, 0, ?_⟩
  show evFn _ _ _ _ _ [vK l, vB u] [] _ = some (.d .bo (inB l u) : V)
  conv => lhs; whnf
  try simp (maxSteps := 2000000) (disch := omega) only [NN, Ty.den, dflt_kv]
  refine loop_rule (α := Nat) (fun i => i ≤ l.length ∧ inB (l.drop i) u = inB l u) (fun i => l.length - i)
    (fun i => (V.bad :: vB u :: V.bad :: V.bad :: V.bad :: V.bad :: V.bad :: vK l :: vI l.length :: vI i :: V.bad :: V.bad :: V.bad :: V.bad :: V.bad :: V.bad :: V.bad :: V.bad :: V.bad :: V.bad :: V.bad :: V.bad :: V.bad :: V.bad :: V.bad :: V.bad :: [])) (fun i => [.gone])
    (fun i => some (V.d .bo (inB l u))) ?_ F 0 ⟨by omega, rfl⟩ (by omega)
  rintro i K ⟨h1, h2⟩ hK
  conv => lhs; whnf
  try simp (maxSteps := 2000000) (disch := omega) only [NN, Ty.den, dflt_kv]
  by_cases hi : i < l.length
  · refine br_go (tst_t (by omega)) ?_
    conv => lhs; whnf
    try simp (maxSteps := 2000000) (disch := omega) only [NN, Ty.den, dflt_kv]
    rw [drop_at (d := kvd) hi] at h2
    have e : inB (l.getD i kvd :: l.drop (i + 1)) u = ((decide (cmpB (l.getD i kvd).1 u ≤ 0) && decide (cmpB u (l.getD i kvd).2.1 ≤ 0)) || inB (l.drop (i + 1)) u) := rfl
    rw [e] at h2
    repeat (refine br_go ?_ ?_; (focus (((repeat' first | exact rfl | exact ordB_st rfl | exact ordB_of rfl | apply band | apply tst_t | apply nt_t)  <;> (try dsimp only [Ty.den, dflt_kv]) <;> (try simp only [LL]) <;> (first | trivial | assumption | omega | (change (_ : Int) ≤ _; omega) | (change (_ : Int) < _; omega) | (change (_ : Nat) * 1 ≤ _; omega) | (change (_ : Nat) * 48 ≤ _; omega) | (change (_ : Nat) * 24 ≤ _; omega) | (change (_ : Nat) * 8 ≤ _; omega) | (change (_ : Nat) * 64 ≤ _; omega) | decide)); done)); (conv => lhs; whnf); (try simp (maxSteps := 2000000) (disch := omega) only [NN, Ty.den, dflt_kv]))
    by_cases a : cmpB (l.getD i kvd).1 u ≤ 0
    · refine br_go (tst_t (a)) ?_
      conv => lhs; whnf
      try simp (maxSteps := 2000000) (disch := omega) only [NN, Ty.den, dflt_kv]
      repeat (refine br_go ?_ ?_; (focus (((repeat' first | exact rfl | exact ordB_st rfl | exact ordB_of rfl | apply band | apply tst_t | apply nt_t)  <;> (try dsimp only [Ty.den, dflt_kv]) <;> (try simp only [LL]) <;> (first | trivial | assumption | omega | (change (_ : Int) ≤ _; omega) | (change (_ : Int) < _; omega) | (change (_ : Nat) * 1 ≤ _; omega) | (change (_ : Nat) * 48 ≤ _; omega) | (change (_ : Nat) * 24 ≤ _; omega) | (change (_ : Nat) * 8 ≤ _; omega) | (change (_ : Nat) * 64 ≤ _; omega) | decide)); done)); (conv => lhs; whnf); (try simp (maxSteps := 2000000) (disch := omega) only [NN, Ty.den, dflt_kv]))
      by_cases b : cmpB u (l.getD i kvd).2.1 ≤ 0
      · refine br_go (tst_t (b)) ?_
        conv => lhs; whnf
        try simp (maxSteps := 2000000) (disch := omega) only [NN, Ty.den, dflt_kv]
        repeat (refine br_go ?_ ?_; (focus (((repeat' first | exact rfl | exact ordB_st rfl | exact ordB_of rfl | apply band | apply tst_t | apply nt_t)  <;> (try dsimp only [Ty.den, dflt_kv]) <;> (try simp only [LL]) <;> (first | trivial | assumption | omega | (change (_ : Int) ≤ _; omega) | (change (_ : Int) < _; omega) | (change (_ : Nat) * 1 ≤ _; omega) | (change (_ : Nat) * 48 ≤ _; omega) | (change (_ : Nat) * 24 ≤ _; omega) | (change (_ : Nat) * 8 ≤ _; omega) | (change (_ : Nat) * 64 ≤ _; omega) | decide)); done)); (conv => lhs; whnf); (try simp (maxSteps := 2000000) (disch := omega) only [NN, Ty.den, dflt_kv]))
        rw [← h2, decide_eq_true a, decide_eq_true b]; rfl
      · refine br_no (tst_f (b)) ?_
        conv => lhs; whnf
        try simp (maxSteps := 2000000) (disch := omega) only [NN, Ty.den, dflt_kv]
        repeat (refine br_go ?_ ?_; (focus (((repeat' first | exact rfl | exact ordB_st rfl | exact ordB_of rfl | apply band | apply tst_t | apply nt_t)  <;> (try dsimp only [Ty.den, dflt_kv]) <;> (try simp only [LL]) <;> (first | trivial | assumption | omega | (change (_ : Int) ≤ _; omega) | (change (_ : Int) < _; omega) | (change (_ : Nat) * 1 ≤ _; omega) | (change (_ : Nat) * 48 ≤ _; omega) | (change (_ : Nat) * 24 ≤ _; omega) | (change (_ : Nat) * 8 ≤ _; omega) | (change (_ : Nat) * 64 ≤ _; omega) | decide)); done)); (conv => lhs; whnf); (try simp (maxSteps := 2000000) (disch := omega) only [NN, Ty.den, dflt_kv]))
        exact hK (i + 1) ⟨by omega, by rw [← h2, decide_eq_false b, Bool.and_false, Bool.false_or]⟩ (by omega)
    · refine br_no (tst_f (a)) ?_
      conv => lhs; whnf
      try simp (maxSteps := 2000000) (disch := omega) only [NN, Ty.den, dflt_kv]
      repeat (refine br_go ?_ ?_; (focus (((repeat' first | exact rfl | exact ordB_st rfl | exact ordB_of rfl | apply band | apply tst_t | apply nt_t)  <;> (try dsimp only [Ty.den, dflt_kv]) <;> (try simp only [LL]) <;> (first | trivial | assumption | omega | (change (_ : Int) ≤ _; omega) | (change (_ : Int) < _; omega) | (change (_ : Nat) * 1 ≤ _; omega) | (change (_ : Nat) * 48 ≤ _; omega) | (change (_ : Nat) * 24 ≤ _; omega) | (change (_ : Nat) * 8 ≤ _; omega) | (change (_ : Nat) * 64 ≤ _; omega) | decide)); done)); (conv => lhs; whnf); (try simp (maxSteps := 2000000) (disch := omega) only [NN, Ty.den, dflt_kv]))
      exact hK (i + 1) ⟨by omega, by rw [← h2, decide_eq_false a, Bool.false_and, Bool.false_or]⟩ (by omega)
  · refine br_no (tst_f (by omega)) ?_
    conv => lhs; whnf
    try simp (maxSteps := 2000000) (disch := omega) only [NN, Ty.den, dflt_kv]
    repeat (refine br_go ?_ ?_; (focus (((repeat' first | exact rfl | exact ordB_st rfl | exact ordB_of rfl | apply band | apply tst_t | apply nt_t)  <;> (try dsimp only [Ty.den, dflt_kv]) <;> (try simp only [LL]) <;> (first | trivial | assumption | omega | (change (_ : Int) ≤ _; omega) | (change (_ : Int) < _; omega) | (change (_ : Nat) * 1 ≤ _; omega) | (change (_ : Nat) * 48 ≤ _; omega) | (change (_ : Nat) * 24 ≤ _; omega) | (change (_ : Nat) * 8 ≤ _; omega) | (change (_ : Nat) * 64 ≤ _; omega) | decide)); done)); (conv => lhs; whnf); (try simp (maxSteps := 2000000) (disch := omega) only [NN, Ty.den, dflt_kv]))
    rw [← h2, List.drop_eq_nil_of_le (by omega)]; rfl
abbrev rinC : Ctx := ⟨rows, (fun | 0 => ([0, 1, 5], []) | 1 => ([], [0, 1, 5]) | _ => ([], []))⟩
theorem rin_ok (T : Tab) (h1 : T 17 = cmpBSp.ent) : inSp.Ok T rinC F15 := by
  rw [on_top h1]
  rintro ⟨(u : List Int), (l : List KV), _⟩ hf _
  have hl : l.length ≤ 140737488355328 := (fits_kvl.1 hf.2.1).1
  obtain ⟨F, hF⟩ : ∃ F : Nat, F = l.length + 1 := ⟨_, rfl⟩
  refine ⟨F, 0, ?_⟩
  show evFn _ _ _ _ _ [vB u, vK l] [] _ = some (.d .bo (inB l u) : V)
  conv => lhs; whnf
  try simp (maxSteps := 2000000) (disch := omega) only [NN, Ty.den, dflt_kv]
  refine loop_rule (α := Nat) (fun i => i ≤ l.length ∧ inB (l.drop i) u = inB l u) (fun i => l.length - i)
    (fun i => (vB u :: vK l :: V.bad :: V.bad :: V.bad :: vI i :: V.bad :: V.bad :: V.bad :: V.bad :: V.bad :: V.bad :: V.bad :: V.bad :: V.bad :: V.bad :: V.bad :: V.bad :: V.bad :: V.bad :: V.bad :: V.bad :: V.bad :: V.bad :: V.bad :: V.bad :: V.bad :: V.bad :: V.bad :: V.bad :: [])) (fun i => [])
    (fun i => some (V.d .bo (inB l u))) ?_ F 0 ⟨by omega, rfl⟩ (by omega)
  rintro i K ⟨h1, h2⟩ hK
  conv => lhs; whnf
  try simp (maxSteps := 2000000) (disch := omega) only [NN, Ty.den, dflt_kv]
  by_cases hi : i < l.length
  · refine br_go (tst_t (by omega)) ?_
    conv => lhs; whnf
    try simp (maxSteps := 2000000) (disch := omega) only [NN, Ty.den, dflt_kv]
    rw [drop_at (d := kvd) hi] at h2
    have e : inB (l.getD i kvd :: l.drop (i + 1)) u = ((decide (cmpB (l.getD i kvd).1 u ≤ 0) && decide (cmpB u (l.getD i kvd).2.1 ≤ 0)) || inB (l.drop (i + 1)) u) := rfl
    rw [e] at h2
    repeat (refine br_go ?_ ?_; (focus (((repeat' first | exact rfl | exact ordB_st rfl | exact ordB_of rfl | apply band | apply tst_t | apply nt_t)  <;> (try dsimp only [Ty.den, dflt_kv]) <;> (try simp only [LL]) <;> (first | trivial | assumption | omega | (change (_ : Int) ≤ _; omega) | (change (_ : Int) < _; omega) | (change (_ : Nat) * 1 ≤ _; omega) | (change (_ : Nat) * 48 ≤ _; omega) | (change (_ : Nat) * 24 ≤ _; omega) | (change (_ : Nat) * 8 ≤ _; omega) | (change (_ : Nat) * 64 ≤ _; omega) | decide)); done)); (conv => lhs; whnf); (try simp (maxSteps := 2000000) (disch := omega) only [NN, Ty.den, dflt_kv]))
    by_cases a : cmpB (l.getD i kvd).1 u ≤ 0
    · refine br_go (tst_t (a)) ?_
      conv => lhs; whnf
      try simp (maxSteps := 2000000) (disch := omega) only [NN, Ty.den, dflt_kv]
      repeat (refine br_go ?_ ?_; (focus (((repeat' first | exact rfl | exact ordB_st rfl | exact ordB_of rfl | apply band | apply tst_t | apply nt_t)  <;> (try dsimp only [Ty.den, dflt_kv]) <;> (try simp only [LL]) <;> (first | trivial | assumption | omega | (change (_ : Int) ≤ _; omega) | (change (_ : Int) < _; omega) | (change (_ : Nat) * 1 ≤ _; omega) | (change (_ : Nat) * 48 ≤ _; omega) | (change (_ : Nat) * 24 ≤ _; omega) | (change (_ : Nat) * 8 ≤ _; omega) | (change (_ : Nat) * 64 ≤ _; omega) | decide)); done)); (conv => lhs; whnf); (try simp (maxSteps := 2000000) (disch := omega) only [NN, Ty.den, dflt_kv]))
      by_cases b : cmpB u (l.getD i kvd).2.1 ≤ 0
      · refine br_go (tst_t (b)) ?_
        conv => lhs; whnf
        try simp (maxSteps := 2000000) (disch := omega) only [NN, Ty.den, dflt_kv]
        repeat (refine br_go ?_ ?_; (focus (((repeat' first | exact rfl | exact ordB_st rfl | exact ordB_of rfl | apply band | apply tst_t | apply nt_t)  <;> (try dsimp only [Ty.den, dflt_kv]) <;> (try simp only [LL]) <;> (first | trivial | assumption | omega | (change (_ : Int) ≤ _; omega) | (change (_ : Int) < _; omega) | (change (_ : Nat) * 1 ≤ _; omega) | (change (_ : Nat) * 48 ≤ _; omega) | (change (_ : Nat) * 24 ≤ _; omega) | (change (_ : Nat) * 8 ≤ _; omega) | (change (_ : Nat) * 64 ≤ _; omega) | decide)); done)); (conv => lhs; whnf); (try simp (maxSteps := 2000000) (disch := omega) only [NN, Ty.den, dflt_kv]))
        rw [← h2, decide_eq_true a, decide_eq_true b]; rfl
      · refine br_no (tst_f (b)) ?_
        conv => lhs; whnf
        try simp (maxSteps := 2000000) (disch := omega) only [NN, Ty.den, dflt_kv]
        repeat (refine br_go ?_ ?_; (focus (((repeat' first | exact rfl | exact ordB_st rfl | exact ordB_of rfl | apply band | apply tst_t | apply nt_t)  <;> (try dsimp only [Ty.den, dflt_kv]) <;> (try simp only [LL]) <;> (first | trivial | assumption | omega | (change (_ : Int) ≤ _; omega) | (change (_ : Int) < _; omega) | (change (_ : Nat) * 1 ≤ _; omega) | (change (_ : Nat) * 48 ≤ _; omega) | (change (_ : Nat) * 24 ≤ _; omega) | (change (_ : Nat) * 8 ≤ _; omega) | (change (_ : Nat) * 64 ≤ _; omega) | decide)); done)); (conv => lhs; whnf); (try simp (maxSteps := 2000000) (disch := omega) only [NN, Ty.den, dflt_kv]))
        exact hK (i + 1) ⟨by omega, by rw [← h2, decide_eq_false b, Bool.and_false, Bool.false_or]⟩ (by omega)
    · refine br_no (tst_f (a)) ?_
      conv => lhs; whnf
      try simp (maxSteps := 2000000) (disch := omega) only [NN, Ty.den, dflt_kv]
      repeat (refine br_go ?_ ?_; (focus (((repeat' first | exact rfl | exact ordB_st rfl | exact ordB_of rfl | apply band | apply tst_t | apply nt_t)  <;> (try dsimp only [Ty.den, dflt_kv]) <;> (try simp only [LL]) <;> (first | trivial | assumption | omega | (change (_ : Int) ≤ _; omega) | (change (_ : Int) < _; omega) | (change (_ : Nat) * 1 ≤ _; omega) | (change (_ : Nat) * 48 ≤ _; omega) | (change (_ : Nat) * 24 ≤ _; omega) | (change (_ : Nat) * 8 ≤ _; omega) | (change (_ : Nat) * 64 ≤ _; omega) | decide)); done)); (conv => lhs; whnf); (try simp (maxSteps := 2000000) (disch := omega) only [NN, Ty.den, dflt_kv]))
      exact hK (i + 1) ⟨by omega, by rw [← h2, decide_eq_false a, Bool.false_and, Bool.false_or]⟩ (by omega)
  · refine br_no (tst_f (by omega)) ?_
    conv => lhs; whnf
    try simp (maxSteps := 2000000) (disch := omega) only [NN, Ty.den, dflt_kv]
    repeat (refine br_go ?_ ?_; (focus (((repeat' first | exact rfl | exact ordB_st rfl | exact ordB_of rfl | apply band | apply tst_t | apply nt_t)  <;> (try dsimp only [Ty.den, dflt_kv]) <;> (try simp only [LL]) <;> (first | trivial | assumption | omega | (change (_ : Int) ≤ _; omega) | (change (_ : Int) < _; omega) | (change (_ : Nat) * 1 ≤ _; omega) | (change (_ : Nat) * 48 ≤ _; omega) | (change (_ : Nat) * 24 ≤ _; omega) | (change (_ : Nat) * 8 ≤ _; omega) | (change (_ : Nat) * 64 ≤ _; omega) | decide)); done)); (conv => lhs; whnf); (try simp (maxSteps := 2000000) (disch := omega) only [NN, Ty.den, dflt_kv]))
    rw [← h2, List.drop_eq_nil_of_le (by omega)]; rfl
/-- as few as the laws look at -/
def few8 (l : List (List KV)) : Prop := l.length ≤ 8 ∧ l.flatten.length ≤ 80
instance (l : List (List KV)) : Decidable (few8 l) := inferInstanceAs (Decidable (_ ∧ _))
theorem few8_L {l : List (List KV)} (h : few8 l) : fewL l := ⟨Nat.le_trans h.1 (by decide), h.2⟩
noncomputable def few10Sp : Sp := ⟨[kvll], fun _ => true, fun x => vT (few8 x.1)⟩
abbrev few10C : Ctx := ⟨rows, (fun | 0 => ([0, 3, 4], [0, 3]) | 1 => ([], [0, 3, 4]) | _ => ([], []))⟩
theorem few10_ok (T : Tab) : few10Sp.Ok T few10C F10 := by
  rintro ⟨(l : List (List KV)), _⟩ hf _
  have hl : l.length ≤ 140737488355328 := hf.1.1
  obtain ⟨F, hF⟩ : ∃ F : Nat, F = l.length + 1 := ⟨_, rfl⟩
  refine ⟨F, 0, ?_⟩
  show evFn _ _ _ _ _ [.d kvll l] [] _ = some (vT (few8 l) : V)
  conv => lhs; whnf
  try simp (maxSteps := 2000000) (disch := omega) only [NN, Ty.den, dflt_kv]
  refine (loop_rule (α := Nat × Nat) (fun a => a.1 ≤ l.length ∧ a.2 ≤ 1000000000000000) (fun a => l.length - a.1)
    (fun a => (V.d kvll l :: V.bad :: V.bad :: vI a.2 :: vI a.1 :: V.bad :: V.bad :: V.bad :: V.bad :: V.bad :: V.bad :: V.bad :: V.bad :: V.bad :: V.bad :: V.bad :: V.bad :: V.bad :: V.bad :: V.bad :: V.bad :: V.bad :: V.bad :: V.bad :: V.bad :: V.bad :: V.bad :: V.bad :: V.bad :: [])) (fun a => [])
    (fun a => some (vT (l.length ≤ 8 ∧ a.2 + (l.drop a.1).flatten.length ≤ 80))) ?_ F (0, 0) ⟨by show 0 ≤ _; omega, by show 0 ≤ _; omega⟩ (by show l.length - 0 < F; omega)).trans (bo_tst (by show _ ↔ l.length ≤ 8 ∧ l.flatten.length ≤ 80; simp only [List.drop_zero, Nat.zero_add]))
  rintro ⟨i, n⟩ K ⟨h1, h2⟩ hK
  simp only at h1 h2 hK ⊢
  conv => lhs; whnf
  try simp (maxSteps := 2000000) (disch := omega) only [NN, Ty.den, dflt_kv]
  by_cases hi : i < l.length
  · refine br_go (tst_t (by omega)) ?_
    conv => lhs; whnf
    try simp (maxSteps := 2000000) (disch := omega) only [NN, Ty.den, dflt_kv]
    have hk : (l.getD i []).length ≤ 140737488355328 := by rw [getD_at hi]; exact (hf.1.2 _ (List.getElem_mem hi)).1
    by_cases hn : n ≤ 80
    · refine br_go (tst_t (by omega)) ?_
      conv => lhs; whnf
      try simp (maxSteps := 2000000) (disch := omega) only [NN, Ty.den, dflt_kv]
      repeat (refine br_go ?_ ?_; (focus (((repeat' first | exact rfl | exact ordB_st rfl | exact ordB_of rfl | apply band | apply tst_t | apply nt_t)  <;> (try dsimp only [Ty.den, dflt_kv]) <;> (try simp only [LL]) <;> (first | trivial | assumption | omega | (change (_ : Int) ≤ _; omega) | (change (_ : Int) < _; omega) | (change (_ : Nat) * 1 ≤ _; omega) | (change (_ : Nat) * 48 ≤ _; omega) | (change (_ : Nat) * 24 ≤ _; omega) | (change (_ : Nat) * 8 ≤ _; omega) | (change (_ : Nat) * 64 ≤ _; omega) | decide)); done)); (conv => lhs; whnf); (try simp (maxSteps := 2000000) (disch := omega) only [NN, Ty.den, dflt_kv]))
      refine (hK (i + 1, n + (l.getD i []).length) ⟨by show i + 1 ≤ _; omega, by show n + _ ≤ _; omega⟩ (by show _ - (i + 1) < _; omega)).trans (bo_tst ?_)
      show _ ∧ n + _ + (l.drop (i + 1)).flatten.length ≤ 80 ↔ _
      rw [drop_at (d := []) hi, List.flatten_cons, List.length_append]
      omega
    · refine br_no (tst_f (by omega)) ?_
      conv => lhs; whnf
      try simp (maxSteps := 2000000) (disch := omega) only [NN, Ty.den, dflt_kv]
      repeat' (first | (refine br_split (fun _ => ?_) (fun _ => ?_) <;> (conv => lhs; whnf) <;> (try simp (maxSteps := 2000000) (disch := omega) only [NN, Ty.den, dflt_kv])) | (refine br_go ?_ ?_; (focus (((repeat' first | exact rfl | exact ordB_st rfl | exact ordB_of rfl | apply band | apply tst_t | apply nt_t)  <;> (try dsimp only [Ty.den, dflt_kv]) <;> (try simp only [LL]) <;> (first | trivial | assumption | omega | (change (_ : Int) ≤ _; omega) | (change (_ : Int) < _; omega) | (change (_ : Nat) * 1 ≤ _; omega) | (change (_ : Nat) * 48 ≤ _; omega) | (change (_ : Nat) * 24 ≤ _; omega) | (change (_ : Nat) * 8 ≤ _; omega) | (change (_ : Nat) * 64 ≤ _; omega) | decide)); done)); (conv => lhs; whnf); (try simp (maxSteps := 2000000) (disch := omega) only [NN, Ty.den, dflt_kv])))
      all_goals
        (first | exact bo_t (by skip; omega) | exact bo_f (by skip; omega) | exact bo_tst (by skip; omega))
  · refine br_no (tst_f (by omega)) ?_
    conv => lhs; whnf
    try simp (maxSteps := 2000000) (disch := omega) only [NN, Ty.den, dflt_kv]
    have : (l.drop i).flatten.length = 0 := by rw [List.drop_eq_nil_of_le (by omega)]; rfl
    repeat' (first | (refine br_split (fun _ => ?_) (fun _ => ?_) <;> (conv => lhs; whnf) <;> (try simp (maxSteps := 2000000) (disch := omega) only [NN, Ty.den, dflt_kv])) | (refine br_go ?_ ?_; (focus (((repeat' first | exact rfl | exact ordB_st rfl | exact ordB_of rfl | apply band | apply tst_t | apply nt_t)  <;> (try dsimp only [Ty.den, dflt_kv]) <;> (try simp only [LL]) <;> (first | trivial | assumption | omega | (change (_ : Int) ≤ _; omega) | (change (_ : Int) < _; omega) | (change (_ : Nat) * 1 ≤ _; omega) | (change (_ : Nat) * 48 ≤ _; omega) | (change (_ : Nat) * 24 ≤ _; omega) | (change (_ : Nat) * 8 ≤ _; omega) | (change (_ : Nat) * 64 ≤ _; omega) | decide)); done)); (conv => lhs; whnf); (try simp (maxSteps := 2000000) (disch := omega) only [NN, Ty.den, dflt_kv])))
    all_goals
      (first | exact bo_t (by skip; omega) | exact bo_f (by skip; omega) | exact bo_tst (by skip; omega))
end Go.Proofs.Ytmpmmfbgdpfnpaa.Ev
/- Numbers of fixed width, read by the document. -/
namespace Go.Proofs.Ytmpmmfbgdpfnpaa.Ev
open Go Go.RowKit
set_option linter.unusedVariables false
set_option maxRecDepth 100000
abbrev runfixedC : Ctx := ⟨rows, (fun | 0 => ([0, 1, 7, 8], [7]) | 1 => ([], [0, 1, 7, 8]) | _ => ([], []))⟩
theorem runfixed_ev (tab : Tab) (l : List Int) (hb : Bytes l) (a m F : Nat) (hm : m ≤ 8) (hml : a + m ≤ l.length) (hl : l.length ≤ 140737488355328) (hF : m < F) : evFn runfixedC tab noCall F F45 [.d (.li (.it .u8)) l, .d (.it .i64) (a : Int), .d (.it .i64) (m : Int)] [] (fun v S => exportF runfixedC F45.resultTypes.toList v S) = some (.d (.it .u64) (leVal ((l.drop a).take m))) := by
  conv => lhs; whnf
  have h0 : IntKind.i64.wrap ((m : Int) - 1) = (m : Int) - 1 := wrapI64 (by omega) (by omega)
  rw [h0]
  refine loop_rule (α := Nat × Int) (fun s => s.1 ≤ m ∧ s.2 = leVal ((l.drop (a + s.1)).take (m - s.1))) (fun s => s.1)
    (fun s => [.d (.li (.it .u8)) l, .d (.it .i64) (a : Int), .bad, .bad, .bad, .bad, .bad, .d (.it .u64) s.2, .d (.it .i64) ((s.1 : Int) - 1), .bad, .bad, .bad, .bad, .bad, .bad, .bad, .bad, .bad, .bad, .bad, .bad, .bad, .bad, .bad, .bad, .bad]) (fun s => [])
    (fun s => some (V.d (.it .u64) (leVal ((l.drop a).take m)))) ?_ F (m, 0) ⟨Nat.le_refl _, by simp [leVal]⟩ hF
  rintro ⟨n, acc⟩ K ⟨hn, hacc⟩ hK
  simp only at hn hacc hK ⊢
  conv => lhs; whnf
  by_cases ha : (n : Int) - 1 ≥ 0
  · refine br_go (tst_t ha) ?_
    conv => lhs; whnf
    have e1 : IntKind.i64.wrap ((a : Int) + ((n : Int) - 1)) = ((a + (n - 1) : Nat) : Int) := by rw [wrapI64 (by omega) (by omega)]; omega
    rw [e1]
    refine br_go (band (tst_t (show (0 : Int) ≤ ((a + (n - 1) : Nat) : Int) by omega)) (tst_t (show ((a + (n - 1) : Nat) : Int) < ((List.length l : Nat) : Int) by omega))) ?_
    conv => lhs; whnf
    have hx := rd_bytes hb ((a + (n - 1) : Nat) : Int)
    have ht := (hb.drop (a + n)).take (m - n)
    have hr := leVal_range ht
    have p : (256 : Nat) ^ ((l.drop (a + n)).take (m - n)).length ≤ 256 ^ 7 := Nat.pow_le_pow_right (by decide) (by rw [List.length_take]; omega)
    have p' : ((256 ^ ((l.drop (a + n)).take (m - n)).length : Nat) : Int) ≤ 72057594037927936 := by
      have : (256 : Nat) ^ 7 = 72057594037927936 := by decide
      omega
    rw [← hacc] at hr
    have e : IntKind.u64.wrap (IntKind.u64.wrap (256 * acc) + IntKind.u64.wrap (rd l ((a + (n - 1) : Nat) : Int))) = leVal ((l.drop (a + (n - 1))).take (m - (n - 1))) := by
      rw [wrapU64_id hx.1 (by omega), wrapU64_id (n := 256 * _) (by omega) (by omega), wrapU64_id (by omega) (by omega), hacc]
      have em : m - (n - 1) = (m - n) + 1 := by omega
      have en : a + (n - 1) + 1 = a + n := by omega
      rw [drop_cons (l := l) (i := a + (n - 1)) (by omega), em, List.take_succ_cons, leVal, en, Int.add_comm]
    have e2 : IntKind.i64.wrap ((n : Int) - 1 - 1) = ((n - 1 : Nat) : Int) - 1 := by rw [wrapI64 (by omega) (by omega)]; omega
    have := hK (n - 1, _) ⟨by omega, e⟩ (by simp only; omega)
    simp only at this
    rw [← e2] at this
    exact this
  · refine br_no (tst_f ha) ?_
    have : n = 0 := by omega
    subst this
    conv => lhs; whnf
    rw [hacc]; rfl
end Go.Proofs.Ytmpmmfbgdpfnpaa.Ev
/- Numbers laid down, seven bits a byte, by the document. -/
namespace Go.Proofs.Ytmpmmfbgdpfnpaa.Ev
open Go Go.RowKit
set_option linter.unusedVariables false
set_option maxRecDepth 100000
end Go.Proofs.Ytmpmmfbgdpfnpaa.Ev
/- Keys taken apart and held against one another, by the document. -/
namespace Go.Proofs.Ytmpmmfbgdpfnpaa.Ev
open Go Go.RowKit
set_option linter.unusedVariables false
set_option linter.unusedSimpArgs false
set_option maxRecDepth 100000
set_option maxHeartbeats 8000000
theorem rfixed_ok (T : Tab) : fixedSp.Ok T rfixedC F46 := by
  rintro ⟨(n : Int), (m : Int), _⟩ hf hp
  have hp : (0 : Int) ≤ m ∧ (m : Int) ≤ 8 := by simpa only [fixedSp, Bool.and_eq_true, tst_iff] using hp
  have := rfixed_ev T n (Int.toNat m) (Int.toNat m + 1) (Int.toNat_le.2 hp.2) (Nat.lt_succ_self _)
  rw [Int.toNat_of_nonneg hp.1] at this
  exact ⟨_, 0, this⟩
theorem runfixed_ok (T : Tab) : runfixedSp.Ok T runfixedC F45 := by
  rintro ⟨(l : List Int), (a : Int), (m : Int), _⟩ hf hp
  have hp : (((0 : Int) ≤ a ∧ 0 ≤ m) ∧ m ≤ 8) ∧ a + m ≤ (l.length : Int) := by simpa only [runfixedSp, runfixedPre, Bool.and_eq_true, tst_iff] using hp
  have hb : Bytes l := bytes_of hf.1
  have := runfixed_ev T l hb (Int.toNat a) (Int.toNat m) (Int.toNat m + 1) (Int.toNat_le.2 hp.1.2) (by omega) (fits_by.1 hf.1).1 (Nat.lt_succ_self _)
  rw [Int.toNat_of_nonneg hp.1.1.1, Int.toNat_of_nonneg hp.1.1.2] at this
  exact ⟨_, 0, this⟩
abbrev rsplitC : Ctx := ⟨rows, (fun  | _ => ([], []))⟩
theorem rsplit_ok (T : Tab) (h1 : T 45 = runfixedSp.ent) : rsplitSp.OkW T rsplitC F16 := by
  rw [on_top h1]
  rintro ⟨(l : List Int), _⟩ hf _
  have hl : l.length ≤ 140737488355328 := (fits_by.1 hf.1).1
  have hb : Bytes l := bytes_of hf.1
  obtain ⟨F, hF⟩ : ∃ F : Nat, F = 1 := ⟨_, rfl⟩
  refine ⟨F, 0, ?_⟩
  show evFn _ _ _ _ _ [.d byl l] [] _ = some (.tup [.d byl (split l).1, .d u64 (split l).2.1, .d i64 (split l).2.2.1, .d i64 (split l).2.2.2] : V)
  conv => lhs; whnf
  try simp (maxSteps := 2000000) (disch := omega) only [NN, Ty.den, dflt_kv]
  by_cases h1 : l.length < 8
  · refine br_go (tst_t (by omega)) ?_
    conv => lhs; whnf
    try simp (maxSteps := 2000000) (disch := omega) only [NN, Ty.den, dflt_kv]
    repeat (refine br_go ?_ ?_; (focus (((repeat' first | exact rfl | exact ordB_st rfl | exact ordB_of rfl | apply band | apply tst_t | apply nt_t)  <;> (try dsimp only [Ty.den, dflt_kv]) <;> (try simp only [LL]) <;> (first | trivial | assumption | omega | (change (_ : Int) ≤ _; omega) | (change (_ : Int) < _; omega) | (change (_ : Nat) * 1 ≤ _; omega) | (change (_ : Nat) * 48 ≤ _; omega) | (change (_ : Nat) * 24 ≤ _; omega) | (change (_ : Nat) * 8 ≤ _; omega) | (change (_ : Nat) * 64 ≤ _; omega) | decide)); done)); (conv => lhs; whnf); (try simp (maxSteps := 2000000) (disch := omega) only [NN, Ty.den, dflt_kv]))
    have es : split l = ([], 0, 0, 23) := if_pos (.inl h1)
    rw [es]
  · refine br_no (tst_f (by omega)) ?_
    conv => lhs; whnf
    try simp (maxSteps := 2000000) (disch := omega) only [NN, Ty.den, dflt_kv]
    by_cases h2 : 136 < l.length
    · refine br_go (tst_t (by omega)) ?_
      conv => lhs; whnf
      try simp (maxSteps := 2000000) (disch := omega) only [NN, Ty.den, dflt_kv]
      repeat (refine br_go ?_ ?_; (focus (((repeat' first | exact rfl | exact ordB_st rfl | exact ordB_of rfl | apply band | apply tst_t | apply nt_t)  <;> (try dsimp only [Ty.den, dflt_kv]) <;> (try simp only [LL]) <;> (first | trivial | assumption | omega | (change (_ : Int) ≤ _; omega) | (change (_ : Int) < _; omega) | (change (_ : Nat) * 1 ≤ _; omega) | (change (_ : Nat) * 48 ≤ _; omega) | (change (_ : Nat) * 24 ≤ _; omega) | (change (_ : Nat) * 8 ≤ _; omega) | (change (_ : Nat) * 64 ≤ _; omega) | decide)); done)); (conv => lhs; whnf); (try simp (maxSteps := 2000000) (disch := omega) only [NN, Ty.den, dflt_kv]))
      have es : split l = ([], 0, 0, 23) := if_pos (.inr h2)
      rw [es]
    · refine br_no (tst_f (by omega)) ?_
      conv => lhs; whnf
      try simp (maxSteps := 2000000) (disch := omega) only [NN, Ty.den, dflt_kv]
      repeat (refine br_go ?_ ?_; (focus (((repeat' first | exact rfl | exact ordB_st rfl | exact ordB_of rfl | apply band | apply tst_t | apply nt_t)  <;> (try dsimp only [Ty.den, dflt_kv]) <;> (try simp only [LL]) <;> (first | trivial | assumption | omega | (change (_ : Int) ≤ _; omega) | (change (_ : Int) < _; omega) | (change (_ : Nat) * 1 ≤ _; omega) | (change (_ : Nat) * 48 ≤ _; omega) | (change (_ : Nat) * 24 ≤ _; omega) | (change (_ : Nat) * 8 ≤ _; omega) | (change (_ : Nat) * 64 ≤ _; omega) | decide)); done)); (conv => lhs; whnf); (try simp (maxSteps := 2000000) (disch := omega) only [NN, Ty.den, dflt_kv]))
      have hr := leVal_range (hb.drop (l.length - 8))
      have ht : List.take 8 (l.drop (l.length - 8)) = l.drop (l.length - 8) := List.take_of_length_le (by rw [List.length_drop]; omega)
      rw [List.length_drop, show l.length - (l.length - 8) = 8 by omega, show (256 : Nat) ^ 8 = 18446744073709551616 by decide] at hr
      try simp (maxSteps := 2000000) (disch := omega) only [NN, Ty.den, dflt_kv, ht]
      by_cases h3 : leVal (l.drop (l.length - 8)) % 256 > 1
      · refine br_go (tst_t (h3)) ?_
        conv => lhs; whnf
        try simp (maxSteps := 2000000) (disch := omega) only [NN, Ty.den, dflt_kv]
        repeat (refine br_go ?_ ?_; (focus (((repeat' first | exact rfl | exact ordB_st rfl | exact ordB_of rfl | apply band | apply tst_t | apply nt_t)  <;> (try dsimp only [Ty.den, dflt_kv]) <;> (try simp only [LL]) <;> (first | trivial | assumption | omega | (change (_ : Int) ≤ _; omega) | (change (_ : Int) < _; omega) | (change (_ : Nat) * 1 ≤ _; omega) | (change (_ : Nat) * 48 ≤ _; omega) | (change (_ : Nat) * 24 ≤ _; omega) | (change (_ : Nat) * 8 ≤ _; omega) | (change (_ : Nat) * 64 ≤ _; omega) | decide)); done)); (conv => lhs; whnf); (try simp (maxSteps := 2000000) (disch := omega) only [NN, Ty.den, dflt_kv]))
        have es : split l = ([], 0, 0, 23) := by unfold split; rw [if_neg (by omega), if_pos h3]
        rw [es]
      · refine br_no (tst_f (h3)) ?_
        conv => lhs; whnf
        try simp (maxSteps := 2000000) (disch := omega) only [NN, Ty.den, dflt_kv]
        repeat (refine br_go ?_ ?_; (focus (((repeat' first | exact rfl | exact ordB_st rfl | exact ordB_of rfl | apply band | apply tst_t | apply nt_t)  <;> (try dsimp only [Ty.den, dflt_kv]) <;> (try simp only [LL]) <;> (first | trivial | assumption | omega | (change (_ : Int) ≤ _; omega) | (change (_ : Int) < _; omega) | (change (_ : Nat) * 1 ≤ _; omega) | (change (_ : Nat) * 48 ≤ _; omega) | (change (_ : Nat) * 24 ≤ _; omega) | (change (_ : Nat) * 8 ≤ _; omega) | (change (_ : Nat) * 64 ≤ _; omega) | decide)); done)); (conv => lhs; whnf); (try simp (maxSteps := 2000000) (disch := omega) only [NN, Ty.den, dflt_kv]))
        have es : split l = (l.take (l.length - 8), leVal (l.drop (l.length - 8)) / 256, leVal (l.drop (l.length - 8)) % 256, 0) := by unfold split; rw [if_neg (by omega), if_neg h3]
        rw [es]
abbrev isC : Ctx := ⟨rows, (fun  | _ => ([], []))⟩
theorem is_ok (T : Tab) (h1 : T 16 = rsplitSp.ent) : isSp.Ok T isC F47 := by
  rw [on_top h1]
  rintro ⟨(l : List Int), _⟩ hf _
  obtain ⟨F, hF⟩ : ∃ F : Nat, F = 1 := ⟨_, rfl⟩
  refine ⟨F, 0, ?_⟩
  show evFn _ _ _ _ _ [.d byl l] [] _ = some (.d .bo (tst ((split l).2.2.2 = 0)) : V)
  conv => lhs; whnf
  try simp (maxSteps := 2000000) (disch := omega) only [NN, Ty.den, dflt_kv]
  repeat (refine br_go ?_ ?_; (focus (((repeat' first | exact rfl | exact ordB_st rfl | exact ordB_of rfl | apply band | apply tst_t | apply nt_t)  <;> (try dsimp only [Ty.den, dflt_kv]) <;> (try simp only [LL]) <;> (first | trivial | assumption | omega | (change (_ : Int) ≤ _; omega) | (change (_ : Int) < _; omega) | (change (_ : Nat) * 1 ≤ _; omega) | (change (_ : Nat) * 48 ≤ _; omega) | (change (_ : Nat) * 24 ≤ _; omega) | (change (_ : Nat) * 8 ≤ _; omega) | (change (_ : Nat) * 64 ≤ _; omega) | decide)); done)); (conv => lhs; whnf); (try simp (maxSteps := 2000000) (disch := omega) only [NN, Ty.den, dflt_kv]))
abbrev rbytesC : Ctx := ⟨rows, (fun | 0 => ([0, 1, 5], [0, 1]) | 1 => ([], [0, 1, 5]) | 2 => ([], []) | _ => ([], []))⟩
theorem rd_cons {l : List Int} {i : Nat} (h : i < l.length) : l.drop i = l.getD i 0 :: l.drop (i + 1) := by rw [List.getD_eq_getElem?_getD, List.getElem?_eq_getElem h]; exact List.drop_eq_getElem_cons h
theorem rbytes_ok (T : Tab) : cmpBSp.Ok T rbytesC F17 := by
  rintro ⟨(a : List Int), (b : List Int), _⟩ hf _
  have ha : a.length ≤ 140737488355328 := (fits_by.1 hf.1).1
  have hb : b.length ≤ 140737488355328 := (fits_by.1 hf.2.1).1
  obtain ⟨F, hF⟩ : ∃ F : Nat, F = a.length + 1 := ⟨_, rfl⟩
  refine ⟨F, 0, ?_⟩
  show evFn _ _ _ _ _ [.d byl a, .d byl b] [] _ = some (.d i64 (cmpB a b) : V)
  conv => lhs; whnf
  try simp (maxSteps := 2000000) (disch := omega) only [NN, Ty.den, dflt_kv]
  refine loop_rule (α := Nat) (fun i => i ≤ a.length ∧ i ≤ b.length) (fun i => a.length - i)
    (fun i => (vB a :: vB b :: V.bad :: V.bad :: V.bad :: vI i :: V.bad :: V.bad :: V.bad :: V.bad :: V.bad :: V.bad :: V.bad :: V.bad :: V.bad :: V.bad :: V.bad :: V.bad :: V.bad :: V.bad :: V.bad :: V.bad :: V.bad :: V.bad :: V.bad :: V.bad :: V.bad :: V.bad :: V.bad :: V.bad :: V.bad :: V.bad :: V.bad :: V.bad :: V.bad :: V.bad :: V.bad :: V.bad :: V.bad :: V.bad :: V.bad :: V.bad :: V.bad :: V.bad :: V.bad :: V.bad :: V.bad :: V.bad :: [])) (fun i => [])
    (fun i => some (V.d i64 (cmpB (a.drop i) (b.drop i)))) ?_ F 0 ⟨by omega, by omega⟩ (by omega)
  rintro i K ⟨h1, h2⟩ hK
  conv => lhs; whnf
  try simp (maxSteps := 2000000) (disch := omega) only [NN, Ty.den, dflt_kv]
  by_cases hi : i < a.length
  · refine br_go (tst_t (by omega)) ?_
    conv => lhs; whnf
    try simp (maxSteps := 2000000) (disch := omega) only [NN, Ty.den, dflt_kv]
    by_cases hj : i < b.length
    · refine br_go (tst_t (by omega)) ?_
      conv => lhs; whnf
      try simp (maxSteps := 2000000) (disch := omega) only [NN, Ty.den, dflt_kv]
      repeat (refine br_go ?_ ?_; (focus (((repeat' first | exact rfl | exact ordB_st rfl | exact ordB_of rfl | apply band | apply tst_t | apply nt_t)  <;> (try dsimp only [Ty.den, dflt_kv]) <;> (try simp only [LL]) <;> (first | trivial | assumption | omega | (change (_ : Int) ≤ _; omega) | (change (_ : Int) < _; omega) | (change (_ : Nat) * 1 ≤ _; omega) | (change (_ : Nat) * 48 ≤ _; omega) | (change (_ : Nat) * 24 ≤ _; omega) | (change (_ : Nat) * 8 ≤ _; omega) | (change (_ : Nat) * 64 ≤ _; omega) | decide)); done)); (conv => lhs; whnf); (try simp (maxSteps := 2000000) (disch := omega) only [NN, Ty.den, dflt_kv]))
      rw [rd_cons hi, rd_cons hj]
      by_cases he : a.getD i 0 = b.getD i 0
      · refine br_no (tst_f (by simpa using he)) ?_
        conv => lhs; whnf
        try simp (maxSteps := 2000000) (disch := omega) only [NN, Ty.den, dflt_kv]
        refine (hK (i + 1) ⟨by omega, by omega⟩ (by omega)).trans ?_
        rw [cmpB, if_pos he]
      · refine br_go (tst_t (he)) ?_
        conv => lhs; whnf
        try simp (maxSteps := 2000000) (disch := omega) only [NN, Ty.den, dflt_kv]
        repeat (refine br_go ?_ ?_; (focus (((repeat' first | exact rfl | exact ordB_st rfl | exact ordB_of rfl | apply band | apply tst_t | apply nt_t)  <;> (try dsimp only [Ty.den, dflt_kv]) <;> (try simp only [LL]) <;> (first | trivial | assumption | omega | (change (_ : Int) ≤ _; omega) | (change (_ : Int) < _; omega) | (change (_ : Nat) * 1 ≤ _; omega) | (change (_ : Nat) * 48 ≤ _; omega) | (change (_ : Nat) * 24 ≤ _; omega) | (change (_ : Nat) * 8 ≤ _; omega) | (change (_ : Nat) * 64 ≤ _; omega) | decide)); done)); (conv => lhs; whnf); (try simp (maxSteps := 2000000) (disch := omega) only [NN, Ty.den, dflt_kv]))
        by_cases hl : a.getD i 0 < b.getD i 0
        · refine br_go (tst_t (hl)) ?_
          conv => lhs; whnf
          try simp (maxSteps := 2000000) (disch := omega) only [NN, Ty.den, dflt_kv]
          rw [cmpB, if_neg he, if_pos hl]
        · refine br_no (tst_f (hl)) ?_
          conv => lhs; whnf
          try simp (maxSteps := 2000000) (disch := omega) only [NN, Ty.den, dflt_kv]
          rw [cmpB, if_neg he, if_neg hl]
    · refine br_no (tst_f (by omega)) ?_
      conv => lhs; whnf
      try simp (maxSteps := 2000000) (disch := omega) only [NN, Ty.den, dflt_kv]
      repeat (refine br_go ?_ ?_; (focus (((repeat' first | exact rfl | exact ordB_st rfl | exact ordB_of rfl | apply band | apply tst_t | apply nt_t)  <;> (try dsimp only [Ty.den, dflt_kv]) <;> (try simp only [LL]) <;> (first | trivial | assumption | omega | (change (_ : Int) ≤ _; omega) | (change (_ : Int) < _; omega) | (change (_ : Nat) * 1 ≤ _; omega) | (change (_ : Nat) * 48 ≤ _; omega) | (change (_ : Nat) * 24 ≤ _; omega) | (change (_ : Nat) * 8 ≤ _; omega) | (change (_ : Nat) * 64 ≤ _; omega) | decide)); done)); (conv => lhs; whnf); (try simp (maxSteps := 2000000) (disch := omega) only [NN, Ty.den, dflt_kv]))
      rw [rd_cons hi, List.drop_eq_nil_of_le (by omega : b.length ≤ i)]
      by_cases hl : a.length < b.length
      · omega
      · refine br_no (tst_f (by omega)) ?_
        conv => lhs; whnf
        try simp (maxSteps := 2000000) (disch := omega) only [NN, Ty.den, dflt_kv]
        refine br_go (tst_t (by omega)) ?_
        conv => lhs; whnf
        try simp (maxSteps := 2000000) (disch := omega) only [NN, Ty.den, dflt_kv]
        rfl
  · refine br_no (tst_f (by omega)) ?_
    conv => lhs; whnf
    try simp (maxSteps := 2000000) (disch := omega) only [NN, Ty.den, dflt_kv]
    by_cases hl : a.length < b.length
    · refine br_go (tst_t (by omega)) ?_
      conv => lhs; whnf
      try simp (maxSteps := 2000000) (disch := omega) only [NN, Ty.den, dflt_kv]
      rw [List.drop_eq_nil_of_le (by omega : a.length ≤ i), rd_cons (by omega : i < b.length)]
      rfl
    · refine br_no (tst_f (by omega)) ?_
      conv => lhs; whnf
      try simp (maxSteps := 2000000) (disch := omega) only [NN, Ty.den, dflt_kv]
      refine br_no (tst_f (by omega)) ?_
      conv => lhs; whnf
      try simp (maxSteps := 2000000) (disch := omega) only [NN, Ty.den, dflt_kv]
      rw [List.drop_eq_nil_of_le (by omega : a.length ≤ i), List.drop_eq_nil_of_le (by omega : b.length ≤ i)]
      rfl
abbrev orderC : Ctx := ⟨rows, (fun | 0 => ([], []) | _ => ([], []))⟩
theorem order_ok (T : Tab) (h1 : T 16 = rsplitSp.ent) (h2 : T 17 = cmpBSp.ent) : orderSp.Ok T orderC F44 := by
  rw [on_top h1, on_top h2]
  rintro ⟨(a : List Int), (b : List Int), _⟩ hf _
  obtain ⟨F, hF⟩ : ∃ F : Nat, F = 1 := ⟨_, rfl⟩
  refine ⟨F, 0, ?_⟩
  show evFn _ _ _ _ _ [.d byl a, .d byl b] [] _ = some (.d i64 (order a b) : V)
  conv => lhs; whnf
  try simp (maxSteps := 2000000) (disch := omega) only [NN, Ty.den, dflt_kv]
  unfold order
  by_cases hc : cmpB (split a).1 (split b).1 ≠ 0
  · refine br_go (tst_t (hc)) ?_
    conv => lhs; whnf
    try simp (maxSteps := 2000000) (disch := omega) only [NN, Ty.den, dflt_kv]
    rw [if_pos hc]
  · refine br_no (tst_f (hc)) ?_
    conv => lhs; whnf
    try simp (maxSteps := 2000000) (disch := omega) only [NN, Ty.den, dflt_kv]
    rw [if_neg hc]
    repeat' (first | (refine br_split (fun _ => ?_) (fun _ => ?_) <;> (conv => lhs; whnf) <;> (try simp (maxSteps := 2000000) (disch := omega) only [NN, Ty.den, dflt_kv])) | (refine br_go ?_ ?_; (focus (((repeat' first | exact rfl | exact ordB_st rfl | exact ordB_of rfl | apply band | apply tst_t | apply nt_t)  <;> (try dsimp only [Ty.den, dflt_kv]) <;> (try simp only [LL]) <;> (first | trivial | assumption | omega | (change (_ : Int) ≤ _; omega) | (change (_ : Int) < _; omega) | (change (_ : Nat) * 1 ≤ _; omega) | (change (_ : Nat) * 48 ≤ _; omega) | (change (_ : Nat) * 24 ≤ _; omega) | (change (_ : Nat) * 8 ≤ _; omega) | (change (_ : Nat) * 64 ≤ _; omega) | decide)); done)); (conv => lhs; whnf); (try simp (maxSteps := 2000000) (disch := omega) only [NN, Ty.den, dflt_kv])))
    all_goals (first | (rw [if_pos (by omega)]; done) | (rw [if_neg (by omega), if_pos (by omega)]; done) | (rw [if_neg (by omega), if_neg (by omega)]; done) | skip)
end Go.Proofs.Ytmpmmfbgdpfnpaa.Ev
