/- Parts of the proof, joined by a program of this session: EvSpec, CSpec2, CSpecKv, CSpec7, CBlock, CBuilt, COf, EvPut, EvFixed, EvUnfixed, CFixed, CCodec, CCrc, CSteps, CFilter, TSpec, CKeys, EvRUnfixed, EvRPut. -/
import GoSem.Machine.Return
import Derived.Test.YtkdajonmfiipkaaM0
import Derived.Test.YtkdajonmfiipkaaM4
set_option linter.unusedVariables false
set_option linter.unusedSimpArgs false
set_option linter.unusedSectionVars false
/- Plain specs of the lowest functions, with no function of the program in sight. Written out of wip/pure by mkspec.py. -/
namespace Go.Proofs.Ytkdajonmfiipkaa.Ev
open Go
set_option linter.unusedVariables false
set_option linter.unusedSimpArgs false
def rd (l : List Int) (i : Int) : Int := l.getD i.toNat 0
theorem wrapU64 (n : Int) : IntKind.u64.wrap n = n % 18446744073709551616 := by simp [IntKind.wrap, IntKind.bits, IntKind.signed]
theorem wrapU64_id {n : Int} (h : 0 ≤ n) (h' : n < 18446744073709551616) : IntKind.u64.wrap n = n := by rw [wrapU64]; omega
theorem wrapU32 (n : Int) : IntKind.u32.wrap n = n % 4294967296 := by simp [IntKind.wrap, IntKind.bits, IntKind.signed]
theorem wrapU8 (n : Int) : IntKind.u8.wrap n = n % 256 := by simp [IntKind.wrap, IntKind.bits, IntKind.signed]
/-- all are bytes -/
def Bytes (l : List Int) : Prop := ∀ x ∈ l, 0 ≤ x ∧ x < 256
theorem Bytes.append {a b : List Int} (ha : Bytes a) (hb : Bytes b) : Bytes (a ++ b) := fun x hx => by
  rcases List.mem_append.mp hx with h | h
  · exact ha x h
  · exact hb x h
theorem Bytes.take {a : List Int} (ha : Bytes a) (n : Nat) : Bytes (a.take n) := fun x hx => ha x (List.mem_of_mem_take hx)
theorem Bytes.drop {a : List Int} (ha : Bytes a) (n : Nat) : Bytes (a.drop n) := fun x hx => ha x (List.mem_of_mem_drop hx)
theorem rd_get {l : List Int} {i : Nat} (h : i < l.length) : rd l (i : Int) = l[i] := by
  simp [rd, List.getD_eq_getElem?_getD, h]
theorem rd_bytes {l : List Int} (hl : Bytes l) (i : Int) : 0 ≤ rd l i ∧ rd l i < 256 := by
  by_cases h : i.toNat < l.length
  · have : rd l i = l[i.toNat] := by simp [rd, List.getD_eq_getElem?_getD, h]
    rw [this]; exact hl _ (List.getElem_mem h)
  · have : rd l i = 0 := by simp [rd, List.getD_eq_getElem?_getD, Nat.le_of_not_lt h]
    rw [this]; omega
theorem drop_cons {l : List Int} {i : Nat} (h : i < l.length) : l.drop i = rd l (i : Int) :: l.drop (i + 1) := by
  rw [rd_get h, List.drop_eq_getElem_cons h]
theorem bits_xor32 (x y : Int) : Go.bits .xor .u32 x y = ((BitVec.ofInt 32 x ^^^ BitVec.ofInt 32 y).toNat : Int) := by
  unfold Go.bits
  rw [wrapU32]
  exact Int.emod_eq_of_lt (Int.natCast_nonneg _) (Int.ofNat_lt.mpr (BitVec.isLt _))
theorem bits_and32 (x y : Int) : Go.bits .and .u32 x y = ((BitVec.ofInt 32 x &&& BitVec.ofInt 32 y).toNat : Int) := by
  unfold Go.bits
  rw [wrapU32]
  exact Int.emod_eq_of_lt (Int.natCast_nonneg _) (Int.ofNat_lt.mpr (BitVec.isLt _))
theorem bits_xor8 (x y : Int) : Go.bits .xor .u8 x y = ((BitVec.ofInt 8 x ^^^ BitVec.ofInt 8 y).toNat : Int) := by
  unfold Go.bits
  rw [wrapU8]
  exact Int.emod_eq_of_lt (Int.natCast_nonneg _) (Int.ofNat_lt.mpr (BitVec.isLt _))
theorem ofInt_toNat {w : Nat} (b : BitVec w) : BitVec.ofInt w ((b.toNat : Nat) : Int) = b := by
  simp [BitVec.ofInt_natCast]
/-- so many bytes of a number, the least first -/
def fixedL (a : Int) : Nat → List Int
  | 0 => []
  | n + 1 => fixedL a n ++ [a / ((256 ^ n : Nat) : Int) % 256]
theorem fixedL_length (a : Int) (n : Nat) : (fixedL a n).length = n := by
  induction n with
  | zero => rfl
  | succ n ih => simp [fixedL, ih]
theorem fixedL_bytes (a : Int) (n : Nat) : Bytes (fixedL a n) := by
  induction n with
  | zero => intro x hx; cases hx
  | succ n ih => exact ih.append fun x hx => by rw [List.mem_singleton.mp hx]; omega
def leVal : List Int → Int
  | [] => 0
  | x :: l => x + 256 * leVal l
theorem leVal_append (a b : List Int) : leVal (a ++ b) = leVal a + ((256 ^ a.length : Nat) : Int) * leVal b := by
  induction a with
  | nil => simp [leVal]
  | cons x l ih =>
    simp only [List.cons_append, leVal, ih, List.length_cons, Nat.pow_succ, Int.natCast_mul]
    rw [Int.mul_add, Int.add_assoc, ← Int.mul_assoc]
    congr 3
    rw [Int.mul_comm]; rfl
theorem leVal_range {l : List Int} (h : Bytes l) : 0 ≤ leVal l ∧ leVal l < ((256 ^ l.length : Nat) : Int) := by
  induction l with
  | nil => simp [leVal]
  | cons x l ih =>
    have := ih fun y hy => h y (List.mem_cons_of_mem _ hy)
    have := h x List.mem_cons_self
    simp only [leVal, List.length_cons, Nat.pow_succ, Int.natCast_mul]
    omega
theorem leVal_fixedL {a : Int} (ha : 0 ≤ a) (n : Nat) : leVal (fixedL a n) = a % ((256 ^ n : Nat) : Int) := by
  obtain ⟨m, rfl⟩ := Int.eq_ofNat_of_zero_le ha
  induction n with
  | zero => simp [fixedL, leVal, Int.emod_one]
  | succ n ih =>
    have e := @Nat.mod_mul (256 ^ n) 256 m
    rw [fixedL, leVal_append, ih, fixedL_length, Nat.pow_succ]
    simp only [leVal]
    have e' : ((m % (256 ^ n * 256) : Nat) : Int) = ((m % 256 ^ n + 256 ^ n * (m / 256 ^ n % 256) : Nat) : Int) := by rw [e]
    have e1 : ((m % (256 ^ n * 256) : Nat) : Int) = (m : Int) % ((256 ^ n * 256 : Nat) : Int) := Int.natCast_emod _ _
    have e2 : ((m % 256 ^ n + 256 ^ n * (m / 256 ^ n % 256) : Nat) : Int) = (m : Int) % ((256 ^ n : Nat) : Int) + ((256 ^ n : Nat) : Int) * ((m : Int) / ((256 ^ n : Nat) : Int) % 256) := by
      rw [Int.natCast_add, Int.natCast_mul, Int.natCast_emod, Int.natCast_emod, Int.natCast_ediv]; rfl
    rw [← e1, e', e2, Int.mul_zero, Int.add_zero]
theorem bits_or64 {x y : Int} {n : Nat} (hn : n ≤ 8) (hx : 0 ≤ x ∧ x < ((256 ^ n : Nat) : Int)) (hy : 0 ≤ y ∧ y * ((256 ^ n : Nat) : Int) < 18446744073709551616) :
    Go.bits .or .u64 x (y * ((256 ^ n : Nat) : Int)) = x + y * ((256 ^ n : Nat) : Int) := by
  obtain ⟨a, rfl⟩ := Int.eq_ofNat_of_zero_le hx.1
  obtain ⟨b, rfl⟩ := Int.eq_ofNat_of_zero_le hy.1
  have e2 : (256 : Nat) ^ n = 2 ^ (8 * n) := by
    have : (256 : Nat) = 2 ^ 8 := by decide
    rw [this, ← Nat.pow_mul]
  have h1 : a < 2 ^ (8 * n) := by rw [← e2]; omega
  have h2 : b * 2 ^ (8 * n) < 18446744073709551616 := by
    rw [← e2]
    have := hy.2
    rw [← Int.natCast_mul] at this
    omega
  have hp : (2 : Nat) ^ (8 * n) ≤ 2 ^ 64 := Nat.pow_le_pow_right (by decide) (by omega)
  have h3 : a < 18446744073709551616 := by
    have : (2 : Nat) ^ 64 = 18446744073709551616 := by decide
    omega
  rw [e2, ← Int.natCast_mul]
  unfold Go.bits
  rw [wrapU64]
  have eo : BitVec.ofInt IntKind.u64.bits (a : Int) ||| BitVec.ofInt IntKind.u64.bits ((b * 2 ^ (8 * n) : Nat) : Int) = BitVec.ofNat 64 (a + b * 2 ^ (8 * n)) := by
    apply BitVec.eq_of_toNat_eq
    rw [BitVec.toNat_or, BitVec.ofInt_natCast, BitVec.ofInt_natCast]
    simp only [IntKind.bits, BitVec.toNat_ofNat]
    rw [Nat.mod_eq_of_lt (by omega), Nat.mod_eq_of_lt (by omega)]
    have := Nat.shiftLeft_add_eq_or_of_lt h1 b
    rw [Nat.shiftLeft_eq] at this
    rw [Nat.or_comm, ← this, Nat.add_comm (b * _), Nat.mod_eq_of_lt]
    rw [Nat.add_comm, this]
    exact Nat.or_lt_two_pow (n := 64) (by omega) (by omega)
  have hl : a + b * 2 ^ (8 * n) < 18446744073709551616 := by
    have := Nat.shiftLeft_add_eq_or_of_lt h1 b
    rw [Nat.shiftLeft_eq] at this
    rw [Nat.add_comm, this]
    exact Nat.or_lt_two_pow (n := 64) (by omega) (by omega)
  show ((BitVec.ofInt IntKind.u64.bits (a : Int) ||| BitVec.ofInt IntKind.u64.bits ((b * 2 ^ (8 * n) : Nat) : Int)).toNat : Int) % 18446744073709551616 = _
  have et : (BitVec.ofInt IntKind.u64.bits (a : Int) ||| BitVec.ofInt IntKind.u64.bits ((b * 2 ^ (8 * n) : Nat) : Int)).toNat = a + b * 2 ^ (8 * n) := by
    rw [eo]
    show (BitVec.ofNat 64 (a + b * 2 ^ (8 * n))).toNat = _
    rw [BitVec.toNat_ofNat, Nat.mod_eq_of_lt (by omega)]
  rw [et]
  omega
theorem take_succ' {l : List Int} {n : Nat} (h : n < l.length) : l.take (n + 1) = l.take n ++ [rd l (n : Int)] := by
  rw [rd_get h, List.take_append_getElem h]
theorem andNot128 {c : Int} (h : 0 ≤ c ∧ c < 256) : Go.bits .andNot .u8 c 128 = c % 128 := by
  have all : ∀ n : Fin 256, Go.bits .andNot .u8 (n.val : Int) 128 = (n.val : Int) % 128 := by decide +kernel
  have := all ⟨c.toNat, by omega⟩
  simp only at this
  rwa [Int.toNat_of_nonneg h.1] at this
theorem or128 {c : Int} (h : 0 ≤ c ∧ c < 256) : Go.bits .or .u8 c 128 = c % 128 + 128 := by
  have all : ∀ n : Fin 256, Go.bits .or .u8 (n.val : Int) 128 = (n.val : Int) % 128 + 128 := by decide +kernel
  have := all ⟨c.toNat, by omega⟩
  simp only at this
  rwa [Int.toNat_of_nonneg h.1] at this
theorem pow7 (n : Nat) : (2 : Nat) ^ (7 * n) = 128 ^ n := by
  have : (128 : Nat) = 2 ^ 7 := by decide
  rw [this, ← Nat.pow_mul]
theorem or_at {x y : Int} {m : Nat} (hx : 0 ≤ x ∧ x < ((2 ^ m : Nat) : Int)) (hy : 0 ≤ y ∧ y * ((2 ^ m : Nat) : Int) < 18446744073709551616) (hx64 : x < 18446744073709551616) :
    Go.bits .or .u64 x (y * ((2 ^ m : Nat) : Int)) = x + y * ((2 ^ m : Nat) : Int) := by
  obtain ⟨a, rfl⟩ := Int.eq_ofNat_of_zero_le hx.1
  obtain ⟨b, rfl⟩ := Int.eq_ofNat_of_zero_le hy.1
  have h1 : a < 2 ^ m := by omega
  have h2 : b * 2 ^ m < 18446744073709551616 := by
    have := hy.2
    rw [← Int.natCast_mul] at this
    omega
  rw [← Int.natCast_mul]
  unfold Go.bits
  rw [wrapU64]
  have hl : a + b * 2 ^ m < 18446744073709551616 := by
    have := Nat.shiftLeft_add_eq_or_of_lt h1 b
    rw [Nat.shiftLeft_eq] at this
    rw [Nat.add_comm, this]
    exact Nat.or_lt_two_pow (n := 64) (by omega) (by omega)
  have eo : BitVec.ofInt IntKind.u64.bits (a : Int) ||| BitVec.ofInt IntKind.u64.bits ((b * 2 ^ m : Nat) : Int) = BitVec.ofNat 64 (a + b * 2 ^ m) := by
    apply BitVec.eq_of_toNat_eq
    rw [BitVec.toNat_or, BitVec.ofInt_natCast, BitVec.ofInt_natCast]
    simp only [IntKind.bits, BitVec.toNat_ofNat]
    rw [Nat.mod_eq_of_lt (by omega), Nat.mod_eq_of_lt (by omega)]
    have := Nat.shiftLeft_add_eq_or_of_lt h1 b
    rw [Nat.shiftLeft_eq] at this
    rw [Nat.or_comm, ← this, Nat.add_comm (b * _), Nat.mod_eq_of_lt (by omega)]
  have et : (BitVec.ofInt IntKind.u64.bits (a : Int) ||| BitVec.ofInt IntKind.u64.bits ((b * 2 ^ m : Nat) : Int)).toNat = a + b * 2 ^ m := by
    rw [eo]
    show (BitVec.ofNat 64 (a + b * 2 ^ m)).toNat = _
    rw [BitVec.toNat_ofNat, Nat.mod_eq_of_lt (by omega)]
  show ((BitVec.ofInt IntKind.u64.bits (a : Int) ||| BitVec.ofInt IntKind.u64.bits ((b * 2 ^ m : Nat) : Int)).toNat : Int) % 18446744073709551616 = _
  rw [et]
  omega
/-- what is read of a row, from the i-th byte on -/
def takeS : List Int → Nat → Int → Int × Int × Int
  | [], _, _ => (0, 0, 20)
  | c :: l, i, acc => if (i = 9 ∧ 1 < c) ∨ (0 < i ∧ c = 0) then (0, 0, 21) else if c < 128 then (acc + c % 128 * ((128 ^ i : Nat) : Int), (i : Int) + 1, 0) else takeS l (i + 1) (acc + c % 128 * ((128 ^ i : Nat) : Int))
theorem pow128_le {i : Nat} (h : i ≤ 9) : ((128 ^ i : Nat) : Int) ≤ 9223372036854775808 := by
  have p : (128 : Nat) ^ i ≤ 128 ^ 9 := Nat.pow_le_pow_right (by decide) h
  have : (128 : Nat) ^ 9 = 9223372036854775808 := by decide
  omega
theorem pow128_le8 {i : Nat} (h : i ≤ 8) : ((128 ^ i : Nat) : Int) ≤ 72057594037927936 := by
  have p : (128 : Nat) ^ i ≤ 128 ^ 8 := Nat.pow_le_pow_right (by decide) h
  have : (128 : Nat) ^ 8 = 72057594037927936 := by decide
  omega
/-- a byte that is let in at its place: its part -/
theorem part {c acc : Int} {i : Nat} (hi : i ≤ 9) (hc : 0 ≤ c ∧ c < 256) (hn : ¬ ((i = 9 ∧ 1 < c) ∨ (0 < i ∧ c = 0))) (ha : 0 ≤ acc ∧ acc < ((128 ^ i : Nat) : Int)) :
    0 ≤ acc + c % 128 * ((128 ^ i : Nat) : Int) ∧ acc + c % 128 * ((128 ^ i : Nat) : Int) < ((128 ^ (i + 1) : Nat) : Int) ∧ acc + c % 128 * ((128 ^ i : Nat) : Int) < 18446744073709551616 ∧ c % 128 * ((128 ^ i : Nat) : Int) < 18446744073709551616 := by
  have hm : 0 ≤ c % 128 * ((128 ^ i : Nat) : Int) := Int.mul_nonneg (by omega) (Int.natCast_nonneg _)
  have hle : c % 128 * ((128 ^ i : Nat) : Int) ≤ 127 * ((128 ^ i : Nat) : Int) := Int.mul_le_mul_of_nonneg_right (by omega) (Int.natCast_nonneg _)
  have e : ((128 ^ (i + 1) : Nat) : Int) = 128 * ((128 ^ i : Nat) : Int) := by rw [Nat.pow_succ]; omega
  refine ⟨by omega, by omega, ?_⟩
  by_cases h9 : i = 9
  · subst h9
    have hle1 : c % 128 * ((128 ^ 9 : Nat) : Int) ≤ 1 * ((128 ^ 9 : Nat) : Int) := Int.mul_le_mul_of_nonneg_right (by omega) (Int.natCast_nonneg _)
    have := pow128_le (i := 9) (by omega)
    omega
  · have := pow128_le8 (i := i) (by omega)
    omega
/-- a number's bytes: as many as its size asks for -/
def putS (n : Nat) : List Int := if h : n < 128 then [(n : Int)] else ((n % 128 + 128 : Nat) : Int) :: putS (n / 128)
termination_by n
decreasing_by omega
theorem putS_bytes (n : Nat) : Bytes (putS n) := by
  induction n using Nat.strongRecOn with
  | ind n ih =>
    unfold putS
    split
    · intro x hx; rw [List.mem_singleton.mp hx]; omega
    · intro x hx
      rcases List.mem_cons.mp hx with h | h
      · rw [h]; omega
      · exact ih (n / 128) (by omega) x h
theorem putS_length (j : Nat) : ∀ n : Nat, n < 128 ^ (j + 1) → (putS n).length ≤ j + 1 := by
  induction j with
  | zero => intro n h; unfold putS; rw [dif_pos (by omega)]; simp
  | succ j ih =>
    intro n h
    unfold putS
    split
    · simp
    · rw [List.length_cons]
      have := ih (n / 128) (by rw [Nat.div_lt_iff_lt_mul (by decide)]; rw [Nat.pow_succ] at h; exact h)
      omega
theorem putS_length64 {n : Nat} (h : n < 18446744073709551616) : (putS n).length ≤ 10 := by
  refine putS_length 9 n ?_
  have : (128 : Nat) ^ (9 + 1) = 1180591620717411303424 := by decide
  omega
theorem takeS_putS (n : Nat) : ∀ (i : Nat) (acc : Int) (rest : List Int), i ≤ 9 → n * 128 ^ i < 18446744073709551616 → i = 0 ∨ 0 < n →
    takeS (putS n ++ rest) i acc = (acc + (n : Int) * ((128 ^ i : Nat) : Int), (i : Int) + ((putS n).length : Int), 0) := by
  induction n using Nat.strongRecOn with
  | ind n ih =>
    intro i acc rest hi hn h0
    have h9 : i = 9 → n ≤ 1 := by
      intro e
      subst e
      have : (128 : Nat) ^ 9 = 9223372036854775808 := by decide
      omega
    by_cases h : n < 128
    · have e : putS n = [(n : Int)] := by unfold putS; rw [dif_pos h]
      rw [e]
      simp only [List.cons_append, List.nil_append, takeS, List.length_cons, List.length_nil]
      rw [if_neg (by omega), if_pos (by omega), Int.emod_eq_of_lt (by omega) (by omega)]
      rfl
    · have e : putS n = ((n % 128 + 128 : Nat) : Int) :: putS (n / 128) := by rw [putS, dif_neg h]
      rw [e]
      simp only [List.cons_append, takeS, List.length_cons]
      have hp : n / 128 * 128 ^ (i + 1) ≤ n * 128 ^ i := by
        rw [Nat.pow_succ, Nat.mul_comm (128 ^ i), ← Nat.mul_assoc]
        exact Nat.mul_le_mul_right _ (Nat.div_mul_le_self _ _)
      rw [if_neg (by omega), if_neg (by omega), ih (n / 128) (by omega) (i + 1) _ rest (by omega) (by omega) (by omega)]
      have e1 : (((n % 128 + 128 : Nat) : Int)) % 128 = ((n % 128 : Nat) : Int) := by omega
      rw [e1]
      congr 1
      · rw [Int.add_assoc]
        congr 1
        rw [← Int.natCast_mul, ← Int.natCast_mul, ← Int.natCast_mul, ← Int.natCast_add]
        congr 1
        rw [Nat.pow_succ, Nat.mul_comm (128 ^ i) 128, ← Nat.mul_assoc, ← Nat.add_mul]
        congr 1
        omega
      · congr 1
        omega
theorem take_put {a : Int} (h : 0 ≤ a ∧ a < 18446744073709551616) (rest : List Int) : takeS (putS a.toNat ++ rest) 0 0 = (a, ((putS a.toNat).length : Int), 0) := by
  rw [takeS_putS a.toNat 0 0 rest (by omega) (by simp; omega) (.inl rfl)]
  simp
  omega
/-- a user key, a number and a kind that make an internal key -/
def Right (l : List Int) (a b : Int) : Prop := (l.length : Int) ≤ 128 ∧ a ≤ 72057594037927935 ∧ (b = 0 ∨ b = 1)
instance (l : List Int) (a b : Int) : Decidable (Right l a b) := by unfold Right; infer_instance
def key (l : List Int) (a b : Int) : List Int × Int := if Right l a b then (l ++ fixedL (a * 256 + b) 8, 0) else ([], 23)
def split (l : List Int) : List Int × Int × Int × Int :=
  if l.length < 8 ∨ 136 < l.length then ([], 0, 0, 23)
  else if 1 < leVal (l.drop (l.length - 8)) % 256 then ([], 0, 0, 23)
  else (l.take (l.length - 8), leVal (l.drop (l.length - 8)) / 256, leVal (l.drop (l.length - 8)) % 256, 0)
theorem last8 {l : List Int} (hl : Bytes l) (h : 8 ≤ l.length) : 0 ≤ leVal (l.drop (l.length - 8)) ∧ leVal (l.drop (l.length - 8)) < 18446744073709551616 := by
  have := leVal_range (hl.drop (l.length - 8))
  have e : (l.drop (l.length - 8)).length = 8 := by rw [List.length_drop]; omega
  rw [e] at this
  have e : (256 : Nat) ^ 8 = 18446744073709551616 := by decide
  omega
theorem split_bytes {l : List Int} (hl : Bytes l) : Bytes (split l).1 := by
  unfold split
  split
  · intro x hx; cases hx
  · split
    · intro x hx; cases hx
    · exact hl.take _
theorem split_key {l : List Int} {a b : Int} (ha : 0 ≤ a) (h : Right l a b) : split (l ++ fixedL (a * 256 + b) 8) = (l, a, b, 0) := by
  obtain ⟨h1, h2, h3⟩ := h
  have el : (l ++ fixedL (a * 256 + b) 8).length = l.length + 8 := by rw [List.length_append, fixedL_length]
  have ed : (l ++ fixedL (a * 256 + b) 8).drop ((l ++ fixedL (a * 256 + b) 8).length - 8) = fixedL (a * 256 + b) 8 := by
    rw [el, Nat.add_sub_cancel, List.drop_left]
  have et : (l ++ fixedL (a * 256 + b) 8).take ((l ++ fixedL (a * 256 + b) 8).length - 8) = l := by
    rw [el, Nat.add_sub_cancel, List.take_left]
  have ev : leVal (fixedL (a * 256 + b) 8) = a * 256 + b := by
    rw [leVal_fixedL (by omega)]
    have e : (256 : Nat) ^ 8 = 18446744073709551616 := by decide
    rw [e]; omega
  unfold split
  rw [ed, et, el, ev, if_neg (by omega), if_neg (by omega)]
  congr 2
  · omega
  · congr 1; omega
theorem key_bytes {l : List Int} (hl : Bytes l) (a b : Int) : Bytes (key l a b).1 := by
  unfold key
  split
  · exact hl.append (fixedL_bytes _ _)
  · intro x hx; cases hx
theorem key_length {l : List Int} (a b : Int) : (key l a b).1.length ≤ 136 := by
  unfold key
  split
  · rename_i h; have := h.1; simp only [List.length_append, fixedL_length]; omega
  · simp
/-- two rows of numbers, the lesser ahead -/
def cmpB : List Int → List Int → Int
  | [], [] => 0
  | [], _ :: _ => -1
  | _ :: _, [] => 1
  | a :: x, b :: y => if a = b then cmpB x y else if a < b then -1 else 1
theorem cmpB_cases (a b : List Int) : cmpB a b = -1 ∨ cmpB a b = 0 ∨ cmpB a b = 1 := by
  induction a generalizing b with
  | nil => cases b <;> simp [cmpB]
  | cons x a ih =>
    cases b with
    | nil => simp [cmpB]
    | cons y b =>
      simp only [cmpB]
      split
      · exact ih b
      · split <;> simp
theorem cmpB_neg (a b : List Int) : cmpB b a = - cmpB a b := by
  induction a generalizing b with
  | nil => cases b <;> simp [cmpB]
  | cons x a ih =>
    cases b with
    | nil => simp [cmpB]
    | cons y b =>
      simp only [cmpB]
      by_cases h : x = y
      · rw [if_pos h, if_pos h.symm]; exact ih b
      · rw [if_neg h, if_neg (fun e => h e.symm)]
        by_cases h2 : x < y
        · rw [if_neg (by omega), if_pos h2]; rfl
        · rw [if_pos (by omega), if_neg h2]
theorem cmpB_refl (a : List Int) : cmpB a a = 0 := by
  induction a with
  | nil => rfl
  | cons x a ih => simp [cmpB, ih]
theorem cmpB_zero {a b : List Int} (h : cmpB a b = 0) : a = b := by
  induction a generalizing b with
  | nil => cases b with
    | nil => rfl
    | cons y b => simp [cmpB] at h
  | cons x a ih =>
    cases b with
    | nil => simp [cmpB] at h
    | cons y b =>
      simp only [cmpB] at h
      by_cases e : x = y
      · rw [if_pos e] at h; rw [e, ih h]
      · rw [if_neg e] at h; split at h <;> simp at h
theorem cmpB_trans {a b c : List Int} (h1 : cmpB a b ≤ 0) (h2 : cmpB b c ≤ 0) : cmpB a c ≤ 0 ∧ (cmpB a c = 0 → cmpB a b = 0 ∧ cmpB b c = 0) := by
  induction a generalizing b c with
  | nil =>
    cases b with
    | nil => cases c <;> simp [cmpB]
    | cons y b => cases c with
      | nil => simp [cmpB] at h2
      | cons z c => simp [cmpB]
  | cons x a ih =>
    cases b with
    | nil => simp [cmpB] at h1
    | cons y b =>
      cases c with
      | nil => simp [cmpB] at h2
      | cons z c =>
        simp only [cmpB] at h1 h2 ⊢
        by_cases e1 : x = y
        · subst e1
          rw [if_pos rfl] at h1 ⊢
          by_cases e2 : x = z
          · subst e2
            rw [if_pos rfl] at h2
            rw [if_pos rfl]
            refine ⟨(ih h1 h2).1, fun e => ⟨((ih h1 h2).2 e).1, ?_⟩⟩
            rw [if_pos rfl]
            exact ((ih h1 h2).2 e).2
          · rw [if_neg e2] at h2
            rw [if_neg e2]
            by_cases e3 : x < z
            · rw [if_pos e3]; omega
            · rw [if_neg e3] at h2; omega
        · rw [if_neg e1] at h1 ⊢
          by_cases e3 : x < y
          · rw [if_pos e3]
            by_cases e2 : y = z
            · subst e2
              rw [if_neg e1, if_pos e3]; omega
            · rw [if_neg e2] at h2 ⊢
              by_cases e4 : y < z
              · rw [if_neg (by omega), if_pos (by omega)]; omega
              · rw [if_neg e4] at h2; omega
          · rw [if_neg e3] at h1; omega
/-- the order of two keys: the users' keys rise, then the moments and kinds fall -/
def order (a b : List Int) : Int :=
  if cmpB (split a).1 (split b).1 ≠ 0 then cmpB (split a).1 (split b).1
  else if (split a).2.1 > (split b).2.1 ∨ ((split a).2.1 = (split b).2.1 ∧ (split a).2.2.1 > (split b).2.2.1) then -1
  else if (split a).2.1 < (split b).2.1 ∨ ((split a).2.1 = (split b).2.1 ∧ (split a).2.2.1 < (split b).2.2.1) then 1
  else 0
def compareK (a b : List Int) : Int × Int := if (split a).2.2.2 = 0 ∧ (split b).2.2.2 = 0 then (order a b, 0) else (0, 23)
theorem split_length (a : List Int) : (split a).1.length ≤ a.length := by
  unfold split
  repeat' split
  · simp
  · simp
  · simp only [List.length_take]; omega
theorem order_neg (a b : List Int) : order b a = - order a b := by
  unfold order
  rw [cmpB_neg (split a).1 (split b).1]
  have := cmpB_cases (split a).1 (split b).1
  generalize cmpB (split a).1 (split b).1 = m at *
  generalize (split a).2.1 = na
  generalize (split b).2.1 = nb
  generalize (split a).2.2.1 = ka
  generalize (split b).2.2.1 = kb
  by_cases h : m = 0
  · rw [if_neg (c := -m ≠ 0) (by omega), if_neg (c := m ≠ 0) (by omega)]
    by_cases c1 : na > nb ∨ (na = nb ∧ ka > kb)
    · rw [if_pos c1, if_neg (by omega), if_pos (by omega)]; rfl
    · rw [if_neg c1]
      by_cases c2 : na < nb ∨ (na = nb ∧ ka < kb)
      · rw [if_pos c2, if_pos (by omega)]
      · rw [if_neg c2, if_neg (by omega), if_neg (by omega)]; rfl
  · rw [if_pos (c := -m ≠ 0) (by omega), if_pos (c := m ≠ 0) (by omega)]
theorem order_cases (a b : List Int) : order a b = -1 ∨ order a b = 0 ∨ order a b = 1 := by
  unfold order
  have := cmpB_cases (split a).1 (split b).1
  split
  · omega
  · split
    · omega
    · split <;> omega
theorem order_trans {a b c : List Int} (h1 : order a b ≤ 0) (h2 : order b c ≤ 0) : order a c ≤ 0 := by
  unfold order at *
  have p := cmpB_cases (split a).1 (split b).1
  have q := cmpB_cases (split b).1 (split c).1
  have ha : cmpB (split a).1 (split b).1 ≤ 0 := by
    split at h1
    · exact h1
    · omega
  have hb : cmpB (split b).1 (split c).1 ≤ 0 := by
    split at h2
    · exact h2
    · omega
  obtain ⟨t1, t2⟩ := cmpB_trans ha hb
  by_cases h : cmpB (split a).1 (split c).1 = 0
  · obtain ⟨e1, e2⟩ := t2 h
    rw [if_neg (by omega)] at h1 h2
    rw [if_neg (by omega)]
    split
    · omega
    · split
      · split at h1
        · split at h2
          · omega
          · split at h2
            · omega
            · omega
        · split at h1
          · omega
          · split at h2
            · omega
            · split at h2 <;> omega
      · omega
  · rw [if_pos h]; exact t1
theorem order_zero {a b : List Int} (ha : Bytes a) (hb : Bytes b) (ea : (split a).2.2.2 = 0) (eb : (split b).2.2.2 = 0) (h : order a b = 0) : a = b := by
  have key : ∀ {l : List Int}, Bytes l → (split l).2.2.2 = 0 → 8 ≤ l.length ∧ (split l).1 = l.take (l.length - 8) ∧ (split l).2.1 = leVal (l.drop (l.length - 8)) / 256 ∧ (split l).2.2.1 = leVal (l.drop (l.length - 8)) % 256 := by
    intro l hl e
    unfold split at *
    split at e
    · simp at e
    · split at e
      · simp at e
      · rename_i h1 h2
        rw [if_neg h1, if_neg h2]
        exact ⟨by omega, rfl, rfl, rfl⟩
  obtain ⟨a1, a2, a3, a4⟩ := key ha ea
  obtain ⟨b1, b2, b3, b4⟩ := key hb eb
  unfold order at h
  have hc : cmpB (split a).1 (split b).1 = 0 := by
    split at h
    · exact h
    · omega
  rw [if_neg (by omega)] at h
  have hu := cmpB_zero hc
  have hv : leVal (a.drop (a.length - 8)) = leVal (b.drop (b.length - 8)) := by
    split at h
    · omega
    · split at h
      · omega
      · omega
  have inj : ∀ {x y : List Int}, Bytes x → Bytes y → x.length = y.length → leVal x = leVal y → x = y := by
    intro x
    induction x with
    | nil => intro y _ _ h _; exact (List.eq_nil_of_length_eq_zero h.symm).symm
    | cons p x ih =>
      intro y hx hy h e
      cases y with
      | nil => simp at h
      | cons q y =>
        have hp := hx p List.mem_cons_self
        have hq := hy q List.mem_cons_self
        simp only [leVal] at e
        have e1 : p = q := by omega
        have e2 := ih (fun z hz => hx z (List.mem_cons_of_mem _ hz)) (fun z hz => hy z (List.mem_cons_of_mem _ hz)) (by simpa using h) (by omega)
        rw [e1, e2]
  have hd := inj (ha.drop (a.length - 8)) (hb.drop (b.length - 8)) (by simp only [List.length_drop]; omega) hv
  rw [a2, b2] at hu
  rw [← List.take_append_drop (a.length - 8) a, ← List.take_append_drop (b.length - 8) b, hu, hd]
end Go.Proofs.Ytkdajonmfiipkaa.Ev
/- What the lowest functions tell of data. -/
namespace Go.Proofs.Ytkdajonmfiipkaa.Ev
open Go Go.RowKit
set_option linter.unusedVariables false
noncomputable section
abbrev u64 : Ty := .it .u64
abbrev i64 : Ty := .it .i64
abbrev u32 : Ty := .it .u32
abbrev byl : Ty := .li (.it .u8)
abbrev KV : Type := List Int × List Int × Unit
abbrev kv : Ty := .co byl (.co byl .ue)
abbrev kvl : Ty := .li kv
abbrev vK (l : List KV) : V := .d kvl l
def kvd : KV := ([], [], ())
theorem dflt_kv : Ty.dflt (.co (.li (.it .u8)) (.co (.li (.it .u8)) .ue)) = kvd := rfl
abbrev vI (n : Int) : V := .d i64 n
abbrev vU (n : Int) : V := .d u64 n
abbrev vW (n : Int) : V := .d u32 n
abbrev vB (l : List Int) : V := .d byl l
abbrev vO (o : Nat) (l : List Int) : V := .own o by8 l
abbrev vT (p : Prop) [Decidable p] : V := .d .bo (tst p)
def putSp : Sp := ⟨[u64], fun _ => true, fun x => .own 0 by8 (putS (Int.toNat x.1))⟩
def fixedSp : Sp := ⟨[u64, i64], fun x => tst ((0 : Int) ≤ x.2.1) && tst ((x.2.1 : Int) ≤ 8), fun x => .own 0 by8 (fixedL x.1 (Int.toNat x.2.1))⟩
def fixed4Sp : Sp := ⟨[u32], fun _ => true, fun x => .own 0 by8 (fixedL x.1 4)⟩
def fixed8Sp : Sp := ⟨[u64], fun _ => true, fun x => .own 0 by8 (fixedL x.1 8)⟩
def unfixedS (l : List Int) (n : Nat) : Int × Int := if l.length < n then (0, 20) else (leVal (l.take n), 0)
def unfixedSp : Sp := ⟨[byl, i64], fun x => tst ((0 : Int) ≤ x.2.1) && tst ((x.2.1 : Int) ≤ 8), fun x => .tup [.d u64 (unfixedS x.1 (Int.toNat x.2.1)).1, .d i64 (unfixedS x.1 (Int.toNat x.2.1)).2]⟩
def unfixed4Sp : Sp := ⟨[byl], fun _ => true, fun x => .tup [.d u32 (unfixedS x.1 4).1, .d i64 (unfixedS x.1 4).2]⟩
def unfixed8Sp : Sp := ⟨[byl], fun _ => true, fun x => .tup [.d u64 (unfixedS x.1 8).1, .d i64 (unfixedS x.1 8).2]⟩
def takeSp : Sp := ⟨[byl], fun _ => true, fun x => .tup [vU (takeS x.1 0 0).1, vI (takeS x.1 0 0).2.1, vI (takeS x.1 0 0).2.2]⟩
def rtakePre (l : List Int) (a : Int) : Bool := tst (0 ≤ a) && tst (a ≤ l.length)
def rtakeSp : Sp := ⟨[byl, i64], fun x => rtakePre x.1 x.2.1, fun x => .tup [vU (takeS (List.drop (Int.toNat x.2.1) x.1) 0 0).1, vI (takeS (List.drop (Int.toNat x.2.1) x.1) 0 0).2.1, vI (takeS (List.drop (Int.toNat x.2.1) x.1) 0 0).2.2]⟩
def rightSp : Sp := ⟨[byl, u64, i64], fun _ => true, fun x => .d .bo (tst (Right x.1 x.2.1 x.2.2.1))⟩
def cloneSp : Sp := ⟨[byl], fun _ => true, fun x => .own 0 by8 x.1⟩
def keySp : Sp := ⟨[byl, u64, i64], fun _ => true, fun x => .tup [.own 0 by8 (key x.1 x.2.1 x.2.2.1).1, .d i64 (key x.1 x.2.1 x.2.2.1).2]⟩
def splitSp : Sp := ⟨[byl], fun _ => true, fun x => .tup [.own 0 by8 (split x.1).1, .d u64 (split x.1).2.1, .d i64 (split x.1).2.2.1, .d i64 (split x.1).2.2.2]⟩
def cmpBSp : Sp := ⟨[byl, byl], fun _ => true, fun x => .d i64 (cmpB x.1 x.2.1)⟩
def cmpI (a b : Int) : Int := if a < b then -1 else if a > b then 1 else 0
def cmpUSp : Sp := ⟨[u64, u64], fun _ => true, fun x => .d i64 (cmpI x.1 x.2.1)⟩
def cmpISp : Sp := ⟨[i64, i64], fun _ => true, fun x => .d i64 (cmpI x.1 x.2.1)⟩
def nanUSp : Sp := ⟨[u64], fun _ => true, fun x => .d .bo false⟩
def nanISp : Sp := ⟨[i64], fun _ => true, fun x => .d .bo false⟩
def compareSp : Sp := ⟨[byl, byl], fun _ => true, fun x => .tup [.d i64 (compareK x.1 x.2.1).1, .d i64 (compareK x.1 x.2.1).2]⟩
def equalSp : Sp := ⟨[byl, byl], fun _ => true, fun x => .d .bo (tst ((x.1 : List Int) = x.2.1))⟩
/- the document's -/
def rfixedSp : Sp := fixedSp
def runfixedPre (l : List Int) (a m : Int) : Bool := tst (0 ≤ a) && tst (0 ≤ m) && tst (m ≤ 8) && tst (a + m ≤ l.length)
def runfixedSp : Sp := ⟨[byl, i64, i64], fun x => runfixedPre x.1 x.2.1 x.2.2.1, fun x => .d u64 (leVal ((List.drop (Int.toNat x.2.1) x.1).take (Int.toNat x.2.2.1)))⟩
def rsplitSp : Sp := ⟨[byl], fun _ => true, fun x => .tup [.d byl (split x.1).1, .d u64 (split x.1).2.1, .d i64 (split x.1).2.2.1, .d i64 (split x.1).2.2.2]⟩
def isSp : Sp := ⟨[byl], fun _ => true, fun x => .d .bo (tst ((split x.1).2.2.2 = 0))⟩
def orderSp : Sp := ⟨[byl, byl], fun _ => true, fun x => .d i64 (order x.1 x.2.1)⟩
end
end Go.Proofs.Ytkdajonmfiipkaa.Ev
/- Entries: held against one another, copied, rising. -/
namespace Go.Proofs.Ytkdajonmfiipkaa.Ev
open Go Go.RowKit
set_option linter.unusedVariables false
noncomputable section
def hbytesSp : Sp := ⟨[byl, byl], fun _ => true, fun x => vT ((x.1 : List Int) = x.2.1)⟩
def kvsSp : Sp := ⟨[kvl, kvl], fun _ => true, fun x => vT ((x.1 : List KV) = x.2.1)⟩
def copyPre (l : List KV) : Bool := tst (l.length ≤ 1048576)
def copySp : Sp := ⟨[kvl], fun x => copyPre x.1, fun x => .own 0 kv x.1⟩
def total (l : List KV) : Nat := (l.map fun x => x.1.length + x.2.1.length).foldr (· + ·) 0
def aheadOK : Option (List Int) → List Int → Bool
  | none, _ => true
  | some q, k => decide (order q k < 0)
def risesFrom : Option (List Int) → List KV → Bool
  | _, [] => true
  | p, x :: l => decide ((split x.1).2.2.2 = 0) && (aheadOK p x.1 && risesFrom (some x.1) l)
theorem risesFrom_cons (p : Option (List Int)) (x : KV) (l : List KV) : risesFrom p (x :: l) = (decide ((split x.1).2.2.2 = 0) && (aheadOK p x.1 && risesFrom (some x.1) l)) := by cases p <;> rfl
def Rises (l : List KV) : Prop := risesFrom none l = true
instance (l : List KV) : Decidable (Rises l) := inferInstanceAs (Decidable (_ = _))
def risesSp : Sp := ⟨[kvl], fun _ => true, fun x => vT (Rises x.1)⟩
def behindSp : Sp := ⟨[byl, byl], fun _ => true, fun x => vT ((split x.2.1).2.2.2 = 0 ∧ (split x.1).2.2.2 = 0 ∧ order x.2.1 x.1 < 0)⟩
def few7 (l : List KV) : Prop := l.length ≤ 60 ∧ total l ≤ 5000
instance (l : List KV) : Decidable (few7 l) := inferInstanceAs (Decidable (_ ∧ _))
def fewSp : Sp := ⟨[kvl], fun _ => true, fun x => vT (few7 x.1)⟩
end
theorem getD_at {α : Type} {l : List α} {i : Nat} {d : α} (h : i < l.length) : l.getD i d = l[i] := by rw [List.getD_eq_getElem?_getD, List.getElem?_eq_getElem h]; rfl
theorem drop_at {α : Type} {l : List α} {i : Nat} {d : α} (h : i < l.length) : l.drop i = l.getD i d :: l.drop (i + 1) := by rw [getD_at h]; exact List.drop_eq_getElem_cons h
theorem take_at {α : Type} {l : List α} {i : Nat} {d : α} (h : i < l.length) : l.take (i + 1) = l.take i ++ [l.getD i d] := by rw [getD_at h]; exact List.take_succ_eq_append_getElem h
theorem total_cons (x : KV) (l : List KV) : total (x :: l) = x.1.length + x.2.1.length + total l := rfl
theorem fits_kvl {l : List KV} : Fits kvl l ↔ l.length ≤ 140737488355328 ∧ ∀ x ∈ l, Fits kv x := Iff.rfl
theorem getD_kv {l : List KV} {i : Nat} (h : Fits kvl l) (hi : i < l.length) : ((l.getD i kvd).1.length ≤ 140737488355328 ∧ Bytes (l.getD i kvd).1) ∧ (l.getD i kvd).2.1.length ≤ 140737488355328 ∧ Bytes (l.getD i kvd).2.1 := by
  rw [getD_at hi]
  have := h.2 _ (List.getElem_mem hi)
  have h1 : Fits byl (l[i]).1 := this.1
  have h2 : Fits byl (l[i]).2.1 := this.2.1
  exact ⟨⟨h1.1, fun x hx => by have := fits_u8.1 (h1.2 x hx); omega⟩, h2.1, fun x hx => by have := fits_u8.1 (h2.2 x hx); omega⟩
theorem getD_fits {t : Ty} {l : List t.den} {i : Nat} {d : t.den} (h : Fits (.li t) l) (hi : i < l.length) : Fits t (l.getD i d) := by rw [getD_at hi]; exact h.2 _ (List.getElem_mem hi)
theorem mxI {a b : Int} {h : Decidable True} : (@ite _ True h (if b > a then b else a) (if b < a then b else a)) = max a b := by
  rw [if_pos trivial]
  split <;> omega
theorem mnI {a b : Int} {h : Decidable (false = true)} : (@ite _ (false = true) h (if b > a then b else a) (if b < a then b else a)) = min a b := by
  rw [if_neg Bool.false_ne_true]
  split <;> omega
end Go.Proofs.Ytkdajonmfiipkaa.Ev
/- Blocks: what they are made of. -/
namespace Go.Proofs.Ytkdajonmfiipkaa.Ev
open Go Go.RowKit
set_option linter.unusedVariables false
def sharedL : List Int → List Int → Nat
  | a :: x, b :: y => if a = b then sharedL x y + 1 else 0
  | _, _ => 0
theorem sharedL_left (a b : List Int) : sharedL a b ≤ a.length := by
  induction a generalizing b with
  | nil => simp [sharedL]
  | cons x a ih =>
    cases b with
    | nil => simp [sharedL]
    | cons y b => simp only [sharedL, List.length_cons]; have := ih b; split <;> omega
theorem sharedL_right (a b : List Int) : sharedL a b ≤ b.length := by
  induction a generalizing b with
  | nil => simp [sharedL]
  | cons x a ih =>
    cases b with
    | nil => simp [sharedL]
    | cons y b => simp only [sharedL, List.length_cons]; have := ih b; split <;> omega
/-- an entry's bytes behind so many shared ones -/
def entB (k : Nat) (x : KV) : List Int := putS k ++ putS (x.1.length - k) ++ putS x.2.1.length ++ x.1.drop k ++ x.2.1
/-- a block's bytes from an entry on: the key ahead, how many entries lie ahead, the bytes, the restarts' places as bytes, how many they are -/
def builtGo (r : Nat) : List Int → Nat → List KV → List Int → List Int → Nat → List Int
  | _, _, [], out, tail, n => out ++ tail ++ fixedL n 4
  | p, i, x :: l, out, tail, n =>
    if i % r = 0 then builtGo r x.1 (i + 1) l (out ++ entB 0 x) (tail ++ fixedL out.length 4) (n + 1)
    else builtGo r x.1 (i + 1) l (out ++ entB (sharedL p x.1) x) tail n
def built (l : List KV) (r : Nat) : List Int := builtGo r [] 0 l [] [] 0
def keyAt (l : List KV) (i : Nat) : List Int := if i = 0 then [] else (l.getD (i - 1) kvd).1
theorem entB_length {k : Nat} {x : KV} (hx : x.1.length ≤ 140737488355328) (hy : x.2.1.length ≤ 140737488355328) (hk : k ≤ x.1.length) : (entB k x).length ≤ x.1.length + x.2.1.length + 30 := by
  have h1 := putS_length64 (n := k) (by omega)
  have h2 := putS_length64 (n := x.1.length - k) (by omega)
  have h3 := putS_length64 (n := x.2.1.length) (by omega)
  simp only [entB, List.length_append, List.length_drop]
  omega
noncomputable section
def sharedSp : Sp := ⟨[byl, byl], fun _ => true, fun x => vI (sharedL x.1 x.2.1)⟩
/-- entries that are not too many to lay down -/
def Fair (l : List KV) : Prop := l.length ≤ 1048576 ∧ total l ≤ 1073741824
instance (l : List KV) : Decidable (Fair l) := inferInstanceAs (Decidable (_ ∧ _))
def builtPre (l : List KV) (r : Int) : Bool := tst (Fair l) && tst (1 ≤ r) && tst (r ≤ 64)
def builtSp : Sp := ⟨[kvl, i64], fun x => builtPre x.1 x.2.1, fun x => vO 0 (built x.1 (Int.toNat x.2.1))⟩
def buildS (l : List KV) (r : Int) (e1 e2 : Int) : List Int × Int := if r < 1 ∨ 64 < r then ([], e1) else if Rises l then (built l r.toNat, 0) else ([], e2)
def buildPre (l : List KV) : Bool := tst (Fair l)
def buildSp : Sp := ⟨[kvl, i64], fun x => buildPre x.1, fun x => .tup [vO 0 (buildS x.1 x.2.1 71 70).1, vI (buildS x.1 x.2.1 71 70).2]⟩
end
end Go.Proofs.Ytkdajonmfiipkaa.Ev
/- Blocks built, by the program and by the document. -/
namespace Go.Proofs.Ytkdajonmfiipkaa.Ev
open Go Go.RowKit
set_option linter.unusedVariables false
set_option linter.unusedSimpArgs false
set_option maxRecDepth 100000
set_option maxHeartbeats 8000000
abbrev behindC : Ctx := ⟨rows, (fun  | _ => ([], []))⟩
theorem behind_ok (T : Tab) (h1 : T 64 = compareSp.ent) : behindSp.Ok T behindC F94 := by
  rw [on_top h1]
  rintro ⟨(a : List Int), (b : List Int), _⟩ hf _
  obtain ⟨F, hF⟩ : ∃ F : Nat, F = 1 := ⟨_, rfl⟩
  refine ⟨F, 0, ?_⟩
  show evFn _ _ _ _ _ [vB a, vB b] [] _ = some (vT ((split b).2.2.2 = 0 ∧ (split a).2.2.2 = 0 ∧ order b a < 0) : V)
  conv => lhs; whnf
  try simp (maxSteps := 2000000) (disch := omega) only [nI64, nU64, nU32, nU8, nSubL, nAddL, nAdd, nSub, nDiv, nMod, nZ, nLit, row_3, row_5, row_16, row_22, row_28, row_46, row_48, row_108, row_115, Ty.den, dflt_it, dflt_li, dflt_kv, Int.toNat_natCast, List.take_length, List.drop_zero]
  repeat' (first | (refine br_split (fun _ => ?_) (fun _ => ?_) <;> (conv => lhs; whnf) <;> (try simp (maxSteps := 2000000) (disch := omega) only [nI64, nU64, nU32, nU8, nSubL, nAddL, nAdd, nSub, nDiv, nMod, nZ, nLit, row_3, row_5, row_16, row_22, row_28, row_46, row_48, row_108, row_115, Ty.den, dflt_it, dflt_li, dflt_kv, Int.toNat_natCast, List.take_length, List.drop_zero])) | (refine br_go ?_ ?_; (focus (((repeat' first | exact rfl | exact ordB_st rfl | exact ordB_of rfl | apply band | apply tst_t | apply nt_t)  <;> (try dsimp only [Ty.den, dflt_kv]) <;> (try simp only [List.length_append, List.length_cons, List.length_nil, List.length_take, List.length_drop, List.length_replicate]) <;> (first | trivial | assumption | omega | (change (_ : Int) ≤ _; omega) | (change (_ : Int) < _; omega) | (change (_ : Nat) * 1 ≤ _; omega) | (change (_ : Nat) * 48 ≤ _; omega) | (change (_ : Nat) * 24 ≤ _; omega) | (change (_ : Nat) * 8 ≤ _; omega) | (change (_ : Nat) * 64 ≤ _; omega) | decide)); done)); (conv => lhs; whnf); (try simp (maxSteps := 2000000) (disch := omega) only [nI64, nU64, nU32, nU8, nSubL, nAddL, nAdd, nSub, nDiv, nMod, nZ, nLit, row_3, row_5, row_16, row_22, row_28, row_46, row_48, row_108, row_115, Ty.den, dflt_it, dflt_li, dflt_kv, Int.toNat_natCast, List.take_length, List.drop_zero])))
  all_goals
    unfold compareK at *
  all_goals
    (first | (refine bo_t ?_; split at * <;> omega) | (refine bo_f ?_; intro h; split at * <;> simp_all <;> omega) | (refine bo_tst ?_; split at * <;> simp_all <;> omega))
abbrev sharedC : Ctx := ⟨rows, (fun | 0 => ([0, 1, 5], [5]) | 1 => ([], [0, 1, 5]) | _ => ([], []))⟩
theorem shared_ok (T : Tab) : sharedSp.Ok T sharedC F95 := by
  rintro ⟨(a : List Int), (b : List Int), _⟩ hf _
  have ha : a.length ≤ 140737488355328 := (fits_by.1 hf.1).1
  have hb : b.length ≤ 140737488355328 := (fits_by.1 hf.2.1).1
  obtain ⟨F, hF⟩ : ∃ F : Nat, F = a.length + 1 := ⟨_, rfl⟩
  refine ⟨F, 0, ?_⟩
  show evFn _ _ _ _ _ [vB a, vB b] [] _ = some (vI (sharedL a b) : V)
  conv => lhs; whnf
  try simp (maxSteps := 2000000) (disch := omega) only [nI64, nU64, nU32, nU8, nSubL, nAddL, nAdd, nSub, nDiv, nMod, nZ, nLit, row_3, row_5, row_16, row_22, row_28, row_46, row_48, row_108, row_115, Ty.den, dflt_it, dflt_li, dflt_kv, Int.toNat_natCast, List.take_length, List.drop_zero]
  refine (loop_rule (α := Nat) (fun i => i ≤ a.length ∧ i ≤ b.length) (fun i => a.length - i)
    (fun i => (vB a :: vB b :: V.bad :: V.bad :: V.bad :: vI i :: V.bad :: V.bad :: V.bad :: V.bad :: V.bad :: V.bad :: V.bad :: V.bad :: V.bad :: V.bad :: V.bad :: V.bad :: V.bad :: V.bad :: V.bad :: V.bad :: V.bad :: V.bad :: V.bad :: V.bad :: V.bad :: V.bad :: V.bad :: V.bad :: [])) (fun i => [])
    (fun i => some (vI ((i + sharedL (a.drop i) (b.drop i) : Nat) : Int))) ?_ F 0 ⟨by omega, by omega⟩ (by omega)).trans (by simp)
  rintro i K ⟨h1, h2⟩ hK
  conv => lhs; whnf
  try simp (maxSteps := 2000000) (disch := omega) only [nI64, nU64, nU32, nU8, nSubL, nAddL, nAdd, nSub, nDiv, nMod, nZ, nLit, row_3, row_5, row_16, row_22, row_28, row_46, row_48, row_108, row_115, Ty.den, dflt_it, dflt_li, dflt_kv, Int.toNat_natCast, List.take_length, List.drop_zero]
  by_cases hi : i < a.length
  · refine br_go (tst_t (by omega)) ?_
    conv => lhs; whnf
    try simp (maxSteps := 2000000) (disch := omega) only [nI64, nU64, nU32, nU8, nSubL, nAddL, nAdd, nSub, nDiv, nMod, nZ, nLit, row_3, row_5, row_16, row_22, row_28, row_46, row_48, row_108, row_115, Ty.den, dflt_it, dflt_li, dflt_kv, Int.toNat_natCast, List.take_length, List.drop_zero]
    by_cases hj : i < b.length
    · refine br_go (tst_t (by omega)) ?_
      conv => lhs; whnf
      try simp (maxSteps := 2000000) (disch := omega) only [nI64, nU64, nU32, nU8, nSubL, nAddL, nAdd, nSub, nDiv, nMod, nZ, nLit, row_3, row_5, row_16, row_22, row_28, row_46, row_48, row_108, row_115, Ty.den, dflt_it, dflt_li, dflt_kv, Int.toNat_natCast, List.take_length, List.drop_zero]
      repeat (refine br_go ?_ ?_; (focus (((repeat' first | exact rfl | exact ordB_st rfl | exact ordB_of rfl | apply band | apply tst_t | apply nt_t)  <;> (try dsimp only [Ty.den, dflt_kv]) <;> (try simp only [List.length_append, List.length_cons, List.length_nil, List.length_take, List.length_drop, List.length_replicate]) <;> (first | trivial | assumption | omega | (change (_ : Int) ≤ _; omega) | (change (_ : Int) < _; omega) | (change (_ : Nat) * 1 ≤ _; omega) | (change (_ : Nat) * 48 ≤ _; omega) | (change (_ : Nat) * 24 ≤ _; omega) | (change (_ : Nat) * 8 ≤ _; omega) | (change (_ : Nat) * 64 ≤ _; omega) | decide)); done)); (conv => lhs; whnf); (try simp (maxSteps := 2000000) (disch := omega) only [nI64, nU64, nU32, nU8, nSubL, nAddL, nAdd, nSub, nDiv, nMod, nZ, nLit, row_3, row_5, row_16, row_22, row_28, row_46, row_48, row_108, row_115, Ty.den, dflt_it, dflt_li, dflt_kv, Int.toNat_natCast, List.take_length, List.drop_zero]))
      rw [drop_at (d := 0) hi, drop_at (d := 0) hj]
      by_cases he : a.getD i 0 = b.getD i 0
      · refine br_go (tst_t (he)) ?_
        conv => lhs; whnf
        try simp (maxSteps := 2000000) (disch := omega) only [nI64, nU64, nU32, nU8, nSubL, nAddL, nAdd, nSub, nDiv, nMod, nZ, nLit, row_3, row_5, row_16, row_22, row_28, row_46, row_48, row_108, row_115, Ty.den, dflt_it, dflt_li, dflt_kv, Int.toNat_natCast, List.take_length, List.drop_zero]
        repeat (refine br_go ?_ ?_; (focus (((repeat' first | exact rfl | exact ordB_st rfl | exact ordB_of rfl | apply band | apply tst_t | apply nt_t)  <;> (try dsimp only [Ty.den, dflt_kv]) <;> (try simp only [List.length_append, List.length_cons, List.length_nil, List.length_take, List.length_drop, List.length_replicate]) <;> (first | trivial | assumption | omega | (change (_ : Int) ≤ _; omega) | (change (_ : Int) < _; omega) | (change (_ : Nat) * 1 ≤ _; omega) | (change (_ : Nat) * 48 ≤ _; omega) | (change (_ : Nat) * 24 ≤ _; omega) | (change (_ : Nat) * 8 ≤ _; omega) | (change (_ : Nat) * 64 ≤ _; omega) | decide)); done)); (conv => lhs; whnf); (try simp (maxSteps := 2000000) (disch := omega) only [nI64, nU64, nU32, nU8, nSubL, nAddL, nAdd, nSub, nDiv, nMod, nZ, nLit, row_3, row_5, row_16, row_22, row_28, row_46, row_48, row_108, row_115, Ty.den, dflt_it, dflt_li, dflt_kv, Int.toNat_natCast, List.take_length, List.drop_zero]))
        refine (hK (i + 1) ⟨by omega, by omega⟩ (by omega)).trans ?_
        rw [sharedL, if_pos he]
        exact congrArg (fun z : Nat => some (vI (z : Int))) (by omega)
      · refine br_no (tst_f (he)) ?_
        conv => lhs; whnf
        try simp (maxSteps := 2000000) (disch := omega) only [nI64, nU64, nU32, nU8, nSubL, nAddL, nAdd, nSub, nDiv, nMod, nZ, nLit, row_3, row_5, row_16, row_22, row_28, row_46, row_48, row_108, row_115, Ty.den, dflt_it, dflt_li, dflt_kv, Int.toNat_natCast, List.take_length, List.drop_zero]
        repeat (refine br_go ?_ ?_; (focus (((repeat' first | exact rfl | exact ordB_st rfl | exact ordB_of rfl | apply band | apply tst_t | apply nt_t)  <;> (try dsimp only [Ty.den, dflt_kv]) <;> (try simp only [List.length_append, List.length_cons, List.length_nil, List.length_take, List.length_drop, List.length_replicate]) <;> (first | trivial | assumption | omega | (change (_ : Int) ≤ _; omega) | (change (_ : Int) < _; omega) | (change (_ : Nat) * 1 ≤ _; omega) | (change (_ : Nat) * 48 ≤ _; omega) | (change (_ : Nat) * 24 ≤ _; omega) | (change (_ : Nat) * 8 ≤ _; omega) | (change (_ : Nat) * 64 ≤ _; omega) | decide)); done)); (conv => lhs; whnf); (try simp (maxSteps := 2000000) (disch := omega) only [nI64, nU64, nU32, nU8, nSubL, nAddL, nAdd, nSub, nDiv, nMod, nZ, nLit, row_3, row_5, row_16, row_22, row_28, row_46, row_48, row_108, row_115, Ty.den, dflt_it, dflt_li, dflt_kv, Int.toNat_natCast, List.take_length, List.drop_zero]))
        rw [sharedL, if_neg he]
        rfl
    · refine br_no (tst_f (by omega)) ?_
      conv => lhs; whnf
      try simp (maxSteps := 2000000) (disch := omega) only [nI64, nU64, nU32, nU8, nSubL, nAddL, nAdd, nSub, nDiv, nMod, nZ, nLit, row_3, row_5, row_16, row_22, row_28, row_46, row_48, row_108, row_115, Ty.den, dflt_it, dflt_li, dflt_kv, Int.toNat_natCast, List.take_length, List.drop_zero]
      repeat (refine br_go ?_ ?_; (focus (((repeat' first | exact rfl | exact ordB_st rfl | exact ordB_of rfl | apply band | apply tst_t | apply nt_t)  <;> (try dsimp only [Ty.den, dflt_kv]) <;> (try simp only [List.length_append, List.length_cons, List.length_nil, List.length_take, List.length_drop, List.length_replicate]) <;> (first | trivial | assumption | omega | (change (_ : Int) ≤ _; omega) | (change (_ : Int) < _; omega) | (change (_ : Nat) * 1 ≤ _; omega) | (change (_ : Nat) * 48 ≤ _; omega) | (change (_ : Nat) * 24 ≤ _; omega) | (change (_ : Nat) * 8 ≤ _; omega) | (change (_ : Nat) * 64 ≤ _; omega) | decide)); done)); (conv => lhs; whnf); (try simp (maxSteps := 2000000) (disch := omega) only [nI64, nU64, nU32, nU8, nSubL, nAddL, nAdd, nSub, nDiv, nMod, nZ, nLit, row_3, row_5, row_16, row_22, row_28, row_46, row_48, row_108, row_115, Ty.den, dflt_it, dflt_li, dflt_kv, Int.toNat_natCast, List.take_length, List.drop_zero]))
      rw [drop_at (d := 0) hi, List.drop_eq_nil_of_le (by omega : b.length ≤ i)]
      rfl
  · refine br_no (tst_f (by omega)) ?_
    conv => lhs; whnf
    try simp (maxSteps := 2000000) (disch := omega) only [nI64, nU64, nU32, nU8, nSubL, nAddL, nAdd, nSub, nDiv, nMod, nZ, nLit, row_3, row_5, row_16, row_22, row_28, row_46, row_48, row_108, row_115, Ty.den, dflt_it, dflt_li, dflt_kv, Int.toNat_natCast, List.take_length, List.drop_zero]
    repeat (refine br_go ?_ ?_; (focus (((repeat' first | exact rfl | exact ordB_st rfl | exact ordB_of rfl | apply band | apply tst_t | apply nt_t)  <;> (try dsimp only [Ty.den, dflt_kv]) <;> (try simp only [List.length_append, List.length_cons, List.length_nil, List.length_take, List.length_drop, List.length_replicate]) <;> (first | trivial | assumption | omega | (change (_ : Int) ≤ _; omega) | (change (_ : Int) < _; omega) | (change (_ : Nat) * 1 ≤ _; omega) | (change (_ : Nat) * 48 ≤ _; omega) | (change (_ : Nat) * 24 ≤ _; omega) | (change (_ : Nat) * 8 ≤ _; omega) | (change (_ : Nat) * 64 ≤ _; omega) | decide)); done)); (conv => lhs; whnf); (try simp (maxSteps := 2000000) (disch := omega) only [nI64, nU64, nU32, nU8, nSubL, nAddL, nAdd, nSub, nDiv, nMod, nZ, nLit, row_3, row_5, row_16, row_22, row_28, row_46, row_48, row_108, row_115, Ty.den, dflt_it, dflt_li, dflt_kv, Int.toNat_natCast, List.take_length, List.drop_zero]))
    rw [List.drop_eq_nil_of_le (by omega : a.length ≤ i)]
    rfl
abbrev rsharedC : Ctx := ⟨rows, (fun | 0 => ([0, 1, 5], [5]) | 1 => ([], [0, 1, 5]) | _ => ([], []))⟩
theorem rshared_ok (T : Tab) : sharedSp.Ok T rsharedC F78 := by
  rintro ⟨(a : List Int), (b : List Int), _⟩ hf _
  have ha : a.length ≤ 140737488355328 := (fits_by.1 hf.1).1
  have hb : b.length ≤ 140737488355328 := (fits_by.1 hf.2.1).1
  obtain ⟨F, hF⟩ : ∃ F : Nat, F = a.length + 1 := ⟨_, rfl⟩
  refine ⟨F, 0, ?_⟩
  show evFn _ _ _ _ _ [vB a, vB b] [] _ = some (vI (sharedL a b) : V)
  conv => lhs; whnf
  try simp (maxSteps := 2000000) (disch := omega) only [nI64, nU64, nU32, nU8, nSubL, nAddL, nAdd, nSub, nDiv, nMod, nZ, nLit, row_3, row_5, row_16, row_22, row_28, row_46, row_48, row_108, row_115, Ty.den, dflt_it, dflt_li, dflt_kv, Int.toNat_natCast, List.take_length, List.drop_zero]
  refine (loop_rule (α := Nat) (fun i => i ≤ a.length ∧ i ≤ b.length) (fun i => a.length - i)
    (fun i => (vB a :: vB b :: V.bad :: V.bad :: V.bad :: vI i :: V.bad :: V.bad :: V.bad :: V.bad :: V.bad :: V.bad :: V.bad :: V.bad :: V.bad :: V.bad :: V.bad :: V.bad :: V.bad :: V.bad :: V.bad :: V.bad :: V.bad :: V.bad :: V.bad :: V.bad :: V.bad :: V.bad :: V.bad :: V.bad :: [])) (fun i => [])
    (fun i => some (vI ((i + sharedL (a.drop i) (b.drop i) : Nat) : Int))) ?_ F 0 ⟨by omega, by omega⟩ (by omega)).trans (by simp)
  rintro i K ⟨h1, h2⟩ hK
  conv => lhs; whnf
  try simp (maxSteps := 2000000) (disch := omega) only [nI64, nU64, nU32, nU8, nSubL, nAddL, nAdd, nSub, nDiv, nMod, nZ, nLit, row_3, row_5, row_16, row_22, row_28, row_46, row_48, row_108, row_115, Ty.den, dflt_it, dflt_li, dflt_kv, Int.toNat_natCast, List.take_length, List.drop_zero]
  by_cases hi : i < a.length
  · refine br_go (tst_t (by omega)) ?_
    conv => lhs; whnf
    try simp (maxSteps := 2000000) (disch := omega) only [nI64, nU64, nU32, nU8, nSubL, nAddL, nAdd, nSub, nDiv, nMod, nZ, nLit, row_3, row_5, row_16, row_22, row_28, row_46, row_48, row_108, row_115, Ty.den, dflt_it, dflt_li, dflt_kv, Int.toNat_natCast, List.take_length, List.drop_zero]
    by_cases hj : i < b.length
    · refine br_go (tst_t (by omega)) ?_
      conv => lhs; whnf
      try simp (maxSteps := 2000000) (disch := omega) only [nI64, nU64, nU32, nU8, nSubL, nAddL, nAdd, nSub, nDiv, nMod, nZ, nLit, row_3, row_5, row_16, row_22, row_28, row_46, row_48, row_108, row_115, Ty.den, dflt_it, dflt_li, dflt_kv, Int.toNat_natCast, List.take_length, List.drop_zero]
      repeat (refine br_go ?_ ?_; (focus (((repeat' first | exact rfl | exact ordB_st rfl | exact ordB_of rfl | apply band | apply tst_t | apply nt_t)  <;> (try dsimp only [Ty.den, dflt_kv]) <;> (try simp only [List.length_append, List.length_cons, List.length_nil, List.length_take, List.length_drop, List.length_replicate]) <;> (first | trivial | assumption | omega | (change (_ : Int) ≤ _; omega) | (change (_ : Int) < _; omega) | (change (_ : Nat) * 1 ≤ _; omega) | (change (_ : Nat) * 48 ≤ _; omega) | (change (_ : Nat) * 24 ≤ _; omega) | (change (_ : Nat) * 8 ≤ _; omega) | (change (_ : Nat) * 64 ≤ _; omega) | decide)); done)); (conv => lhs; whnf); (try simp (maxSteps := 2000000) (disch := omega) only [nI64, nU64, nU32, nU8, nSubL, nAddL, nAdd, nSub, nDiv, nMod, nZ, nLit, row_3, row_5, row_16, row_22, row_28, row_46, row_48, row_108, row_115, Ty.den, dflt_it, dflt_li, dflt_kv, Int.toNat_natCast, List.take_length, List.drop_zero]))
      rw [drop_at (d := 0) hi, drop_at (d := 0) hj]
      by_cases he : a.getD i 0 = b.getD i 0
      · refine br_go (tst_t (he)) ?_
        conv => lhs; whnf
        try simp (maxSteps := 2000000) (disch := omega) only [nI64, nU64, nU32, nU8, nSubL, nAddL, nAdd, nSub, nDiv, nMod, nZ, nLit, row_3, row_5, row_16, row_22, row_28, row_46, row_48, row_108, row_115, Ty.den, dflt_it, dflt_li, dflt_kv, Int.toNat_natCast, List.take_length, List.drop_zero]
        repeat (refine br_go ?_ ?_; (focus (((repeat' first | exact rfl | exact ordB_st rfl | exact ordB_of rfl | apply band | apply tst_t | apply nt_t)  <;> (try dsimp only [Ty.den, dflt_kv]) <;> (try simp only [List.length_append, List.length_cons, List.length_nil, List.length_take, List.length_drop, List.length_replicate]) <;> (first | trivial | assumption | omega | (change (_ : Int) ≤ _; omega) | (change (_ : Int) < _; omega) | (change (_ : Nat) * 1 ≤ _; omega) | (change (_ : Nat) * 48 ≤ _; omega) | (change (_ : Nat) * 24 ≤ _; omega) | (change (_ : Nat) * 8 ≤ _; omega) | (change (_ : Nat) * 64 ≤ _; omega) | decide)); done)); (conv => lhs; whnf); (try simp (maxSteps := 2000000) (disch := omega) only [nI64, nU64, nU32, nU8, nSubL, nAddL, nAdd, nSub, nDiv, nMod, nZ, nLit, row_3, row_5, row_16, row_22, row_28, row_46, row_48, row_108, row_115, Ty.den, dflt_it, dflt_li, dflt_kv, Int.toNat_natCast, List.take_length, List.drop_zero]))
        refine (hK (i + 1) ⟨by omega, by omega⟩ (by omega)).trans ?_
        rw [sharedL, if_pos he]
        exact congrArg (fun z : Nat => some (vI (z : Int))) (by omega)
      · refine br_no (tst_f (he)) ?_
        conv => lhs; whnf
        try simp (maxSteps := 2000000) (disch := omega) only [nI64, nU64, nU32, nU8, nSubL, nAddL, nAdd, nSub, nDiv, nMod, nZ, nLit, row_3, row_5, row_16, row_22, row_28, row_46, row_48, row_108, row_115, Ty.den, dflt_it, dflt_li, dflt_kv, Int.toNat_natCast, List.take_length, List.drop_zero]
        repeat (refine br_go ?_ ?_; (focus (((repeat' first | exact rfl | exact ordB_st rfl | exact ordB_of rfl | apply band | apply tst_t | apply nt_t)  <;> (try dsimp only [Ty.den, dflt_kv]) <;> (try simp only [List.length_append, List.length_cons, List.length_nil, List.length_take, List.length_drop, List.length_replicate]) <;> (first | trivial | assumption | omega | (change (_ : Int) ≤ _; omega) | (change (_ : Int) < _; omega) | (change (_ : Nat) * 1 ≤ _; omega) | (change (_ : Nat) * 48 ≤ _; omega) | (change (_ : Nat) * 24 ≤ _; omega) | (change (_ : Nat) * 8 ≤ _; omega) | (change (_ : Nat) * 64 ≤ _; omega) | decide)); done)); (conv => lhs; whnf); (try simp (maxSteps := 2000000) (disch := omega) only [nI64, nU64, nU32, nU8, nSubL, nAddL, nAdd, nSub, nDiv, nMod, nZ, nLit, row_3, row_5, row_16, row_22, row_28, row_46, row_48, row_108, row_115, Ty.den, dflt_it, dflt_li, dflt_kv, Int.toNat_natCast, List.take_length, List.drop_zero]))
        rw [sharedL, if_neg he]
        rfl
    · refine br_no (tst_f (by omega)) ?_
      conv => lhs; whnf
      try simp (maxSteps := 2000000) (disch := omega) only [nI64, nU64, nU32, nU8, nSubL, nAddL, nAdd, nSub, nDiv, nMod, nZ, nLit, row_3, row_5, row_16, row_22, row_28, row_46, row_48, row_108, row_115, Ty.den, dflt_it, dflt_li, dflt_kv, Int.toNat_natCast, List.take_length, List.drop_zero]
      repeat (refine br_go ?_ ?_; (focus (((repeat' first | exact rfl | exact ordB_st rfl | exact ordB_of rfl | apply band | apply tst_t | apply nt_t)  <;> (try dsimp only [Ty.den, dflt_kv]) <;> (try simp only [List.length_append, List.length_cons, List.length_nil, List.length_take, List.length_drop, List.length_replicate]) <;> (first | trivial | assumption | omega | (change (_ : Int) ≤ _; omega) | (change (_ : Int) < _; omega) | (change (_ : Nat) * 1 ≤ _; omega) | (change (_ : Nat) * 48 ≤ _; omega) | (change (_ : Nat) * 24 ≤ _; omega) | (change (_ : Nat) * 8 ≤ _; omega) | (change (_ : Nat) * 64 ≤ _; omega) | decide)); done)); (conv => lhs; whnf); (try simp (maxSteps := 2000000) (disch := omega) only [nI64, nU64, nU32, nU8, nSubL, nAddL, nAdd, nSub, nDiv, nMod, nZ, nLit, row_3, row_5, row_16, row_22, row_28, row_46, row_48, row_108, row_115, Ty.den, dflt_it, dflt_li, dflt_kv, Int.toNat_natCast, List.take_length, List.drop_zero]))
      rw [drop_at (d := 0) hi, List.drop_eq_nil_of_le (by omega : b.length ≤ i)]
      rfl
  · refine br_no (tst_f (by omega)) ?_
    conv => lhs; whnf
    try simp (maxSteps := 2000000) (disch := omega) only [nI64, nU64, nU32, nU8, nSubL, nAddL, nAdd, nSub, nDiv, nMod, nZ, nLit, row_3, row_5, row_16, row_22, row_28, row_46, row_48, row_108, row_115, Ty.den, dflt_it, dflt_li, dflt_kv, Int.toNat_natCast, List.take_length, List.drop_zero]
    repeat (refine br_go ?_ ?_; (focus (((repeat' first | exact rfl | exact ordB_st rfl | exact ordB_of rfl | apply band | apply tst_t | apply nt_t)  <;> (try dsimp only [Ty.den, dflt_kv]) <;> (try simp only [List.length_append, List.length_cons, List.length_nil, List.length_take, List.length_drop, List.length_replicate]) <;> (first | trivial | assumption | omega | (change (_ : Int) ≤ _; omega) | (change (_ : Int) < _; omega) | (change (_ : Nat) * 1 ≤ _; omega) | (change (_ : Nat) * 48 ≤ _; omega) | (change (_ : Nat) * 24 ≤ _; omega) | (change (_ : Nat) * 8 ≤ _; omega) | (change (_ : Nat) * 64 ≤ _; omega) | decide)); done)); (conv => lhs; whnf); (try simp (maxSteps := 2000000) (disch := omega) only [nI64, nU64, nU32, nU8, nSubL, nAddL, nAdd, nSub, nDiv, nMod, nZ, nLit, row_3, row_5, row_16, row_22, row_28, row_46, row_48, row_108, row_115, Ty.den, dflt_it, dflt_li, dflt_kv, Int.toNat_natCast, List.take_length, List.drop_zero]))
    rw [List.drop_eq_nil_of_le (by omega : a.length ≤ i)]
    rfl
abbrev risesC : Ctx := ⟨rows, (fun | 0 => ([0, 3], []) | 1 => ([], [0, 3]) | _ => ([], []))⟩
def prevOf (l : List KV) (i : Nat) : Option (List Int) := if i = 0 then none else some (l.getD (i - 1) kvd).1
theorem prevOf_succ (l : List KV) (i : Nat) : prevOf l (i + 1) = some (l.getD i kvd).1 := by rw [prevOf, if_neg (by omega)]; rfl
theorem rises_ok (T : Tab) (h1 : T 76 = isSp.ent) (h2 : T 77 = orderSp.ent) : risesSp.Ok T risesC F39 := by
  rw [on_top h1, on_top h2]
  rintro ⟨(l : List KV), _⟩ hf _
  have hl : l.length ≤ 140737488355328 := (fits_kvl.1 hf.1).1
  obtain ⟨F, hF⟩ : ∃ F : Nat, F = l.length + 1 := ⟨_, rfl⟩
  refine ⟨F, 0, ?_⟩
  show evFn _ _ _ _ _ [vK l] [] _ = some (vT (Rises l) : V)
  conv => lhs; whnf
  try simp (maxSteps := 2000000) (disch := omega) only [nI64, nU64, nU32, nU8, nSubL, nAddL, nAdd, nSub, nDiv, nMod, nZ, nLit, row_3, row_5, row_16, row_22, row_28, row_46, row_48, row_108, row_115, Ty.den, dflt_it, dflt_li, dflt_kv, Int.toNat_natCast, List.take_length, List.drop_zero]
  refine (loop_rule (α := Nat) (fun i => i ≤ l.length) (fun i => l.length - i)
    (fun i => (vK l :: V.bad :: V.bad :: vI i :: V.bad :: V.bad :: V.bad :: V.bad :: V.bad :: V.bad :: V.bad :: V.bad :: V.bad :: V.bad :: V.bad :: V.bad :: V.bad :: V.bad :: V.bad :: V.bad :: V.bad :: V.bad :: V.bad :: V.bad :: V.bad :: V.bad :: V.bad :: V.bad :: V.bad :: V.bad :: V.bad :: V.bad :: V.bad :: V.bad :: V.bad :: V.bad :: [])) (fun i => [])
    (fun i => some (vT (risesFrom (prevOf l i) (l.drop i) = true))) ?_ F 0 (by omega) (by omega))
  rintro i K h1 hK
  conv => lhs; whnf
  try simp (maxSteps := 2000000) (disch := omega) only [nI64, nU64, nU32, nU8, nSubL, nAddL, nAdd, nSub, nDiv, nMod, nZ, nLit, row_3, row_5, row_16, row_22, row_28, row_46, row_48, row_108, row_115, Ty.den, dflt_it, dflt_li, dflt_kv, Int.toNat_natCast, List.take_length, List.drop_zero]
  by_cases hi : i < l.length
  · refine br_go (tst_t (by omega)) ?_
    conv => lhs; whnf
    try simp (maxSteps := 2000000) (disch := omega) only [nI64, nU64, nU32, nU8, nSubL, nAddL, nAdd, nSub, nDiv, nMod, nZ, nLit, row_3, row_5, row_16, row_22, row_28, row_46, row_48, row_108, row_115, Ty.den, dflt_it, dflt_li, dflt_kv, Int.toNat_natCast, List.take_length, List.drop_zero]
    repeat (refine br_go ?_ ?_; (focus (((repeat' first | exact rfl | exact ordB_st rfl | exact ordB_of rfl | apply band | apply tst_t | apply nt_t)  <;> (try dsimp only [Ty.den, dflt_kv]) <;> (try simp only [List.length_append, List.length_cons, List.length_nil, List.length_take, List.length_drop, List.length_replicate]) <;> (first | trivial | assumption | omega | (change (_ : Int) ≤ _; omega) | (change (_ : Int) < _; omega) | (change (_ : Nat) * 1 ≤ _; omega) | (change (_ : Nat) * 48 ≤ _; omega) | (change (_ : Nat) * 24 ≤ _; omega) | (change (_ : Nat) * 8 ≤ _; omega) | (change (_ : Nat) * 64 ≤ _; omega) | decide)); done)); (conv => lhs; whnf); (try simp (maxSteps := 2000000) (disch := omega) only [nI64, nU64, nU32, nU8, nSubL, nAddL, nAdd, nSub, nDiv, nMod, nZ, nLit, row_3, row_5, row_16, row_22, row_28, row_46, row_48, row_108, row_115, Ty.den, dflt_it, dflt_li, dflt_kv, Int.toNat_natCast, List.take_length, List.drop_zero]))
    rw [drop_at (d := kvd) hi]
    by_cases ho : (split (l.getD i kvd).1).2.2.2 = 0
    · refine br_no (nt_f ho) ?_
      conv => lhs; whnf
      try simp (maxSteps := 2000000) (disch := omega) only [nI64, nU64, nU32, nU8, nSubL, nAddL, nAdd, nSub, nDiv, nMod, nZ, nLit, row_3, row_5, row_16, row_22, row_28, row_46, row_48, row_108, row_115, Ty.den, dflt_it, dflt_li, dflt_kv, Int.toNat_natCast, List.take_length, List.drop_zero]
      by_cases h0 : i = 0
      · refine br_no (tst_f (by omega)) ?_
        conv => lhs; whnf
        try simp (maxSteps := 2000000) (disch := omega) only [nI64, nU64, nU32, nU8, nSubL, nAddL, nAdd, nSub, nDiv, nMod, nZ, nLit, row_3, row_5, row_16, row_22, row_28, row_46, row_48, row_108, row_115, Ty.den, dflt_it, dflt_li, dflt_kv, Int.toNat_natCast, List.take_length, List.drop_zero]
        repeat (refine br_go ?_ ?_; (focus (((repeat' first | exact rfl | exact ordB_st rfl | exact ordB_of rfl | apply band | apply tst_t | apply nt_t)  <;> (try dsimp only [Ty.den, dflt_kv]) <;> (try simp only [List.length_append, List.length_cons, List.length_nil, List.length_take, List.length_drop, List.length_replicate]) <;> (first | trivial | assumption | omega | (change (_ : Int) ≤ _; omega) | (change (_ : Int) < _; omega) | (change (_ : Nat) * 1 ≤ _; omega) | (change (_ : Nat) * 48 ≤ _; omega) | (change (_ : Nat) * 24 ≤ _; omega) | (change (_ : Nat) * 8 ≤ _; omega) | (change (_ : Nat) * 64 ≤ _; omega) | decide)); done)); (conv => lhs; whnf); (try simp (maxSteps := 2000000) (disch := omega) only [nI64, nU64, nU32, nU8, nSubL, nAddL, nAdd, nSub, nDiv, nMod, nZ, nLit, row_3, row_5, row_16, row_22, row_28, row_46, row_48, row_108, row_115, Ty.den, dflt_it, dflt_li, dflt_kv, Int.toNat_natCast, List.take_length, List.drop_zero]))
        subst h0
        refine (hK 1 (by omega) (by omega)).trans (bo_tst ?_)
        rw [risesFrom_cons, decide_eq_true ho, prevOf_succ, show prevOf l 0 = none from rfl, aheadOK, Bool.true_and, Bool.true_and]
      · refine br_go (tst_t (by omega)) ?_
        conv => lhs; whnf
        try simp (maxSteps := 2000000) (disch := omega) only [nI64, nU64, nU32, nU8, nSubL, nAddL, nAdd, nSub, nDiv, nMod, nZ, nLit, row_3, row_5, row_16, row_22, row_28, row_46, row_48, row_108, row_115, Ty.den, dflt_it, dflt_li, dflt_kv, Int.toNat_natCast, List.take_length, List.drop_zero]
        repeat (refine br_go ?_ ?_; (focus (((repeat' first | exact rfl | exact ordB_st rfl | exact ordB_of rfl | apply band | apply tst_t | apply nt_t)  <;> (try dsimp only [Ty.den, dflt_kv]) <;> (try simp only [List.length_append, List.length_cons, List.length_nil, List.length_take, List.length_drop, List.length_replicate]) <;> (first | trivial | assumption | omega | (change (_ : Int) ≤ _; omega) | (change (_ : Int) < _; omega) | (change (_ : Nat) * 1 ≤ _; omega) | (change (_ : Nat) * 48 ≤ _; omega) | (change (_ : Nat) * 24 ≤ _; omega) | (change (_ : Nat) * 8 ≤ _; omega) | (change (_ : Nat) * 64 ≤ _; omega) | decide)); done)); (conv => lhs; whnf); (try simp (maxSteps := 2000000) (disch := omega) only [nI64, nU64, nU32, nU8, nSubL, nAddL, nAdd, nSub, nDiv, nMod, nZ, nLit, row_3, row_5, row_16, row_22, row_28, row_46, row_48, row_108, row_115, Ty.den, dflt_it, dflt_li, dflt_kv, Int.toNat_natCast, List.take_length, List.drop_zero]))
        have hp : prevOf l i = some (l.getD (i - 1) kvd).1 := if_neg h0
        rw [hp, risesFrom_cons, decide_eq_true ho, aheadOK]
        by_cases hc : order (l.getD (i - 1) kvd).1 (l.getD i kvd).1 ≥ 0
        · refine br_go (tst_t (hc)) ?_
          conv => lhs; whnf
          try simp (maxSteps := 2000000) (disch := omega) only [nI64, nU64, nU32, nU8, nSubL, nAddL, nAdd, nSub, nDiv, nMod, nZ, nLit, row_3, row_5, row_16, row_22, row_28, row_46, row_48, row_108, row_115, Ty.den, dflt_it, dflt_li, dflt_kv, Int.toNat_natCast, List.take_length, List.drop_zero]
          exact bo_f (by rw [decide_eq_false (by omega)]; simp only [Bool.false_and, Bool.and_false, Bool.false_eq_true, not_false_eq_true])
        · refine br_no (tst_f (hc)) ?_
          conv => lhs; whnf
          try simp (maxSteps := 2000000) (disch := omega) only [nI64, nU64, nU32, nU8, nSubL, nAddL, nAdd, nSub, nDiv, nMod, nZ, nLit, row_3, row_5, row_16, row_22, row_28, row_46, row_48, row_108, row_115, Ty.den, dflt_it, dflt_li, dflt_kv, Int.toNat_natCast, List.take_length, List.drop_zero]
          refine (hK (i + 1) (by omega) (by omega)).trans (bo_tst ?_)
          rw [prevOf_succ, decide_eq_true (by omega : order (l.getD (i - 1) kvd).1 (l.getD i kvd).1 < 0), Bool.true_and, Bool.true_and]
    · refine br_go (nt_t ho) ?_
      conv => lhs; whnf
      try simp (maxSteps := 2000000) (disch := omega) only [nI64, nU64, nU32, nU8, nSubL, nAddL, nAdd, nSub, nDiv, nMod, nZ, nLit, row_3, row_5, row_16, row_22, row_28, row_46, row_48, row_108, row_115, Ty.den, dflt_it, dflt_li, dflt_kv, Int.toNat_natCast, List.take_length, List.drop_zero]
      repeat (refine br_go ?_ ?_; (focus (((repeat' first | exact rfl | exact ordB_st rfl | exact ordB_of rfl | apply band | apply tst_t | apply nt_t)  <;> (try dsimp only [Ty.den, dflt_kv]) <;> (try simp only [List.length_append, List.length_cons, List.length_nil, List.length_take, List.length_drop, List.length_replicate]) <;> (first | trivial | assumption | omega | (change (_ : Int) ≤ _; omega) | (change (_ : Int) < _; omega) | (change (_ : Nat) * 1 ≤ _; omega) | (change (_ : Nat) * 48 ≤ _; omega) | (change (_ : Nat) * 24 ≤ _; omega) | (change (_ : Nat) * 8 ≤ _; omega) | (change (_ : Nat) * 64 ≤ _; omega) | decide)); done)); (conv => lhs; whnf); (try simp (maxSteps := 2000000) (disch := omega) only [nI64, nU64, nU32, nU8, nSubL, nAddL, nAdd, nSub, nDiv, nMod, nZ, nLit, row_3, row_5, row_16, row_22, row_28, row_46, row_48, row_108, row_115, Ty.den, dflt_it, dflt_li, dflt_kv, Int.toNat_natCast, List.take_length, List.drop_zero]))
      exact bo_f (by rw [risesFrom_cons, decide_eq_false ho]; simp only [Bool.false_and, Bool.false_eq_true, not_false_eq_true])
  · refine br_no (tst_f (by omega)) ?_
    conv => lhs; whnf
    try simp (maxSteps := 2000000) (disch := omega) only [nI64, nU64, nU32, nU8, nSubL, nAddL, nAdd, nSub, nDiv, nMod, nZ, nLit, row_3, row_5, row_16, row_22, row_28, row_46, row_48, row_108, row_115, Ty.den, dflt_it, dflt_li, dflt_kv, Int.toNat_natCast, List.take_length, List.drop_zero]
    repeat (refine br_go ?_ ?_; (focus (((repeat' first | exact rfl | exact ordB_st rfl | exact ordB_of rfl | apply band | apply tst_t | apply nt_t)  <;> (try dsimp only [Ty.den, dflt_kv]) <;> (try simp only [List.length_append, List.length_cons, List.length_nil, List.length_take, List.length_drop, List.length_replicate]) <;> (first | trivial | assumption | omega | (change (_ : Int) ≤ _; omega) | (change (_ : Int) < _; omega) | (change (_ : Nat) * 1 ≤ _; omega) | (change (_ : Nat) * 48 ≤ _; omega) | (change (_ : Nat) * 24 ≤ _; omega) | (change (_ : Nat) * 8 ≤ _; omega) | (change (_ : Nat) * 64 ≤ _; omega) | decide)); done)); (conv => lhs; whnf); (try simp (maxSteps := 2000000) (disch := omega) only [nI64, nU64, nU32, nU8, nSubL, nAddL, nAdd, nSub, nDiv, nMod, nZ, nLit, row_3, row_5, row_16, row_22, row_28, row_46, row_48, row_108, row_115, Ty.den, dflt_it, dflt_li, dflt_kv, Int.toNat_natCast, List.take_length, List.drop_zero]))
    exact bo_t (by rw [List.drop_eq_nil_of_le (by omega : l.length ≤ i)]; rfl)
abbrev brightC : Ctx := ⟨rows, (fun | 0 => ([0, 9, 10, 11], []) | 1 => ([], [0, 9, 10, 11]) | _ => ([], []))⟩
theorem bright_ok (T : Tab) (h1 : T 66 = splitSp.ent) (h2 : T 94 = behindSp.ent) : risesSp.Ok T brightC F69 := by
  rw [on_top h1, on_top h2]
  rintro ⟨(l : List KV), _⟩ hf _
  have hl : l.length ≤ 140737488355328 := (fits_kvl.1 hf.1).1
  obtain ⟨F, hF⟩ : ∃ F : Nat, F = l.length + 1 := ⟨_, rfl⟩
  refine ⟨F, 0, ?_⟩
  show evFn _ _ _ _ _ [vK l] [] _ = some (vT (Rises l) : V)
  conv => lhs; whnf
  try simp (maxSteps := 2000000) (disch := omega) only [nI64, nU64, nU32, nU8, nSubL, nAddL, nAdd, nSub, nDiv, nMod, nZ, nLit, row_3, row_5, row_16, row_22, row_28, row_46, row_48, row_108, row_115, Ty.den, dflt_it, dflt_li, dflt_kv, Int.toNat_natCast, List.take_length, List.drop_zero]
  refine (loop_rule (α := Nat) (fun i => i ≤ l.length ∧ (0 < i → (split (l.getD (i - 1) kvd).1).2.2.2 = 0)) (fun i => l.length - i)
    (fun i => (vK l :: V.bad :: V.bad :: V.bad :: V.bad :: V.bad :: V.bad :: V.bad :: V.bad :: vK l :: vI l.length :: vI i :: V.bad :: V.bad :: V.bad :: V.bad :: V.bad :: V.bad :: V.bad :: V.bad :: V.bad :: V.bad :: V.bad :: V.bad :: V.bad :: V.bad :: V.bad :: V.bad :: V.bad :: V.bad :: V.bad :: V.bad :: V.bad :: V.bad :: V.bad :: V.bad :: V.bad :: V.bad :: V.bad :: V.bad :: V.bad :: V.bad :: V.bad :: [])) (fun i => [.gone])
    (fun i => some (vT (risesFrom (prevOf l i) (l.drop i) = true))) ?_ F 0 ⟨by omega, by omega⟩ (by omega))
  rintro i K ⟨h1, h4⟩ hK
  conv => lhs; whnf
  try simp (maxSteps := 2000000) (disch := omega) only [nI64, nU64, nU32, nU8, nSubL, nAddL, nAdd, nSub, nDiv, nMod, nZ, nLit, row_3, row_5, row_16, row_22, row_28, row_46, row_48, row_108, row_115, Ty.den, dflt_it, dflt_li, dflt_kv, Int.toNat_natCast, List.take_length, List.drop_zero]
  by_cases hi : i < l.length
  · refine br_go (tst_t (by omega)) ?_
    conv => lhs; whnf
    try simp (maxSteps := 2000000) (disch := omega) only [nI64, nU64, nU32, nU8, nSubL, nAddL, nAdd, nSub, nDiv, nMod, nZ, nLit, row_3, row_5, row_16, row_22, row_28, row_46, row_48, row_108, row_115, Ty.den, dflt_it, dflt_li, dflt_kv, Int.toNat_natCast, List.take_length, List.drop_zero]
    repeat (refine br_go ?_ ?_; (focus (((repeat' first | exact rfl | exact ordB_st rfl | exact ordB_of rfl | apply band | apply tst_t | apply nt_t)  <;> (try dsimp only [Ty.den, dflt_kv]) <;> (try simp only [List.length_append, List.length_cons, List.length_nil, List.length_take, List.length_drop, List.length_replicate]) <;> (first | trivial | assumption | omega | (change (_ : Int) ≤ _; omega) | (change (_ : Int) < _; omega) | (change (_ : Nat) * 1 ≤ _; omega) | (change (_ : Nat) * 48 ≤ _; omega) | (change (_ : Nat) * 24 ≤ _; omega) | (change (_ : Nat) * 8 ≤ _; omega) | (change (_ : Nat) * 64 ≤ _; omega) | decide)); done)); (conv => lhs; whnf); (try simp (maxSteps := 2000000) (disch := omega) only [nI64, nU64, nU32, nU8, nSubL, nAddL, nAdd, nSub, nDiv, nMod, nZ, nLit, row_3, row_5, row_16, row_22, row_28, row_46, row_48, row_108, row_115, Ty.den, dflt_it, dflt_li, dflt_kv, Int.toNat_natCast, List.take_length, List.drop_zero]))
    rw [drop_at (d := kvd) hi]
    by_cases ho : (split (l.getD i kvd).1).2.2.2 = 0
    · refine br_no (tst_f (by simpa using ho)) ?_
      conv => lhs; whnf
      try simp (maxSteps := 2000000) (disch := omega) only [nI64, nU64, nU32, nU8, nSubL, nAddL, nAdd, nSub, nDiv, nMod, nZ, nLit, row_3, row_5, row_16, row_22, row_28, row_46, row_48, row_108, row_115, Ty.den, dflt_it, dflt_li, dflt_kv, Int.toNat_natCast, List.take_length, List.drop_zero]
      by_cases h0 : i = 0
      · refine br_no (tst_f (by omega)) ?_
        conv => lhs; whnf
        try simp (maxSteps := 2000000) (disch := omega) only [nI64, nU64, nU32, nU8, nSubL, nAddL, nAdd, nSub, nDiv, nMod, nZ, nLit, row_3, row_5, row_16, row_22, row_28, row_46, row_48, row_108, row_115, Ty.den, dflt_it, dflt_li, dflt_kv, Int.toNat_natCast, List.take_length, List.drop_zero]
        repeat (refine br_go ?_ ?_; (focus (((repeat' first | exact rfl | exact ordB_st rfl | exact ordB_of rfl | apply band | apply tst_t | apply nt_t)  <;> (try dsimp only [Ty.den, dflt_kv]) <;> (try simp only [List.length_append, List.length_cons, List.length_nil, List.length_take, List.length_drop, List.length_replicate]) <;> (first | trivial | assumption | omega | (change (_ : Int) ≤ _; omega) | (change (_ : Int) < _; omega) | (change (_ : Nat) * 1 ≤ _; omega) | (change (_ : Nat) * 48 ≤ _; omega) | (change (_ : Nat) * 24 ≤ _; omega) | (change (_ : Nat) * 8 ≤ _; omega) | (change (_ : Nat) * 64 ≤ _; omega) | decide)); done)); (conv => lhs; whnf); (try simp (maxSteps := 2000000) (disch := omega) only [nI64, nU64, nU32, nU8, nSubL, nAddL, nAdd, nSub, nDiv, nMod, nZ, nLit, row_3, row_5, row_16, row_22, row_28, row_46, row_48, row_108, row_115, Ty.den, dflt_it, dflt_li, dflt_kv, Int.toNat_natCast, List.take_length, List.drop_zero]))
        subst h0
        refine (hK 1 ⟨by omega, fun _ => ho⟩ (by omega)).trans (bo_tst ?_)
        rw [risesFrom_cons, decide_eq_true ho, prevOf_succ, show prevOf l 0 = none from rfl, aheadOK, Bool.true_and, Bool.true_and]
      · refine br_go (tst_t (by omega)) ?_
        conv => lhs; whnf
        try simp (maxSteps := 2000000) (disch := omega) only [nI64, nU64, nU32, nU8, nSubL, nAddL, nAdd, nSub, nDiv, nMod, nZ, nLit, row_3, row_5, row_16, row_22, row_28, row_46, row_48, row_108, row_115, Ty.den, dflt_it, dflt_li, dflt_kv, Int.toNat_natCast, List.take_length, List.drop_zero]
        repeat (refine br_go ?_ ?_; (focus (((repeat' first | exact rfl | exact ordB_st rfl | exact ordB_of rfl | apply band | apply tst_t | apply nt_t)  <;> (try dsimp only [Ty.den, dflt_kv]) <;> (try simp only [List.length_append, List.length_cons, List.length_nil, List.length_take, List.length_drop, List.length_replicate]) <;> (first | trivial | assumption | omega | (change (_ : Int) ≤ _; omega) | (change (_ : Int) < _; omega) | (change (_ : Nat) * 1 ≤ _; omega) | (change (_ : Nat) * 48 ≤ _; omega) | (change (_ : Nat) * 24 ≤ _; omega) | (change (_ : Nat) * 8 ≤ _; omega) | (change (_ : Nat) * 64 ≤ _; omega) | decide)); done)); (conv => lhs; whnf); (try simp (maxSteps := 2000000) (disch := omega) only [nI64, nU64, nU32, nU8, nSubL, nAddL, nAdd, nSub, nDiv, nMod, nZ, nLit, row_3, row_5, row_16, row_22, row_28, row_46, row_48, row_108, row_115, Ty.den, dflt_it, dflt_li, dflt_kv, Int.toNat_natCast, List.take_length, List.drop_zero]))
        have hp : prevOf l i = some (l.getD (i - 1) kvd).1 := if_neg h0
        have hq := h4 (by omega)
        rw [hp, risesFrom_cons, decide_eq_true ho, aheadOK]
        by_cases hc : order (l.getD (i - 1) kvd).1 (l.getD i kvd).1 < 0
        · refine br_no (nt_f ⟨hq, ho, hc⟩) ?_
          conv => lhs; whnf
          try simp (maxSteps := 2000000) (disch := omega) only [nI64, nU64, nU32, nU8, nSubL, nAddL, nAdd, nSub, nDiv, nMod, nZ, nLit, row_3, row_5, row_16, row_22, row_28, row_46, row_48, row_108, row_115, Ty.den, dflt_it, dflt_li, dflt_kv, Int.toNat_natCast, List.take_length, List.drop_zero]
          refine (hK (i + 1) ⟨by omega, fun _ => ho⟩ (by omega)).trans (bo_tst ?_)
          rw [prevOf_succ, decide_eq_true hc, Bool.true_and, Bool.true_and]
        · refine br_go (nt_t (fun h => hc h.2.2)) ?_
          conv => lhs; whnf
          try simp (maxSteps := 2000000) (disch := omega) only [nI64, nU64, nU32, nU8, nSubL, nAddL, nAdd, nSub, nDiv, nMod, nZ, nLit, row_3, row_5, row_16, row_22, row_28, row_46, row_48, row_108, row_115, Ty.den, dflt_it, dflt_li, dflt_kv, Int.toNat_natCast, List.take_length, List.drop_zero]
          exact bo_f (by rw [decide_eq_false hc]; simp only [Bool.false_and, Bool.and_false, Bool.false_eq_true, not_false_eq_true])
    · refine br_go (tst_t (ho)) ?_
      conv => lhs; whnf
      try simp (maxSteps := 2000000) (disch := omega) only [nI64, nU64, nU32, nU8, nSubL, nAddL, nAdd, nSub, nDiv, nMod, nZ, nLit, row_3, row_5, row_16, row_22, row_28, row_46, row_48, row_108, row_115, Ty.den, dflt_it, dflt_li, dflt_kv, Int.toNat_natCast, List.take_length, List.drop_zero]
      repeat (refine br_go ?_ ?_; (focus (((repeat' first | exact rfl | exact ordB_st rfl | exact ordB_of rfl | apply band | apply tst_t | apply nt_t)  <;> (try dsimp only [Ty.den, dflt_kv]) <;> (try simp only [List.length_append, List.length_cons, List.length_nil, List.length_take, List.length_drop, List.length_replicate]) <;> (first | trivial | assumption | omega | (change (_ : Int) ≤ _; omega) | (change (_ : Int) < _; omega) | (change (_ : Nat) * 1 ≤ _; omega) | (change (_ : Nat) * 48 ≤ _; omega) | (change (_ : Nat) * 24 ≤ _; omega) | (change (_ : Nat) * 8 ≤ _; omega) | (change (_ : Nat) * 64 ≤ _; omega) | decide)); done)); (conv => lhs; whnf); (try simp (maxSteps := 2000000) (disch := omega) only [nI64, nU64, nU32, nU8, nSubL, nAddL, nAdd, nSub, nDiv, nMod, nZ, nLit, row_3, row_5, row_16, row_22, row_28, row_46, row_48, row_108, row_115, Ty.den, dflt_it, dflt_li, dflt_kv, Int.toNat_natCast, List.take_length, List.drop_zero]))
      exact bo_f (by rw [risesFrom_cons, decide_eq_false ho]; simp only [Bool.false_and, Bool.false_eq_true, not_false_eq_true])
  · refine br_no (tst_f (by omega)) ?_
    conv => lhs; whnf
    try simp (maxSteps := 2000000) (disch := omega) only [nI64, nU64, nU32, nU8, nSubL, nAddL, nAdd, nSub, nDiv, nMod, nZ, nLit, row_3, row_5, row_16, row_22, row_28, row_46, row_48, row_108, row_115, Ty.den, dflt_it, dflt_li, dflt_kv, Int.toNat_natCast, List.take_length, List.drop_zero]
    repeat (refine br_go ?_ ?_; (focus (((repeat' first | exact rfl | exact ordB_st rfl | exact ordB_of rfl | apply band | apply tst_t | apply nt_t)  <;> (try dsimp only [Ty.den, dflt_kv]) <;> (try simp only [List.length_append, List.length_cons, List.length_nil, List.length_take, List.length_drop, List.length_replicate]) <;> (first | trivial | assumption | omega | (change (_ : Int) ≤ _; omega) | (change (_ : Int) < _; omega) | (change (_ : Nat) * 1 ≤ _; omega) | (change (_ : Nat) * 48 ≤ _; omega) | (change (_ : Nat) * 24 ≤ _; omega) | (change (_ : Nat) * 8 ≤ _; omega) | (change (_ : Nat) * 64 ≤ _; omega) | decide)); done)); (conv => lhs; whnf); (try simp (maxSteps := 2000000) (disch := omega) only [nI64, nU64, nU32, nU8, nSubL, nAddL, nAdd, nSub, nDiv, nMod, nZ, nLit, row_3, row_5, row_16, row_22, row_28, row_46, row_48, row_108, row_115, Ty.den, dflt_it, dflt_li, dflt_kv, Int.toNat_natCast, List.take_length, List.drop_zero]))
    exact bo_t (by rw [List.drop_eq_nil_of_le (by omega : l.length ≤ i)]; rfl)
end Go.Proofs.Ytkdajonmfiipkaa.Ev
/- A block's bytes, by the program. -/
namespace Go.Proofs.Ytkdajonmfiipkaa.Ev
open Go Go.RowKit
set_option linter.unusedVariables false
set_option linter.unusedSimpArgs false
set_option maxRecDepth 100000
set_option maxHeartbeats 8000000
theorem keyAt_succ (l : List KV) (i : Nat) : keyAt l (i + 1) = (l.getD i kvd).1 := by rw [keyAt, if_neg (by omega)]; rfl
theorem putS_len10 {n : Nat} (h : n ≤ 140737488355328) : (putS n).length ≤ 10 := putS_length64 (by omega)
abbrev builtC : Ctx := ⟨rows, (fun | 0 => ([0, 1, 5, 6, 7, 13, 14, 15], [5, 6, 7]) | 1 => ([], [0, 1, 5, 6, 7, 13, 14, 15]) | 2 => ([0, 1, 5, 6, 7, 9, 10, 13, 14, 15, 50, 51], [0, 1, 5, 6, 7, 9, 10, 13, 14, 15]) | 3 => ([], [0, 1, 5, 6, 7, 9, 10, 13, 14, 15, 50, 51]) | _ => ([], []))⟩
theorem built_ok (T : Tab) (h1 : T 71 = fixed4Sp.ent) (h2 : T 33 = putSp.ent) (h3 : T 95 = sharedSp.ent) : builtSp.Ok T builtC F70 := by
  rw [on_top h1, on_top h2, on_top h3]
  rintro ⟨(l : List KV), (r : Int), _⟩ hf hp
  have hf1 : Fits kvl l := hf.1
  have hp : (Fair l ∧ 1 ≤ r) ∧ r ≤ 64 := by simpa only [builtSp, builtPre, Bool.and_eq_true, tst_iff] using hp
  obtain ⟨⟨⟨hl, ht⟩, hr1⟩, hr2⟩ := hp
  obtain ⟨m, rfl⟩ : ∃ m : Nat, r = m := ⟨r.toNat, by omega⟩
  obtain ⟨F, hF⟩ : ∃ F : Nat, F = l.length + 5 := ⟨_, rfl⟩
  refine ⟨F, 0, ?_⟩
  show evFn _ _ _ _ _ [vK l, vI m] [] _ = some (vO 0 (built l m) : V)
  conv => lhs; whnf
  try simp (maxSteps := 2000000) (disch := omega) only [nI64, nU64, nU32, nU8, nSubL, nAddL, nAdd, nSub, nDiv, nMod, nZ, nLit, row_3, row_5, row_16, row_22, row_28, row_46, row_48, row_108, row_115, Ty.den, dflt_it, dflt_li, dflt_kv, Int.toNat_natCast, List.take_length, List.drop_zero]
  refine (loop_rule (α := Nat × List Int × List Int × Nat) (fun a => a.1 ≤ l.length ∧ a.2.1.length + total (l.drop a.1) + 30 * (l.length - a.1) ≤ 1105199104 ∧ a.2.2.1.length ≤ 4 * a.1 ∧ a.2.2.2 ≤ a.1) (fun a => l.length - a.1)
    (fun a => (vK l :: vI m :: V.bad :: V.bad :: V.bad :: vO 1 a.2.1 :: vO 2 a.2.2.1 :: vI a.2.2.2 :: V.bad :: V.bad :: V.bad :: V.bad :: V.bad :: vK l :: vI l.length :: vI a.1 :: V.bad :: V.bad :: V.bad :: V.bad :: V.bad :: V.bad :: V.bad :: V.bad :: V.bad :: V.bad :: V.bad :: V.bad :: V.bad :: V.bad :: V.bad :: V.bad :: V.bad :: V.bad :: V.bad :: V.bad :: V.bad :: V.bad :: V.bad :: V.bad :: V.bad :: V.bad :: V.bad :: V.bad :: V.bad :: V.bad :: V.bad :: V.bad :: V.bad :: V.bad :: V.bad :: V.bad :: V.bad :: V.bad :: V.bad :: V.bad :: V.bad :: V.bad :: V.bad :: V.bad :: V.bad :: V.bad :: V.bad :: V.bad :: V.bad :: V.bad :: V.bad :: V.bad :: V.bad :: V.bad :: V.bad :: V.bad :: V.bad :: V.bad :: V.bad :: V.bad :: V.bad :: [])) (fun a => [.fam 0, .fam a.2.1.length, .fam a.2.2.1.length, .gone])
    (fun a => some (vO 0 (builtGo m (keyAt l a.1) a.1 (l.drop a.1) a.2.1 a.2.2.1 a.2.2.2))) ?_ F (0, [], [], 0) ⟨by show 0 ≤ _; omega, by show 0 + total l + 30 * (l.length - 0) ≤ _; omega, by show 0 ≤ _; omega, by show 0 ≤ 0; omega⟩ (by show l.length - 0 < F; omega))
  rintro ⟨i, out, tail, n⟩ K ⟨h4, h5, h6, h7⟩ hK
  simp only at h4 h5 h6 h7 hK ⊢
  conv => lhs; whnf
  try simp (maxSteps := 2000000) (disch := omega) only [nI64, nU64, nU32, nU8, nSubL, nAddL, nAdd, nSub, nDiv, nMod, nZ, nLit, row_3, row_5, row_16, row_22, row_28, row_46, row_48, row_108, row_115, Ty.den, dflt_it, dflt_li, dflt_kv, Int.toNat_natCast, List.take_length, List.drop_zero]
  by_cases hi : i < l.length
  · refine br_go (tst_t (by omega)) ?_
    conv => lhs; whnf
    try simp (maxSteps := 2000000) (disch := omega) only [nI64, nU64, nU32, nU8, nSubL, nAddL, nAdd, nSub, nDiv, nMod, nZ, nLit, row_3, row_5, row_16, row_22, row_28, row_46, row_48, row_108, row_115, Ty.den, dflt_it, dflt_li, dflt_kv, Int.toNat_natCast, List.take_length, List.drop_zero]
    have hk := getD_kv hf1 hi
    rw [drop_at (d := kvd) hi, total_cons] at h5
    rw [drop_at (d := kvd) hi, builtGo]
    repeat (refine br_go ?_ ?_; (focus (((repeat' first | exact rfl | exact ordB_st rfl | exact ordB_of rfl | apply band | apply tst_t | apply nt_t)  <;> (try dsimp only [Ty.den, dflt_kv]) <;> (try simp only [List.length_append, List.length_cons, List.length_nil, List.length_take, List.length_drop, List.length_replicate]) <;> (first | trivial | assumption | omega | (change (_ : Int) ≤ _; omega) | (change (_ : Int) < _; omega) | (change (_ : Nat) * 1 ≤ _; omega) | (change (_ : Nat) * 48 ≤ _; omega) | (change (_ : Nat) * 24 ≤ _; omega) | (change (_ : Nat) * 8 ≤ _; omega) | (change (_ : Nat) * 64 ≤ _; omega) | decide)); done)); (conv => lhs; whnf); (try simp (maxSteps := 2000000) (disch := omega) only [nI64, nU64, nU32, nU8, nSubL, nAddL, nAdd, nSub, nDiv, nMod, nZ, nLit, row_3, row_5, row_16, row_22, row_28, row_46, row_48, row_108, row_115, Ty.den, dflt_it, dflt_li, dflt_kv, Int.toNat_natCast, List.take_length, List.drop_zero]))
    have hz : (i : Int) % (m : Int) = ((i % m : Nat) : Int) := (Int.natCast_emod i m).symm
    have q3 := putS_len10 (n := (l.getD i kvd).2.1.length) (by omega)
    by_cases hm : i % m = 0
    · refine br_go (tst_t (by omega)) ?_
      conv => lhs; whnf
      try simp (maxSteps := 2000000) (disch := omega) only [nI64, nU64, nU32, nU8, nSubL, nAddL, nAdd, nSub, nDiv, nMod, nZ, nLit, row_3, row_5, row_16, row_22, row_28, row_46, row_48, row_108, row_115, Ty.den, dflt_it, dflt_li, dflt_kv, Int.toNat_natCast, List.take_length, List.drop_zero]
      rw [if_pos hm]
      have q1 := putS_len10 (n := 0) (by omega)
      have q2 := putS_len10 (n := (l.getD i kvd).1.length - 0) (by omega)
      have q4 := fixedL_length (out.length : Int) 4
      have qe := entB_length (k := 0) (x := l.getD i kvd) (by omega) (by omega) (by omega)
      repeat (refine br_go ?_ ?_; (focus (((repeat' first | exact rfl | exact ordB_st rfl | exact ordB_of rfl | apply band | apply tst_t | apply nt_t)  <;> (try dsimp only [Ty.den, dflt_kv]) <;> (try simp only [List.length_append, List.length_cons, List.length_nil, List.length_take, List.length_drop, List.length_replicate]) <;> (first | trivial | assumption | omega | (change (_ : Int) ≤ _; omega) | (change (_ : Int) < _; omega) | (change (_ : Nat) * 1 ≤ _; omega) | (change (_ : Nat) * 48 ≤ _; omega) | (change (_ : Nat) * 24 ≤ _; omega) | (change (_ : Nat) * 8 ≤ _; omega) | (change (_ : Nat) * 64 ≤ _; omega) | decide)); done)); (conv => lhs; whnf); (try simp (maxSteps := 2000000) (disch := omega) only [nI64, nU64, nU32, nU8, nSubL, nAddL, nAdd, nSub, nDiv, nMod, nZ, nLit, row_3, row_5, row_16, row_22, row_28, row_46, row_48, row_108, row_115, Ty.den, dflt_it, dflt_li, dflt_kv, Int.toNat_natCast, List.take_length, List.drop_zero]))
      refine loop_more (by omega) ?_
      conv => lhs; whnf
      try simp (maxSteps := 2000000) (disch := omega) only [nI64, nU64, nU32, nU8, nSubL, nAddL, nAdd, nSub, nDiv, nMod, nZ, nLit, row_3, row_5, row_16, row_22, row_28, row_46, row_48, row_108, row_115, Ty.den, dflt_it, dflt_li, dflt_kv, Int.toNat_natCast, List.take_length, List.drop_zero]
      repeat (refine br_go ?_ ?_; (focus (((repeat' first | exact rfl | exact ordB_st rfl | exact ordB_of rfl | apply band | apply tst_t | apply nt_t)  <;> (try dsimp only [Ty.den, dflt_kv]) <;> (try simp only [List.length_append, List.length_cons, List.length_nil, List.length_take, List.length_drop, List.length_replicate]) <;> (first | trivial | assumption | omega | (change (_ : Int) ≤ _; omega) | (change (_ : Int) < _; omega) | (change (_ : Nat) * 1 ≤ _; omega) | (change (_ : Nat) * 48 ≤ _; omega) | (change (_ : Nat) * 24 ≤ _; omega) | (change (_ : Nat) * 8 ≤ _; omega) | (change (_ : Nat) * 64 ≤ _; omega) | decide)); done)); (conv => lhs; whnf); (try simp (maxSteps := 2000000) (disch := omega) only [nI64, nU64, nU32, nU8, nSubL, nAddL, nAdd, nSub, nDiv, nMod, nZ, nLit, row_3, row_5, row_16, row_22, row_28, row_46, row_48, row_108, row_115, Ty.den, dflt_it, dflt_li, dflt_kv, Int.toNat_natCast, List.take_length, List.drop_zero]))
      refine loop_more (by omega) ?_
      conv => lhs; whnf
      try simp (maxSteps := 2000000) (disch := omega) only [nI64, nU64, nU32, nU8, nSubL, nAddL, nAdd, nSub, nDiv, nMod, nZ, nLit, row_3, row_5, row_16, row_22, row_28, row_46, row_48, row_108, row_115, Ty.den, dflt_it, dflt_li, dflt_kv, Int.toNat_natCast, List.take_length, List.drop_zero]
      repeat (refine br_go ?_ ?_; (focus (((repeat' first | exact rfl | exact ordB_st rfl | exact ordB_of rfl | apply band | apply tst_t | apply nt_t)  <;> (try dsimp only [Ty.den, dflt_kv]) <;> (try simp only [List.length_append, List.length_cons, List.length_nil, List.length_take, List.length_drop, List.length_replicate]) <;> (first | trivial | assumption | omega | (change (_ : Int) ≤ _; omega) | (change (_ : Int) < _; omega) | (change (_ : Nat) * 1 ≤ _; omega) | (change (_ : Nat) * 48 ≤ _; omega) | (change (_ : Nat) * 24 ≤ _; omega) | (change (_ : Nat) * 8 ≤ _; omega) | (change (_ : Nat) * 64 ≤ _; omega) | decide)); done)); (conv => lhs; whnf); (try simp (maxSteps := 2000000) (disch := omega) only [nI64, nU64, nU32, nU8, nSubL, nAddL, nAdd, nSub, nDiv, nMod, nZ, nLit, row_3, row_5, row_16, row_22, row_28, row_46, row_48, row_108, row_115, Ty.den, dflt_it, dflt_li, dflt_kv, Int.toNat_natCast, List.take_length, List.drop_zero]))
      refine loop_more (by omega) ?_
      conv => lhs; whnf
      try simp (maxSteps := 2000000) (disch := omega) only [nI64, nU64, nU32, nU8, nSubL, nAddL, nAdd, nSub, nDiv, nMod, nZ, nLit, row_3, row_5, row_16, row_22, row_28, row_46, row_48, row_108, row_115, Ty.den, dflt_it, dflt_li, dflt_kv, Int.toNat_natCast, List.take_length, List.drop_zero]
      repeat (refine br_go ?_ ?_; (focus (((repeat' first | exact rfl | exact ordB_st rfl | exact ordB_of rfl | apply band | apply tst_t | apply nt_t)  <;> (try dsimp only [Ty.den, dflt_kv]) <;> (try simp only [List.length_append, List.length_cons, List.length_nil, List.length_take, List.length_drop, List.length_replicate]) <;> (first | trivial | assumption | omega | (change (_ : Int) ≤ _; omega) | (change (_ : Int) < _; omega) | (change (_ : Nat) * 1 ≤ _; omega) | (change (_ : Nat) * 48 ≤ _; omega) | (change (_ : Nat) * 24 ≤ _; omega) | (change (_ : Nat) * 8 ≤ _; omega) | (change (_ : Nat) * 64 ≤ _; omega) | decide)); done)); (conv => lhs; whnf); (try simp (maxSteps := 2000000) (disch := omega) only [nI64, nU64, nU32, nU8, nSubL, nAddL, nAdd, nSub, nDiv, nMod, nZ, nLit, row_3, row_5, row_16, row_22, row_28, row_46, row_48, row_108, row_115, Ty.den, dflt_it, dflt_li, dflt_kv, Int.toNat_natCast, List.take_length, List.drop_zero]))
      refine loop_more (by omega) ?_
      conv => lhs; whnf
      try simp (maxSteps := 2000000) (disch := omega) only [nI64, nU64, nU32, nU8, nSubL, nAddL, nAdd, nSub, nDiv, nMod, nZ, nLit, row_3, row_5, row_16, row_22, row_28, row_46, row_48, row_108, row_115, Ty.den, dflt_it, dflt_li, dflt_kv, Int.toNat_natCast, List.take_length, List.drop_zero]
      refine br_no (tst_f (by omega)) ?_
      conv => lhs; whnf
      try simp (maxSteps := 2000000) (disch := omega) only [nI64, nU64, nU32, nU8, nSubL, nAddL, nAdd, nSub, nDiv, nMod, nZ, nLit, row_3, row_5, row_16, row_22, row_28, row_46, row_48, row_108, row_115, Ty.den, dflt_it, dflt_li, dflt_kv, Int.toNat_natCast, List.take_length, List.drop_zero]
      repeat (refine br_go ?_ ?_; (focus (((repeat' first | exact rfl | exact ordB_st rfl | exact ordB_of rfl | apply band | apply tst_t | apply nt_t)  <;> (try dsimp only [Ty.den, dflt_kv]) <;> (try simp only [List.length_append, List.length_cons, List.length_nil, List.length_take, List.length_drop, List.length_replicate]) <;> (first | trivial | assumption | omega | (change (_ : Int) ≤ _; omega) | (change (_ : Int) < _; omega) | (change (_ : Nat) * 1 ≤ _; omega) | (change (_ : Nat) * 48 ≤ _; omega) | (change (_ : Nat) * 24 ≤ _; omega) | (change (_ : Nat) * 8 ≤ _; omega) | (change (_ : Nat) * 64 ≤ _; omega) | decide)); done)); (conv => lhs; whnf); (try simp (maxSteps := 2000000) (disch := omega) only [nI64, nU64, nU32, nU8, nSubL, nAddL, nAdd, nSub, nDiv, nMod, nZ, nLit, row_3, row_5, row_16, row_22, row_28, row_46, row_48, row_108, row_115, Ty.den, dflt_it, dflt_li, dflt_kv, Int.toNat_natCast, List.take_length, List.drop_zero]))
      have e1 : out ++ entB 0 (l.getD i kvd) = out ++ putS 0 ++ putS ((l.getD i kvd).1.length - 0) ++ putS (l.getD i kvd).2.1.length ++ (l.getD i kvd).1 ++ (l.getD i kvd).2.1 := by simp only [entB, List.append_assoc, List.drop_zero]
      have := hK (i + 1, out ++ entB 0 (l.getD i kvd), tail ++ fixedL out.length 4, n + 1) ⟨by show i + 1 ≤ _; omega, by show (out ++ _).length + total (l.drop (i + 1)) + 30 * (l.length - (i + 1)) ≤ _; rw [List.length_append]; omega, by show (tail ++ _).length ≤ 4 * (i + 1); rw [List.length_append]; omega, by show n + 1 ≤ i + 1; omega⟩ (by show _ - (i + 1) < _; omega)
      dsimp only at this
      rw [keyAt_succ] at this
      rw [e1] at this ⊢
      exact this
    · refine br_no (tst_f (by omega)) ?_
      conv => lhs; whnf
      try simp (maxSteps := 2000000) (disch := omega) only [nI64, nU64, nU32, nU8, nSubL, nAddL, nAdd, nSub, nDiv, nMod, nZ, nLit, row_3, row_5, row_16, row_22, row_28, row_46, row_48, row_108, row_115, Ty.den, dflt_it, dflt_li, dflt_kv, Int.toNat_natCast, List.take_length, List.drop_zero]
      rw [if_neg hm]
      have hi0 : i ≠ 0 := by intro h; subst h; exact hm (Nat.zero_mod m)
      have hs : keyAt l i = (l.getD (i - 1) kvd).1 := if_neg hi0
      have hs1 := sharedL_left (l.getD (i - 1) kvd).1 (l.getD i kvd).1
      have hs2 := sharedL_right (l.getD (i - 1) kvd).1 (l.getD i kvd).1
      have hk' := getD_kv (i := i - 1) hf1 (by omega)
      have ei : ((i : Int) - 1).toNat = i - 1 := by omega
      have q1 := putS_len10 (n := sharedL (l.getD (i - 1) kvd).1 (l.getD i kvd).1) (by omega)
      have q2 := putS_len10 (n := (l.getD i kvd).1.length - sharedL (l.getD (i - 1) kvd).1 (l.getD i kvd).1) (by omega)
      have qe := entB_length (k := sharedL (l.getD (i - 1) kvd).1 (l.getD i kvd).1) (x := l.getD i kvd) (by omega) (by omega) (by omega)
      repeat (refine br_go ?_ ?_; (focus (((repeat' first | exact rfl | exact ordB_st rfl | exact ordB_of rfl | apply band | apply tst_t | apply nt_t)  <;> (try dsimp only [Ty.den, dflt_kv]) <;> (try simp only [List.length_append, List.length_cons, List.length_nil, List.length_take, List.length_drop, List.length_replicate]) <;> (first | trivial | assumption | omega | (change (_ : Int) ≤ _; omega) | (change (_ : Int) < _; omega) | (change (_ : Nat) * 1 ≤ _; omega) | (change (_ : Nat) * 48 ≤ _; omega) | (change (_ : Nat) * 24 ≤ _; omega) | (change (_ : Nat) * 8 ≤ _; omega) | (change (_ : Nat) * 64 ≤ _; omega) | decide)); done)); (conv => lhs; whnf); (try simp (maxSteps := 2000000) (disch := omega) only [nI64, nU64, nU32, nU8, nSubL, nAddL, nAdd, nSub, nDiv, nMod, nZ, nLit, row_3, row_5, row_16, row_22, row_28, row_46, row_48, row_108, row_115, Ty.den, dflt_it, dflt_li, dflt_kv, Int.toNat_natCast, List.take_length, List.drop_zero]))
      refine loop_more (by omega) ?_
      conv => lhs; whnf
      try simp (maxSteps := 2000000) (disch := omega) only [nI64, nU64, nU32, nU8, nSubL, nAddL, nAdd, nSub, nDiv, nMod, nZ, nLit, row_3, row_5, row_16, row_22, row_28, row_46, row_48, row_108, row_115, Ty.den, dflt_it, dflt_li, dflt_kv, Int.toNat_natCast, List.take_length, List.drop_zero]
      repeat (refine br_go ?_ ?_; (focus (((repeat' first | exact rfl | exact ordB_st rfl | exact ordB_of rfl | apply band | apply tst_t | apply nt_t)  <;> (try dsimp only [Ty.den, dflt_kv]) <;> (try simp only [List.length_append, List.length_cons, List.length_nil, List.length_take, List.length_drop, List.length_replicate]) <;> (first | trivial | assumption | omega | (change (_ : Int) ≤ _; omega) | (change (_ : Int) < _; omega) | (change (_ : Nat) * 1 ≤ _; omega) | (change (_ : Nat) * 48 ≤ _; omega) | (change (_ : Nat) * 24 ≤ _; omega) | (change (_ : Nat) * 8 ≤ _; omega) | (change (_ : Nat) * 64 ≤ _; omega) | decide)); done)); (conv => lhs; whnf); (try simp (maxSteps := 2000000) (disch := omega) only [nI64, nU64, nU32, nU8, nSubL, nAddL, nAdd, nSub, nDiv, nMod, nZ, nLit, row_3, row_5, row_16, row_22, row_28, row_46, row_48, row_108, row_115, Ty.den, dflt_it, dflt_li, dflt_kv, Int.toNat_natCast, List.take_length, List.drop_zero]))
      refine loop_more (by omega) ?_
      conv => lhs; whnf
      try simp (maxSteps := 2000000) (disch := omega) only [nI64, nU64, nU32, nU8, nSubL, nAddL, nAdd, nSub, nDiv, nMod, nZ, nLit, row_3, row_5, row_16, row_22, row_28, row_46, row_48, row_108, row_115, Ty.den, dflt_it, dflt_li, dflt_kv, Int.toNat_natCast, List.take_length, List.drop_zero]
      repeat (refine br_go ?_ ?_; (focus (((repeat' first | exact rfl | exact ordB_st rfl | exact ordB_of rfl | apply band | apply tst_t | apply nt_t)  <;> (try dsimp only [Ty.den, dflt_kv]) <;> (try simp only [List.length_append, List.length_cons, List.length_nil, List.length_take, List.length_drop, List.length_replicate]) <;> (first | trivial | assumption | omega | (change (_ : Int) ≤ _; omega) | (change (_ : Int) < _; omega) | (change (_ : Nat) * 1 ≤ _; omega) | (change (_ : Nat) * 48 ≤ _; omega) | (change (_ : Nat) * 24 ≤ _; omega) | (change (_ : Nat) * 8 ≤ _; omega) | (change (_ : Nat) * 64 ≤ _; omega) | decide)); done)); (conv => lhs; whnf); (try simp (maxSteps := 2000000) (disch := omega) only [nI64, nU64, nU32, nU8, nSubL, nAddL, nAdd, nSub, nDiv, nMod, nZ, nLit, row_3, row_5, row_16, row_22, row_28, row_46, row_48, row_108, row_115, Ty.den, dflt_it, dflt_li, dflt_kv, Int.toNat_natCast, List.take_length, List.drop_zero]))
      refine loop_more (by omega) ?_
      conv => lhs; whnf
      try simp (maxSteps := 2000000) (disch := omega) only [nI64, nU64, nU32, nU8, nSubL, nAddL, nAdd, nSub, nDiv, nMod, nZ, nLit, row_3, row_5, row_16, row_22, row_28, row_46, row_48, row_108, row_115, Ty.den, dflt_it, dflt_li, dflt_kv, Int.toNat_natCast, List.take_length, List.drop_zero]
      repeat (refine br_go ?_ ?_; (focus (((repeat' first | exact rfl | exact ordB_st rfl | exact ordB_of rfl | apply band | apply tst_t | apply nt_t)  <;> (try dsimp only [Ty.den, dflt_kv]) <;> (try simp only [List.length_append, List.length_cons, List.length_nil, List.length_take, List.length_drop, List.length_replicate]) <;> (first | trivial | assumption | omega | (change (_ : Int) ≤ _; omega) | (change (_ : Int) < _; omega) | (change (_ : Nat) * 1 ≤ _; omega) | (change (_ : Nat) * 48 ≤ _; omega) | (change (_ : Nat) * 24 ≤ _; omega) | (change (_ : Nat) * 8 ≤ _; omega) | (change (_ : Nat) * 64 ≤ _; omega) | decide)); done)); (conv => lhs; whnf); (try simp (maxSteps := 2000000) (disch := omega) only [nI64, nU64, nU32, nU8, nSubL, nAddL, nAdd, nSub, nDiv, nMod, nZ, nLit, row_3, row_5, row_16, row_22, row_28, row_46, row_48, row_108, row_115, Ty.den, dflt_it, dflt_li, dflt_kv, Int.toNat_natCast, List.take_length, List.drop_zero]))
      refine loop_more (by omega) ?_
      conv => lhs; whnf
      try simp (maxSteps := 2000000) (disch := omega) only [nI64, nU64, nU32, nU8, nSubL, nAddL, nAdd, nSub, nDiv, nMod, nZ, nLit, row_3, row_5, row_16, row_22, row_28, row_46, row_48, row_108, row_115, Ty.den, dflt_it, dflt_li, dflt_kv, Int.toNat_natCast, List.take_length, List.drop_zero]
      refine br_no (tst_f (by omega)) ?_
      conv => lhs; whnf
      try simp (maxSteps := 2000000) (disch := omega) only [nI64, nU64, nU32, nU8, nSubL, nAddL, nAdd, nSub, nDiv, nMod, nZ, nLit, row_3, row_5, row_16, row_22, row_28, row_46, row_48, row_108, row_115, Ty.den, dflt_it, dflt_li, dflt_kv, Int.toNat_natCast, List.take_length, List.drop_zero]
      repeat (refine br_go ?_ ?_; (focus (((repeat' first | exact rfl | exact ordB_st rfl | exact ordB_of rfl | apply band | apply tst_t | apply nt_t)  <;> (try dsimp only [Ty.den, dflt_kv]) <;> (try simp only [List.length_append, List.length_cons, List.length_nil, List.length_take, List.length_drop, List.length_replicate]) <;> (first | trivial | assumption | omega | (change (_ : Int) ≤ _; omega) | (change (_ : Int) < _; omega) | (change (_ : Nat) * 1 ≤ _; omega) | (change (_ : Nat) * 48 ≤ _; omega) | (change (_ : Nat) * 24 ≤ _; omega) | (change (_ : Nat) * 8 ≤ _; omega) | (change (_ : Nat) * 64 ≤ _; omega) | decide)); done)); (conv => lhs; whnf); (try simp (maxSteps := 2000000) (disch := omega) only [nI64, nU64, nU32, nU8, nSubL, nAddL, nAdd, nSub, nDiv, nMod, nZ, nLit, row_3, row_5, row_16, row_22, row_28, row_46, row_48, row_108, row_115, Ty.den, dflt_it, dflt_li, dflt_kv, Int.toNat_natCast, List.take_length, List.drop_zero]))
      rw [hs]
      have e1 : out ++ entB (sharedL (l.getD (i - 1) kvd).1 (l.getD i kvd).1) (l.getD i kvd) = out ++ putS (sharedL (l.getD (i - 1) kvd).1 (l.getD i kvd).1) ++ putS ((l.getD i kvd).1.length - sharedL (l.getD (i - 1) kvd).1 (l.getD i kvd).1) ++ putS (l.getD i kvd).2.1.length ++ (l.getD i kvd).1.drop (sharedL (l.getD (i - 1) kvd).1 (l.getD i kvd).1) ++ (l.getD i kvd).2.1 := by simp only [entB, List.append_assoc]
      have := hK (i + 1, out ++ entB (sharedL (l.getD (i - 1) kvd).1 (l.getD i kvd).1) (l.getD i kvd), tail, n) ⟨by show i + 1 ≤ _; omega, by show (out ++ _).length + total (l.drop (i + 1)) + 30 * (l.length - (i + 1)) ≤ _; rw [List.length_append]; omega, by show tail.length ≤ 4 * (i + 1); omega, by show n ≤ i + 1; omega⟩ (by show _ - (i + 1) < _; omega)
      dsimp only at this
      rw [keyAt_succ] at this
      rw [e1] at this ⊢
      exact this
  · refine br_no (tst_f (by omega)) ?_
    conv => lhs; whnf
    try simp (maxSteps := 2000000) (disch := omega) only [nI64, nU64, nU32, nU8, nSubL, nAddL, nAdd, nSub, nDiv, nMod, nZ, nLit, row_3, row_5, row_16, row_22, row_28, row_46, row_48, row_108, row_115, Ty.den, dflt_it, dflt_li, dflt_kv, Int.toNat_natCast, List.take_length, List.drop_zero]
    have q := fixedL_length (n : Int) 4
    repeat (refine br_go ?_ ?_; (focus (((repeat' first | exact rfl | exact ordB_st rfl | exact ordB_of rfl | apply band | apply tst_t | apply nt_t)  <;> (try dsimp only [Ty.den, dflt_kv]) <;> (try simp only [List.length_append, List.length_cons, List.length_nil, List.length_take, List.length_drop, List.length_replicate]) <;> (first | trivial | assumption | omega | (change (_ : Int) ≤ _; omega) | (change (_ : Int) < _; omega) | (change (_ : Nat) * 1 ≤ _; omega) | (change (_ : Nat) * 48 ≤ _; omega) | (change (_ : Nat) * 24 ≤ _; omega) | (change (_ : Nat) * 8 ≤ _; omega) | (change (_ : Nat) * 64 ≤ _; omega) | decide)); done)); (conv => lhs; whnf); (try simp (maxSteps := 2000000) (disch := omega) only [nI64, nU64, nU32, nU8, nSubL, nAddL, nAdd, nSub, nDiv, nMod, nZ, nLit, row_3, row_5, row_16, row_22, row_28, row_46, row_48, row_108, row_115, Ty.den, dflt_it, dflt_li, dflt_kv, Int.toNat_natCast, List.take_length, List.drop_zero]))
    rw [List.drop_eq_nil_of_le (by omega : l.length ≤ i)]
    rfl
end Go.Proofs.Ytkdajonmfiipkaa.Ev
/- A block's bytes, by the document; blocks built by both. -/
namespace Go.Proofs.Ytkdajonmfiipkaa.Ev
open Go Go.RowKit
set_option linter.unusedVariables false
set_option linter.unusedSimpArgs false
set_option maxRecDepth 100000
set_option maxHeartbeats 8000000
abbrev ofC : Ctx := ⟨rows, (fun | 0 => ([0, 1, 5, 6, 7], [5, 6]) | 1 => ([], [0, 1, 5, 6, 7]) | 2 => ([5, 6, 9], [5, 6]) | 3 => ([], [5, 6, 9]) | _ => ([], []))⟩
theorem of_ok (T : Tab) (h1 : T 45 = fixedSp.ent) (h2 : T 42 = putSp.ent) (h3 : T 78 = sharedSp.ent) : builtSp.Ok T ofC F41 := by
  rw [on_top h1, on_top h2, on_top h3]
  rintro ⟨(l : List KV), (r : Int), _⟩ hf hp
  have hf1 : Fits kvl l := hf.1
  have hp : (Fair l ∧ 1 ≤ r) ∧ r ≤ 64 := by simpa only [builtSp, builtPre, Bool.and_eq_true, tst_iff] using hp
  obtain ⟨⟨⟨hl, ht⟩, hr1⟩, hr2⟩ := hp
  obtain ⟨m, rfl⟩ : ∃ m : Nat, r = m := ⟨r.toNat, by omega⟩
  obtain ⟨F, hF⟩ : ∃ F : Nat, F = l.length + 5 := ⟨_, rfl⟩
  refine ⟨F, 0, ?_⟩
  show evFn _ _ _ _ _ [vK l, vI m] [] _ = some (vO 0 (built l m) : V)
  conv => lhs; whnf
  try simp (maxSteps := 2000000) (disch := omega) only [nI64, nU64, nU32, nU8, nSubL, nAddL, nAdd, nSub, nDiv, nMod, nZ, nLit, row_3, row_5, row_16, row_22, row_28, row_46, row_48, row_108, row_115, Ty.den, dflt_it, dflt_li, dflt_kv, Int.toNat_natCast, List.take_length, List.drop_zero]
  refine (loop_rule (α := Nat × List Int × List Int) (fun a => a.1 ≤ l.length ∧ a.2.1.length + total (l.drop a.1) + 30 * (l.length - a.1) ≤ 1105199104 ∧ a.2.2.length ≤ a.1 ∧ ∀ x ∈ a.2.2, 0 ≤ x ∧ x ≤ 1105199104) (fun a => l.length - a.1)
    (fun a => (vK l :: vI m :: V.bad :: V.bad :: V.bad :: vO 1 a.2.1 :: V.own 2 i64 a.2.2 :: vI a.1 :: V.bad :: V.bad :: V.bad :: V.bad :: V.bad :: V.bad :: V.bad :: V.bad :: V.bad :: V.bad :: V.bad :: V.bad :: V.bad :: V.bad :: V.bad :: V.bad :: V.bad :: V.bad :: V.bad :: V.bad :: V.bad :: V.bad :: V.bad :: V.bad :: V.bad :: V.bad :: V.bad :: V.bad :: V.bad :: V.bad :: V.bad :: V.bad :: V.bad :: V.bad :: V.bad :: V.bad :: V.bad :: V.bad :: V.bad :: V.bad :: V.bad :: V.bad :: V.bad :: V.bad :: V.bad :: V.bad :: V.bad :: V.bad :: V.bad :: V.bad :: V.bad :: V.bad :: V.bad :: V.bad :: V.bad :: V.bad :: V.bad :: V.bad :: V.bad :: V.bad :: V.bad :: V.bad :: V.bad :: V.bad :: V.bad :: V.bad :: V.bad :: V.bad :: V.bad :: V.bad :: V.bad :: V.bad :: V.bad :: V.bad :: V.bad :: V.bad :: V.bad :: V.bad :: V.bad :: V.bad :: V.bad :: V.bad :: V.bad :: V.bad :: V.bad :: V.bad :: V.bad :: V.bad :: V.bad :: V.bad :: V.bad :: V.bad :: [])) (fun a => [.fam 0, .fam a.2.1.length, .fam a.2.2.length])
    (fun a => some (vO 0 (builtGo m (keyAt l a.1) a.1 (l.drop a.1) a.2.1 (a.2.2.flatMap fun x => fixedL x 4) a.2.2.length))) ?_ F (0, [], []) ⟨by show 0 ≤ _; omega, by show 0 + total l + 30 * (l.length - 0) ≤ _; omega, by show 0 ≤ 0; omega, fun x hx => by cases hx⟩ (by show l.length - 0 < F; omega))
  rintro ⟨i, out, ats⟩ K ⟨h4, h5, h6, h7⟩ hK
  simp only at h4 h5 h6 h7 hK ⊢
  conv => lhs; whnf
  try simp (maxSteps := 2000000) (disch := omega) only [nI64, nU64, nU32, nU8, nSubL, nAddL, nAdd, nSub, nDiv, nMod, nZ, nLit, row_3, row_5, row_16, row_22, row_28, row_46, row_48, row_108, row_115, Ty.den, dflt_it, dflt_li, dflt_kv, Int.toNat_natCast, List.take_length, List.drop_zero]
  by_cases hi : i < l.length
  · refine br_go (tst_t (by omega)) ?_
    conv => lhs; whnf
    try simp (maxSteps := 2000000) (disch := omega) only [nI64, nU64, nU32, nU8, nSubL, nAddL, nAdd, nSub, nDiv, nMod, nZ, nLit, row_3, row_5, row_16, row_22, row_28, row_46, row_48, row_108, row_115, Ty.den, dflt_it, dflt_li, dflt_kv, Int.toNat_natCast, List.take_length, List.drop_zero]
    have hk := getD_kv hf1 hi
    rw [drop_at (d := kvd) hi, total_cons] at h5
    rw [drop_at (d := kvd) hi, builtGo]
    repeat (refine br_go ?_ ?_; (focus (((repeat' first | exact rfl | exact ordB_st rfl | exact ordB_of rfl | apply band | apply tst_t | apply nt_t)  <;> (try dsimp only [Ty.den, dflt_kv]) <;> (try simp only [List.length_append, List.length_cons, List.length_nil, List.length_take, List.length_drop, List.length_replicate]) <;> (first | trivial | assumption | omega | (change (_ : Int) ≤ _; omega) | (change (_ : Int) < _; omega) | (change (_ : Nat) * 1 ≤ _; omega) | (change (_ : Nat) * 48 ≤ _; omega) | (change (_ : Nat) * 24 ≤ _; omega) | (change (_ : Nat) * 8 ≤ _; omega) | (change (_ : Nat) * 64 ≤ _; omega) | decide)); done)); (conv => lhs; whnf); (try simp (maxSteps := 2000000) (disch := omega) only [nI64, nU64, nU32, nU8, nSubL, nAddL, nAdd, nSub, nDiv, nMod, nZ, nLit, row_3, row_5, row_16, row_22, row_28, row_46, row_48, row_108, row_115, Ty.den, dflt_it, dflt_li, dflt_kv, Int.toNat_natCast, List.take_length, List.drop_zero]))
    have hz : (i : Int) % (m : Int) = ((i % m : Nat) : Int) := (Int.natCast_emod i m).symm
    have q3 := putS_len10 (n := (l.getD i kvd).2.1.length) (by omega)
    by_cases hm : i % m = 0
    · refine br_go (tst_t (by omega)) ?_
      conv => lhs; whnf
      try simp (maxSteps := 2000000) (disch := omega) only [nI64, nU64, nU32, nU8, nSubL, nAddL, nAdd, nSub, nDiv, nMod, nZ, nLit, row_3, row_5, row_16, row_22, row_28, row_46, row_48, row_108, row_115, Ty.den, dflt_it, dflt_li, dflt_kv, Int.toNat_natCast, List.take_length, List.drop_zero]
      rw [if_pos hm]
      have q1 := putS_len10 (n := 0) (by omega)
      have q2 := putS_len10 (n := (l.getD i kvd).1.length - 0) (by omega)
      have qe := entB_length (k := 0) (x := l.getD i kvd) (by omega) (by omega) (by omega)
      repeat (refine br_go ?_ ?_; (focus (((repeat' first | exact rfl | exact ordB_st rfl | exact ordB_of rfl | apply band | apply tst_t | apply nt_t)  <;> (try dsimp only [Ty.den, dflt_kv]) <;> (try simp only [List.length_append, List.length_cons, List.length_nil, List.length_take, List.length_drop, List.length_replicate]) <;> (first | trivial | assumption | omega | (change (_ : Int) ≤ _; omega) | (change (_ : Int) < _; omega) | (change (_ : Nat) * 1 ≤ _; omega) | (change (_ : Nat) * 48 ≤ _; omega) | (change (_ : Nat) * 24 ≤ _; omega) | (change (_ : Nat) * 8 ≤ _; omega) | (change (_ : Nat) * 64 ≤ _; omega) | decide)); done)); (conv => lhs; whnf); (try simp (maxSteps := 2000000) (disch := omega) only [nI64, nU64, nU32, nU8, nSubL, nAddL, nAdd, nSub, nDiv, nMod, nZ, nLit, row_3, row_5, row_16, row_22, row_28, row_46, row_48, row_108, row_115, Ty.den, dflt_it, dflt_li, dflt_kv, Int.toNat_natCast, List.take_length, List.drop_zero]))
      have e1 : out ++ entB 0 (l.getD i kvd) = out ++ putS 0 ++ putS ((l.getD i kvd).1.length - 0) ++ putS (l.getD i kvd).2.1.length ++ (l.getD i kvd).1 ++ (l.getD i kvd).2.1 := by simp only [entB, List.append_assoc, List.drop_zero]
      have e2 : (ats.flatMap fun x => fixedL x 4) ++ fixedL out.length 4 = (ats ++ [(out.length : Int)]).flatMap fun x => fixedL x 4 := by simp
      have e3 : ats.length + 1 = (ats ++ [(out.length : Int)]).length := by simp
      have := hK (i + 1, out ++ entB 0 (l.getD i kvd), ats ++ [(out.length : Int)]) ⟨by show i + 1 ≤ _; omega, by show (out ++ _).length + total (l.drop (i + 1)) + 30 * (l.length - (i + 1)) ≤ _; rw [List.length_append]; omega, by show (ats ++ _).length ≤ i + 1; rw [List.length_append]; show _ + 1 ≤ _; omega, fun x hx => by
        rcases List.mem_append.1 hx with hx | hx
        · exact h7 x hx
        · rw [List.mem_singleton.1 hx]; omega⟩ (by show _ - (i + 1) < _; omega)
      dsimp only at this
      rw [keyAt_succ] at this
      rw [e1] at this ⊢
      rw [e2, e3]
      exact this
    · refine br_no (tst_f (by omega)) ?_
      conv => lhs; whnf
      try simp (maxSteps := 2000000) (disch := omega) only [nI64, nU64, nU32, nU8, nSubL, nAddL, nAdd, nSub, nDiv, nMod, nZ, nLit, row_3, row_5, row_16, row_22, row_28, row_46, row_48, row_108, row_115, Ty.den, dflt_it, dflt_li, dflt_kv, Int.toNat_natCast, List.take_length, List.drop_zero]
      rw [if_neg hm]
      have hi0 : i ≠ 0 := by intro h; subst h; exact hm (Nat.zero_mod m)
      have hs : keyAt l i = (l.getD (i - 1) kvd).1 := if_neg hi0
      have hs1 := sharedL_left (l.getD (i - 1) kvd).1 (l.getD i kvd).1
      have hs2 := sharedL_right (l.getD (i - 1) kvd).1 (l.getD i kvd).1
      have hk' := getD_kv (i := i - 1) hf1 (by omega)
      have ei : ((i : Int) - 1).toNat = i - 1 := by omega
      have q1 := putS_len10 (n := sharedL (l.getD (i - 1) kvd).1 (l.getD i kvd).1) (by omega)
      have q2 := putS_len10 (n := (l.getD i kvd).1.length - sharedL (l.getD (i - 1) kvd).1 (l.getD i kvd).1) (by omega)
      have qe := entB_length (k := sharedL (l.getD (i - 1) kvd).1 (l.getD i kvd).1) (x := l.getD i kvd) (by omega) (by omega) (by omega)
      repeat (refine br_go ?_ ?_; (focus (((repeat' first | exact rfl | exact ordB_st rfl | exact ordB_of rfl | apply band | apply tst_t | apply nt_t)  <;> (try dsimp only [Ty.den, dflt_kv]) <;> (try simp only [List.length_append, List.length_cons, List.length_nil, List.length_take, List.length_drop, List.length_replicate]) <;> (first | trivial | assumption | omega | (change (_ : Int) ≤ _; omega) | (change (_ : Int) < _; omega) | (change (_ : Nat) * 1 ≤ _; omega) | (change (_ : Nat) * 48 ≤ _; omega) | (change (_ : Nat) * 24 ≤ _; omega) | (change (_ : Nat) * 8 ≤ _; omega) | (change (_ : Nat) * 64 ≤ _; omega) | decide)); done)); (conv => lhs; whnf); (try simp (maxSteps := 2000000) (disch := omega) only [nI64, nU64, nU32, nU8, nSubL, nAddL, nAdd, nSub, nDiv, nMod, nZ, nLit, row_3, row_5, row_16, row_22, row_28, row_46, row_48, row_108, row_115, Ty.den, dflt_it, dflt_li, dflt_kv, Int.toNat_natCast, List.take_length, List.drop_zero]))
      rw [hs]
      have e1 : out ++ entB (sharedL (l.getD (i - 1) kvd).1 (l.getD i kvd).1) (l.getD i kvd) = out ++ putS (sharedL (l.getD (i - 1) kvd).1 (l.getD i kvd).1) ++ putS ((l.getD i kvd).1.length - sharedL (l.getD (i - 1) kvd).1 (l.getD i kvd).1) ++ putS (l.getD i kvd).2.1.length ++ (l.getD i kvd).1.drop (sharedL (l.getD (i - 1) kvd).1 (l.getD i kvd).1) ++ (l.getD i kvd).2.1 := by simp only [entB, List.append_assoc]
      have := hK (i + 1, out ++ entB (sharedL (l.getD (i - 1) kvd).1 (l.getD i kvd).1) (l.getD i kvd), ats) ⟨by show i + 1 ≤ _; omega, by show (out ++ _).length + total (l.drop (i + 1)) + 30 * (l.length - (i + 1)) ≤ _; rw [List.length_append]; omega, by show ats.length ≤ i + 1; omega, h7⟩ (by show _ - (i + 1) < _; omega)
      dsimp only at this
      rw [keyAt_succ] at this
      rw [e1] at this ⊢
      exact this
  · refine br_no (tst_f (by omega)) ?_
    conv => lhs; whnf
    try simp (maxSteps := 2000000) (disch := omega) only [nI64, nU64, nU32, nU8, nSubL, nAddL, nAdd, nSub, nDiv, nMod, nZ, nLit, row_3, row_5, row_16, row_22, row_28, row_46, row_48, row_108, row_115, Ty.den, dflt_it, dflt_li, dflt_kv, Int.toNat_natCast, List.take_length, List.drop_zero]
    repeat (refine br_go ?_ ?_; (focus (((repeat' first | exact rfl | exact ordB_st rfl | exact ordB_of rfl | apply band | apply tst_t | apply nt_t)  <;> (try dsimp only [Ty.den, dflt_kv]) <;> (try simp only [List.length_append, List.length_cons, List.length_nil, List.length_take, List.length_drop, List.length_replicate]) <;> (first | trivial | assumption | omega | (change (_ : Int) ≤ _; omega) | (change (_ : Int) < _; omega) | (change (_ : Nat) * 1 ≤ _; omega) | (change (_ : Nat) * 48 ≤ _; omega) | (change (_ : Nat) * 24 ≤ _; omega) | (change (_ : Nat) * 8 ≤ _; omega) | (change (_ : Nat) * 64 ≤ _; omega) | decide)); done)); (conv => lhs; whnf); (try simp (maxSteps := 2000000) (disch := omega) only [nI64, nU64, nU32, nU8, nSubL, nAddL, nAdd, nSub, nDiv, nMod, nZ, nLit, row_3, row_5, row_16, row_22, row_28, row_46, row_48, row_108, row_115, Ty.den, dflt_it, dflt_li, dflt_kv, Int.toNat_natCast, List.take_length, List.drop_zero]))
    rw [List.drop_eq_nil_of_le (by omega : l.length ≤ i), builtGo]
    refine (loop_rule (α := Nat × List Int) (fun a => a.1 ≤ ats.length ∧ a.2.length + 4 * (ats.length - a.1) ≤ 1205199104) (fun a => ats.length - a.1)
      (fun a => (V.bad :: V.bad :: V.bad :: V.bad :: V.bad :: vO 1 a.2 :: V.own 2 i64 ats :: V.bad :: V.bad :: vI a.1 :: V.bad :: V.bad :: V.bad :: V.bad :: V.bad :: V.bad :: V.bad :: V.bad :: V.bad :: V.bad :: V.bad :: V.bad :: V.bad :: V.bad :: V.bad :: V.bad :: V.bad :: V.bad :: V.bad :: V.bad :: V.bad :: V.bad :: V.bad :: V.bad :: V.bad :: V.bad :: V.bad :: V.bad :: V.bad :: V.bad :: V.bad :: V.bad :: V.bad :: V.bad :: V.bad :: V.bad :: V.bad :: V.bad :: V.bad :: V.bad :: V.bad :: V.bad :: V.bad :: V.bad :: V.bad :: V.bad :: V.bad :: V.bad :: V.bad :: V.bad :: V.bad :: V.bad :: V.bad :: V.bad :: V.bad :: V.bad :: V.bad :: V.bad :: V.bad :: V.bad :: V.bad :: V.bad :: V.bad :: V.bad :: V.bad :: V.bad :: V.bad :: V.bad :: V.bad :: V.bad :: V.bad :: V.bad :: V.bad :: V.bad :: V.bad :: V.bad :: V.bad :: V.bad :: V.bad :: V.bad :: V.bad :: V.bad :: V.bad :: V.bad :: V.bad :: V.bad :: V.bad :: V.bad :: V.bad :: V.bad :: [])) (fun a => [.fam 0, .fam a.2.length, .fam ats.length])
      (fun a => some (vO 0 (a.2 ++ ((ats.drop a.1).flatMap fun x => fixedL x 4) ++ fixedL ats.length 4))) ?_ F (0, out) ⟨by show 0 ≤ _; omega, by show out.length + 4 * (ats.length - 0) ≤ _; omega⟩ (by show ats.length - 0 < F; omega))
    rintro ⟨j, b⟩ K ⟨g1, g2⟩ hK
    simp only at g1 g2 hK ⊢
    conv => lhs; whnf
    try simp (maxSteps := 2000000) (disch := omega) only [nI64, nU64, nU32, nU8, nSubL, nAddL, nAdd, nSub, nDiv, nMod, nZ, nLit, row_3, row_5, row_16, row_22, row_28, row_46, row_48, row_108, row_115, Ty.den, dflt_it, dflt_li, dflt_kv, Int.toNat_natCast, List.take_length, List.drop_zero]
    by_cases hj : j < ats.length
    · refine br_go (tst_t (by omega)) ?_
      conv => lhs; whnf
      try simp (maxSteps := 2000000) (disch := omega) only [nI64, nU64, nU32, nU8, nSubL, nAddL, nAdd, nSub, nDiv, nMod, nZ, nLit, row_3, row_5, row_16, row_22, row_28, row_46, row_48, row_108, row_115, Ty.den, dflt_it, dflt_li, dflt_kv, Int.toNat_natCast, List.take_length, List.drop_zero]
      have hx := h7 (ats.getD j 0) (by rw [getD_at hj]; exact List.getElem_mem _)
      have q := fixedL_length (ats.getD j 0) 4
      repeat (refine br_go ?_ ?_; (focus (((repeat' first | exact rfl | exact ordB_st rfl | exact ordB_of rfl | apply band | apply tst_t | apply nt_t)  <;> (try dsimp only [Ty.den, dflt_kv]) <;> (try simp only [List.length_append, List.length_cons, List.length_nil, List.length_take, List.length_drop, List.length_replicate]) <;> (first | trivial | assumption | omega | (change (_ : Int) ≤ _; omega) | (change (_ : Int) < _; omega) | (change (_ : Nat) * 1 ≤ _; omega) | (change (_ : Nat) * 48 ≤ _; omega) | (change (_ : Nat) * 24 ≤ _; omega) | (change (_ : Nat) * 8 ≤ _; omega) | (change (_ : Nat) * 64 ≤ _; omega) | decide)); done)); (conv => lhs; whnf); (try simp (maxSteps := 2000000) (disch := omega) only [nI64, nU64, nU32, nU8, nSubL, nAddL, nAdd, nSub, nDiv, nMod, nZ, nLit, row_3, row_5, row_16, row_22, row_28, row_46, row_48, row_108, row_115, Ty.den, dflt_it, dflt_li, dflt_kv, Int.toNat_natCast, List.take_length, List.drop_zero]))
      have := hK (j + 1, b ++ fixedL (ats.getD j 0) 4) ⟨by show j + 1 ≤ _; omega, by show (b ++ _).length + 4 * (ats.length - (j + 1)) ≤ _; rw [List.length_append, q]; omega⟩ (by show _ - (j + 1) < _; omega)
      dsimp only at this
      rw [drop_at (d := 0) hj, List.flatMap_cons, ← List.append_assoc]
      exact this
    · refine br_no (tst_f (by omega)) ?_
      conv => lhs; whnf
      try simp (maxSteps := 2000000) (disch := omega) only [nI64, nU64, nU32, nU8, nSubL, nAddL, nAdd, nSub, nDiv, nMod, nZ, nLit, row_3, row_5, row_16, row_22, row_28, row_46, row_48, row_108, row_115, Ty.den, dflt_it, dflt_li, dflt_kv, Int.toNat_natCast, List.take_length, List.drop_zero]
      have q := fixedL_length (ats.length : Int) 4
      repeat (refine br_go ?_ ?_; (focus (((repeat' first | exact rfl | exact ordB_st rfl | exact ordB_of rfl | apply band | apply tst_t | apply nt_t)  <;> (try dsimp only [Ty.den, dflt_kv]) <;> (try simp only [List.length_append, List.length_cons, List.length_nil, List.length_take, List.length_drop, List.length_replicate]) <;> (first | trivial | assumption | omega | (change (_ : Int) ≤ _; omega) | (change (_ : Int) < _; omega) | (change (_ : Nat) * 1 ≤ _; omega) | (change (_ : Nat) * 48 ≤ _; omega) | (change (_ : Nat) * 24 ≤ _; omega) | (change (_ : Nat) * 8 ≤ _; omega) | (change (_ : Nat) * 64 ≤ _; omega) | decide)); done)); (conv => lhs; whnf); (try simp (maxSteps := 2000000) (disch := omega) only [nI64, nU64, nU32, nU8, nSubL, nAddL, nAdd, nSub, nDiv, nMod, nZ, nLit, row_3, row_5, row_16, row_22, row_28, row_46, row_48, row_108, row_115, Ty.den, dflt_it, dflt_li, dflt_kv, Int.toNat_natCast, List.take_length, List.drop_zero]))
      rw [List.drop_eq_nil_of_le (by omega : ats.length ≤ j)]
      simp only [List.flatMap_nil, List.append_nil]
abbrev buildC : Ctx := ⟨rows, (fun | 0 => ([], [0, 1]) | _ => ([], []))⟩
theorem bbuild_ok (T : Tab) (h1 : T 69 = risesSp.ent) (h2 : T 70 = builtSp.ent) : buildSp.Ok T buildC F31 := by
  rw [on_top h1, on_top h2]
  rintro ⟨(l : List KV), (r : Int), _⟩ hf hp
  have hp : Fair l := tst_iff.1 hp
  have hp1 := hp.1
  have hp2 := hp.2
  obtain ⟨F, hF⟩ : ∃ F : Nat, F = 1 := ⟨_, rfl⟩
  refine ⟨F, 0, ?_⟩
  show evFn _ _ _ _ _ [vK l, vI r] [] _ = some (.tup [vO 0 (buildS l r 71 70).1, vI (buildS l r 71 70).2] : V)
  conv => lhs; whnf
  try simp (maxSteps := 2000000) (disch := omega) only [nI64, nU64, nU32, nU8, nSubL, nAddL, nAdd, nSub, nDiv, nMod, nZ, nLit, row_3, row_5, row_16, row_22, row_28, row_46, row_48, row_108, row_115, Ty.den, dflt_it, dflt_li, dflt_kv, Int.toNat_natCast, List.take_length, List.drop_zero]
  unfold buildS
  by_cases hr : r < 1
  · refine br_go (tst_t (hr)) ?_
    conv => lhs; whnf
    try simp (maxSteps := 2000000) (disch := omega) only [nI64, nU64, nU32, nU8, nSubL, nAddL, nAdd, nSub, nDiv, nMod, nZ, nLit, row_3, row_5, row_16, row_22, row_28, row_46, row_48, row_108, row_115, Ty.den, dflt_it, dflt_li, dflt_kv, Int.toNat_natCast, List.take_length, List.drop_zero]
    rw [if_pos (.inl hr)]
    repeat (refine br_go ?_ ?_; (focus (((repeat' first | exact rfl | exact ordB_st rfl | exact ordB_of rfl | apply band | apply tst_t | apply nt_t)  <;> (try dsimp only [Ty.den, dflt_kv]) <;> (try simp only [List.length_append, List.length_cons, List.length_nil, List.length_take, List.length_drop, List.length_replicate]) <;> (first | trivial | assumption | omega | (change (_ : Int) ≤ _; omega) | (change (_ : Int) < _; omega) | (change (_ : Nat) * 1 ≤ _; omega) | (change (_ : Nat) * 48 ≤ _; omega) | (change (_ : Nat) * 24 ≤ _; omega) | (change (_ : Nat) * 8 ≤ _; omega) | (change (_ : Nat) * 64 ≤ _; omega) | decide)); done)); (conv => lhs; whnf); (try simp (maxSteps := 2000000) (disch := omega) only [nI64, nU64, nU32, nU8, nSubL, nAddL, nAdd, nSub, nDiv, nMod, nZ, nLit, row_3, row_5, row_16, row_22, row_28, row_46, row_48, row_108, row_115, Ty.den, dflt_it, dflt_li, dflt_kv, Int.toNat_natCast, List.take_length, List.drop_zero]))
  · refine br_no (tst_f (hr)) ?_
    conv => lhs; whnf
    try simp (maxSteps := 2000000) (disch := omega) only [nI64, nU64, nU32, nU8, nSubL, nAddL, nAdd, nSub, nDiv, nMod, nZ, nLit, row_3, row_5, row_16, row_22, row_28, row_46, row_48, row_108, row_115, Ty.den, dflt_it, dflt_li, dflt_kv, Int.toNat_natCast, List.take_length, List.drop_zero]
    by_cases hr2 : r > 64
    · refine br_go (tst_t (hr2)) ?_
      conv => lhs; whnf
      try simp (maxSteps := 2000000) (disch := omega) only [nI64, nU64, nU32, nU8, nSubL, nAddL, nAdd, nSub, nDiv, nMod, nZ, nLit, row_3, row_5, row_16, row_22, row_28, row_46, row_48, row_108, row_115, Ty.den, dflt_it, dflt_li, dflt_kv, Int.toNat_natCast, List.take_length, List.drop_zero]
      rw [if_pos (.inr hr2)]
      repeat (refine br_go ?_ ?_; (focus (((repeat' first | exact rfl | exact ordB_st rfl | exact ordB_of rfl | apply band | apply tst_t | apply nt_t)  <;> (try dsimp only [Ty.den, dflt_kv]) <;> (try simp only [List.length_append, List.length_cons, List.length_nil, List.length_take, List.length_drop, List.length_replicate]) <;> (first | trivial | assumption | omega | (change (_ : Int) ≤ _; omega) | (change (_ : Int) < _; omega) | (change (_ : Nat) * 1 ≤ _; omega) | (change (_ : Nat) * 48 ≤ _; omega) | (change (_ : Nat) * 24 ≤ _; omega) | (change (_ : Nat) * 8 ≤ _; omega) | (change (_ : Nat) * 64 ≤ _; omega) | decide)); done)); (conv => lhs; whnf); (try simp (maxSteps := 2000000) (disch := omega) only [nI64, nU64, nU32, nU8, nSubL, nAddL, nAdd, nSub, nDiv, nMod, nZ, nLit, row_3, row_5, row_16, row_22, row_28, row_46, row_48, row_108, row_115, Ty.den, dflt_it, dflt_li, dflt_kv, Int.toNat_natCast, List.take_length, List.drop_zero]))
    · refine br_no (tst_f (hr2)) ?_
      conv => lhs; whnf
      try simp (maxSteps := 2000000) (disch := omega) only [nI64, nU64, nU32, nU8, nSubL, nAddL, nAdd, nSub, nDiv, nMod, nZ, nLit, row_3, row_5, row_16, row_22, row_28, row_46, row_48, row_108, row_115, Ty.den, dflt_it, dflt_li, dflt_kv, Int.toNat_natCast, List.take_length, List.drop_zero]
      rw [if_neg (by omega)]
      by_cases hs : Rises l
      · refine br_no (nt_f hs) ?_
        conv => lhs; whnf
        try simp (maxSteps := 2000000) (disch := omega) only [nI64, nU64, nU32, nU8, nSubL, nAddL, nAdd, nSub, nDiv, nMod, nZ, nLit, row_3, row_5, row_16, row_22, row_28, row_46, row_48, row_108, row_115, Ty.den, dflt_it, dflt_li, dflt_kv, Int.toNat_natCast, List.take_length, List.drop_zero]
        rw [if_pos hs]
        refine br_go (band (band (tst_t hp) (tst_t (show (1 : Int) ≤ r by omega))) (tst_t (show (r : Int) ≤ 64 by omega))) ?_
        conv => lhs; whnf
        try simp (maxSteps := 2000000) (disch := omega) only [nI64, nU64, nU32, nU8, nSubL, nAddL, nAdd, nSub, nDiv, nMod, nZ, nLit, row_3, row_5, row_16, row_22, row_28, row_46, row_48, row_108, row_115, Ty.den, dflt_it, dflt_li, dflt_kv, Int.toNat_natCast, List.take_length, List.drop_zero]
        repeat (refine br_go ?_ ?_; (focus (((repeat' first | exact rfl | exact ordB_st rfl | exact ordB_of rfl | apply band | apply tst_t | apply nt_t)  <;> (try dsimp only [Ty.den, dflt_kv]) <;> (try simp only [List.length_append, List.length_cons, List.length_nil, List.length_take, List.length_drop, List.length_replicate]) <;> (first | trivial | assumption | omega | (change (_ : Int) ≤ _; omega) | (change (_ : Int) < _; omega) | (change (_ : Nat) * 1 ≤ _; omega) | (change (_ : Nat) * 48 ≤ _; omega) | (change (_ : Nat) * 24 ≤ _; omega) | (change (_ : Nat) * 8 ≤ _; omega) | (change (_ : Nat) * 64 ≤ _; omega) | decide)); done)); (conv => lhs; whnf); (try simp (maxSteps := 2000000) (disch := omega) only [nI64, nU64, nU32, nU8, nSubL, nAddL, nAdd, nSub, nDiv, nMod, nZ, nLit, row_3, row_5, row_16, row_22, row_28, row_46, row_48, row_108, row_115, Ty.den, dflt_it, dflt_li, dflt_kv, Int.toNat_natCast, List.take_length, List.drop_zero]))
      · refine br_go (nt_t hs) ?_
        conv => lhs; whnf
        try simp (maxSteps := 2000000) (disch := omega) only [nI64, nU64, nU32, nU8, nSubL, nAddL, nAdd, nSub, nDiv, nMod, nZ, nLit, row_3, row_5, row_16, row_22, row_28, row_46, row_48, row_108, row_115, Ty.den, dflt_it, dflt_li, dflt_kv, Int.toNat_natCast, List.take_length, List.drop_zero]
        rw [if_neg hs]
        repeat (refine br_go ?_ ?_; (focus (((repeat' first | exact rfl | exact ordB_st rfl | exact ordB_of rfl | apply band | apply tst_t | apply nt_t)  <;> (try dsimp only [Ty.den, dflt_kv]) <;> (try simp only [List.length_append, List.length_cons, List.length_nil, List.length_take, List.length_drop, List.length_replicate]) <;> (first | trivial | assumption | omega | (change (_ : Int) ≤ _; omega) | (change (_ : Int) < _; omega) | (change (_ : Nat) * 1 ≤ _; omega) | (change (_ : Nat) * 48 ≤ _; omega) | (change (_ : Nat) * 24 ≤ _; omega) | (change (_ : Nat) * 8 ≤ _; omega) | (change (_ : Nat) * 64 ≤ _; omega) | decide)); done)); (conv => lhs; whnf); (try simp (maxSteps := 2000000) (disch := omega) only [nI64, nU64, nU32, nU8, nSubL, nAddL, nAdd, nSub, nDiv, nMod, nZ, nLit, row_3, row_5, row_16, row_22, row_28, row_46, row_48, row_108, row_115, Ty.den, dflt_it, dflt_li, dflt_kv, Int.toNat_natCast, List.take_length, List.drop_zero]))
end Go.Proofs.Ytkdajonmfiipkaa.Ev
/- Numbers laid down, seven bits a byte: by the program and by the document. -/
namespace Go.Proofs.Ytkdajonmfiipkaa.Ev
open Go Go.RowKit
set_option linter.unusedVariables false
set_option maxRecDepth 100000
theorem wrap_or {a : Int} (h : 0 ≤ a) : bits .or .u8 (IntKind.u8.wrap a) 128 = ((a.toNat % 128 + 128 : Nat) : Int) := by
  rw [wrapU8, or128 (by omega)]; omega
theorem shr7 {a : Int} (h : 0 ≤ a) : a.fdiv (2 ^ min (Int.toNat 7) IntKind.u64.bits) = a / 128 := Int.fdiv_eq_ediv_of_nonneg _ (by decide)
theorem put_big {a : Int} (h : a ≥ 128) : putS a.toNat = ((a.toNat % 128 + 128 : Nat) : Int) :: putS (a / 128).toNat := by
  rw [putS, dif_neg (by omega)]
  have : a.toNat / 128 = (a / 128).toNat := by omega
  rw [this]
theorem put_small {a : Int} (h0 : 0 ≤ a) (h : ¬ a ≥ 128) : putS a.toNat = [a] := by
  rw [putS, dif_pos (by omega), Int.toNat_of_nonneg h0]
abbrev putC : Ctx := ⟨rows, (fun | 0 => ([0, 3], [0, 3]) | 1 => ([], [0, 3]) | _ => ([], []))⟩
theorem put_ev (tab : Tab) (n : Int) (F : Nat) (hn : 0 ≤ n ∧ n < 18446744073709551616) (hF : n.toNat < F) : evFn putC tab noCall F F33 [.d (.it .u64) n] [] (fun v S => exportF putC F33.resultTypes.toList v S) = some (.own 0 (.it .u8) (putS n.toNat)) := by
  conv => lhs; whnf
  refine loop_rule (α := Int × List Int) (fun a => 0 ≤ a.1 ∧ a.1 < 18446744073709551616 ∧ List.length a.2 + (putS a.1.toNat).length ≤ 10) (fun a => a.1.toNat)
    (fun a => [.d (.it .u64) a.1, .bad, .bad, .own 1 (.it .u8) a.2, .bad, .bad, .bad, .bad, .bad, .bad, .bad, .bad, .bad, .bad, .bad, .bad, .bad, .bad, .bad]) (fun a => [.fam 0, .fam (List.length a.2)])
    (fun a => some (V.own 0 (.it .u8) (a.2 ++ putS a.1.toNat))) ?_ F (n, []) ⟨hn.1, hn.2, by simpa using putS_length64 (n := n.toNat) (by omega)⟩ hF
  rintro ⟨a, l⟩ K ⟨h1, h2, h3⟩ hK
  simp only at h1 h2 h3 hK ⊢
  conv => lhs; whnf
  by_cases ha : a ≥ 128
  · refine br_go (tst_t ha) ?_
    conv => lhs; whnf
    refine br_go (band (band rfl (tst_t rfl)) (tst_t ?_)) ?_
    · show (List.length l + 1) * 1 ≤ 140737488355328
      omega
    conv => lhs; whnf
    refine br_go (tst_t (by decide)) ?_
    conv => lhs; whnf
    have e1 := wrap_or h1
    have e2 := shr7 h1
    rw [put_big ha, List.length_cons] at h3
    refine (hK (a.fdiv (2 ^ min (Int.toNat 7) IntKind.u64.bits), l ++ [bits .or .u8 (IntKind.u8.wrap a) 128]) ?_ ?_).trans ?_
    · simp only [e1, e2, List.length_append, List.length_singleton]
      omega
    · simp only [e2]; omega
    · simp only [e1, e2, List.append_assoc, List.singleton_append, put_big ha]
  · refine br_no (tst_f ha) ?_
    conv => lhs; whnf
    refine br_go (band (band rfl (tst_t rfl)) (tst_t ?_)) ?_
    · show (List.length l + 1) * 1 ≤ 140737488355328
      omega
    conv => lhs; whnf
    refine br_go (tst_t rfl) ?_
    conv => lhs; whnf
    refine own_eq (t := .it .u8) ?_ 0
    show l ++ [IntKind.u8.wrap a] = _
    rw [put_small h1 ha, wrapU8, Int.emod_eq_of_lt h1 (by omega)]
end Go.Proofs.Ytkdajonmfiipkaa.Ev
/- Numbers of fixed width, laid down by the program. -/
namespace Go.Proofs.Ytkdajonmfiipkaa.Ev
open Go Go.RowKit
set_option linter.unusedVariables false
set_option maxRecDepth 100000
theorem wrapI64 {n : Int} (h : -9223372036854775808 ≤ n) (h' : n < 9223372036854775808) : IntKind.i64.wrap n = n := by
  simp only [IntKind.wrap, IntKind.bits, IntKind.signed, show (2 : Int) ^ 64 = 18446744073709551616 from by decide, show (2 : Int) ^ (64 - 1) = 9223372036854775808 from by decide, Bool.true_and, decide_eq_true_eq]
  by_cases c : n % 18446744073709551616 ≥ 9223372036854775808
  · rw [if_pos c]; omega
  · rw [if_neg c]; omega
theorem shr8 {a : Int} {i : Nat} (hi : i ≤ 8) : a.fdiv (2 ^ min (IntKind.i64.wrap (8 * (i : Int))).toNat IntKind.u64.bits) = a / ((256 ^ i : Nat) : Int) := by
  rw [wrapI64 (by omega) (by omega)]
  have e1 : min (8 * (i : Int)).toNat IntKind.u64.bits = 8 * i := by simp only [IntKind.bits]; omega
  rw [e1]
  have e2 : (2 : Int) ^ (8 * i) = ((256 ^ i : Nat) : Int) := by
    rw [Int.natCast_pow, show ((256 : Nat) : Int) = 2 ^ 8 from by decide, ← Int.pow_mul]
  rw [e2]
  exact Int.fdiv_eq_ediv_of_nonneg _ (Int.natCast_nonneg _)
abbrev fixedC : Ctx := ⟨rows, (fun | 0 => ([0, 5, 7, 8], [5]) | 1 => ([], [0, 5, 7, 8]) | _ => ([], []))⟩
theorem fixed_ev (tab : Tab) (n : Int) (m F : Nat) (hm : m ≤ 8) (hF : m < F) : evFn fixedC tab noCall F F75 [.d (.it .u64) n, .d (.it .i64) (m : Int)] [] (fun v S => exportF fixedC F75.resultTypes.toList v S) = some (.own 0 (.it .u8) (fixedL n m)) := by
  conv => lhs; whnf
  refine loop_rule (α := Nat) (fun i => i ≤ m) (fun i => m - i)
    (fun i => [.d (.it .u64) n, .bad, .bad, .bad, .bad, .own 1 (.it .u8) (fixedL n i), .bad, .d (.it .i64) (m : Int), .d (.it .i64) (i : Int), .bad, .bad, .bad, .bad, .bad, .bad, .bad, .bad, .bad, .bad, .bad, .bad]) (fun i => [.fam 0, .fam (List.length (fixedL n i))])
    (fun i => some (V.own 0 (.it .u8) (fixedL n m))) ?_ F 0 (Nat.zero_le _) (by omega)
  intro i K hi hK
  have hl := fixedL_length n i
  conv => lhs; whnf
  by_cases ha : (i : Int) < (m : Int)
  · refine br_go (tst_t ha) ?_
    conv => lhs; whnf
    refine br_go (tst_t (by rw [wrapI64 (by omega) (by omega)]; omega)) ?_
    conv => lhs; whnf
    refine br_go (band (band rfl (tst_t rfl)) (tst_t ?_)) ?_
    · show (List.length (fixedL n i) + 1) * 1 ≤ 140737488355328
      omega
    conv => lhs; whnf
    have e1 : fixedL n i ++ [IntKind.u8.wrap (n.fdiv (2 ^ min (IntKind.i64.wrap (8 * (i : Int))).toNat IntKind.u64.bits))] = fixedL n (i + 1) := by
      rw [shr8 (by omega), wrapU8]; rfl
    have e2 : IntKind.i64.wrap ((i : Int) + 1) = ((i + 1 : Nat) : Int) := by rw [wrapI64 (by omega) (by omega)]; rfl
    have := hK (i + 1) (by omega) (by omega)
    rw [← e1, ← e2] at this
    exact this
  · refine br_no (tst_f ha) ?_
    have : i = m := by omega
    subst this
    conv => lhs; whnf
    refine br_go (tst_t rfl) ?_
    rfl
abbrev rfixedC : Ctx := ⟨rows, (fun | 0 => ([0, 1, 5, 6], [5]) | 1 => ([], [0, 1, 5, 6]) | _ => ([], []))⟩
theorem rfixed_ev (tab : Tab) (n : Int) (m F : Nat) (hm : m ≤ 8) (hF : m < F) : evFn rfixedC tab noCall F F45 [.d (.it .u64) n, .d (.it .i64) (m : Int)] [] (fun v S => exportF rfixedC F45.resultTypes.toList v S) = some (.own 0 (.it .u8) (fixedL n m)) := by
  conv => lhs; whnf
  refine loop_rule (α := Nat) (fun i => i ≤ m) (fun i => m - i)
    (fun i => [.d (.it .u64) n, .d (.it .i64) (m : Int), .bad, .bad, .bad, .own 1 (.it .u8) (fixedL n i), .d (.it .i64) (i : Int), .bad, .bad, .bad, .bad, .bad, .bad, .bad, .bad, .bad, .bad, .bad, .bad, .bad, .bad]) (fun i => [.fam 0, .fam (List.length (fixedL n i))])
    (fun i => some (V.own 0 (.it .u8) (fixedL n m))) ?_ F 0 (Nat.zero_le _) (by omega)
  intro i K hi hK
  have hl := fixedL_length n i
  conv => lhs; whnf
  by_cases ha : (i : Int) < (m : Int)
  · refine br_go (tst_t ha) ?_
    conv => lhs; whnf
    refine br_go (tst_t (by rw [wrapI64 (by omega) (by omega)]; omega)) ?_
    conv => lhs; whnf
    refine br_go (band (band rfl (tst_t rfl)) (tst_t ?_)) ?_
    · show (List.length (fixedL n i) + 1) * 1 ≤ 140737488355328
      omega
    conv => lhs; whnf
    have e1 : fixedL n i ++ [IntKind.u8.wrap (n.fdiv (2 ^ min (IntKind.i64.wrap (8 * (i : Int))).toNat IntKind.u64.bits))] = fixedL n (i + 1) := by
      rw [shr8 (by omega), wrapU8]; rfl
    have e2 : IntKind.i64.wrap ((i : Int) + 1) = ((i + 1 : Nat) : Int) := by rw [wrapI64 (by omega) (by omega)]; rfl
    have := hK (i + 1) (by omega) (by omega)
    rw [← e1, ← e2] at this
    exact this
  · refine br_no (tst_f ha) ?_
    have : i = m := by omega
    subst this
    conv => lhs; whnf
    refine br_go (tst_t rfl) ?_
    rfl
end Go.Proofs.Ytkdajonmfiipkaa.Ev
/- Numbers of fixed width, read by the program. -/
namespace Go.Proofs.Ytkdajonmfiipkaa.Ev
open Go Go.RowKit
set_option linter.unusedVariables false
set_option maxRecDepth 100000
theorem shl8 {x : Int} {i : Nat} (hi : i ≤ 7) (hx : 0 ≤ x ∧ x < 256) : IntKind.u64.wrap (IntKind.u64.wrap x * 2 ^ min (IntKind.i64.wrap (8 * (i : Int))).toNat IntKind.u64.bits) = x * ((256 ^ i : Nat) : Int) := by
  rw [wrapI64 (by omega) (by omega), wrapU64_id hx.1 (by omega)]
  have e1 : min (8 * (i : Int)).toNat IntKind.u64.bits = 8 * i := by simp only [IntKind.bits]; omega
  have e2 : (2 : Int) ^ (8 * i) = ((256 ^ i : Nat) : Int) := by
    rw [Int.natCast_pow, show ((256 : Nat) : Int) = 2 ^ 8 from by decide, ← Int.pow_mul]
  rw [e1, e2, wrapU64_id]
  · exact Int.mul_nonneg hx.1 (Int.natCast_nonneg _)
  · have p : (256 : Nat) ^ i ≤ 256 ^ 7 := Nat.pow_le_pow_right (by decide) hi
    have p' : ((256 ^ i : Nat) : Int) ≤ 72057594037927936 := by
      have : (256 : Nat) ^ 7 = 72057594037927936 := by decide
      omega
    calc x * ((256 ^ i : Nat) : Int) ≤ 255 * ((256 ^ i : Nat) : Int) := Int.mul_le_mul_of_nonneg_right (by omega) (Int.natCast_nonneg _)
      _ < 18446744073709551616 := by omega
abbrev unfixedC : Ctx := ⟨rows, (fun | 0 => ([0, 6, 12, 13], [6]) | 1 => ([], [0, 6, 12, 13]) | _ => ([], []))⟩
theorem unfixed_ev (tab : Tab) (l : List Int) (hb : Bytes l) (m F : Nat) (hm : m ≤ 8) (hml : m ≤ l.length) (hF : m < F) : evFn unfixedC tab noCall F F82 [.d (.li (.it .u8)) l, .d (.it .i64) (m : Int)] [] (fun v S => exportF unfixedC F82.resultTypes.toList v S) = some (.tup [.d (.it .u64) (leVal (l.take m)), .d (.it .i64) 0]) := by
  conv => lhs; whnf
  refine br_no (tst_f (by omega)) ?_
  conv => lhs; whnf
  refine loop_rule (α := Nat) (fun i => i ≤ m) (fun i => m - i)
    (fun i => [.d (.li (.it .u8)) l, .bad, .bad, .bad, .bad, .bad, .d (.it .u64) (leVal (l.take i)), .bad, .bad, .bad, .bad, .bad, .d (.it .i64) (m : Int), .d (.it .i64) (i : Int), .bad, .bad, .bad, .bad, .bad, .bad, .bad, .bad, .bad, .bad, .bad, .bad, .bad, .bad]) (fun i => [.gone])
    (fun i => some (V.tup [.d (.it .u64) (leVal (l.take m)), .d (.it .i64) 0])) ?_ F 0 (Nat.zero_le _) (by omega)
  intro i K hi hK
  conv => lhs; whnf
  by_cases ha : (i : Int) < (m : Int)
  · refine br_go (tst_t ha) ?_
    conv => lhs; whnf
    refine br_go (band (tst_t (show (0 : Int) ≤ (i : Int) by omega)) (tst_t (show (i : Int) < ((List.length l : Nat) : Int) by omega))) ?_
    conv => lhs; whnf
    refine br_go (tst_t (by rw [wrapI64 (by omega) (by omega)]; omega)) ?_
    conv => lhs; whnf
    have hx := rd_bytes hb (i : Int)
    have hr := leVal_range (hb.take i)
    have hlen : (l.take i).length = i := by rw [List.length_take]; omega
    rw [hlen] at hr
    have p : (256 : Nat) ^ i ≤ 256 ^ 7 := Nat.pow_le_pow_right (by decide) (by omega)
    have p' : ((256 ^ i : Nat) : Int) ≤ 72057594037927936 := by
      have : (256 : Nat) ^ 7 = 72057594037927936 := by decide
      omega
    have e1 : bits .or .u64 (leVal (l.take i)) (IntKind.u64.wrap (IntKind.u64.wrap (rd l (i : Int)) * 2 ^ min (IntKind.i64.wrap (8 * (i : Int))).toNat IntKind.u64.bits)) = leVal (l.take (i + 1)) := by
      rw [shl8 (by omega) hx, bits_or64 (by omega) hr ⟨hx.1, ?_⟩, take_succ' (by omega), leVal_append, hlen]
      · simp [leVal, Int.mul_comm]
      · calc rd l (i : Int) * ((256 ^ i : Nat) : Int) ≤ 255 * ((256 ^ i : Nat) : Int) := Int.mul_le_mul_of_nonneg_right (by omega) (Int.natCast_nonneg _)
          _ < 18446744073709551616 := by omega
    have e2 : IntKind.i64.wrap ((i : Int) + 1) = ((i + 1 : Nat) : Int) := by rw [wrapI64 (by omega) (by omega)]; rfl
    have := hK (i + 1) (by omega) (by omega)
    rw [← e1, ← e2] at this
    exact this
  · refine br_no (tst_f ha) ?_
    have : i = m := by omega
    subst this
    rfl
end Go.Proofs.Ytkdajonmfiipkaa.Ev
/- Numbers of fixed width. -/
namespace Go.Proofs.Ytkdajonmfiipkaa.Ev
open Go Go.RowKit
set_option linter.unusedVariables false
set_option maxRecDepth 100000
set_option maxHeartbeats 8000000
theorem put_ok (T : Tab) : putSp.Ok T putC F33 := by
  rintro ⟨(n : Int), _⟩ hf _
  have := fits_u64.1 hf.1
  exact ⟨Int.toNat n + 1, 0, put_ev T n (Int.toNat n + 1) ⟨this.1, by omega⟩ (by omega)⟩
theorem fixed_ok (T : Tab) : fixedSp.Ok T fixedC F75 := by
  rintro ⟨(n : Int), (m : Int), _⟩ hf hp
  have hp : (0 : Int) ≤ m ∧ (m : Int) ≤ 8 := by simpa only [fixedSp, Bool.and_eq_true, tst_iff] using hp
  have := fixed_ev T n (Int.toNat m) (Int.toNat m + 1) (Int.toNat_le.2 hp.2) (Nat.lt_succ_self _)
  rw [Int.toNat_of_nonneg hp.1] at this
  exact ⟨_, 0, this⟩
abbrev fixed4C : Ctx := ⟨rows, (fun  | _ => ([], []))⟩
theorem fixed4_ok (T : Tab) (h1 : T 75 = fixedSp.ent) : fixed4Sp.Ok T fixed4C F71 := by
  rw [on_top h1]
  rintro ⟨(n : Int), _⟩ hf _
  have := fits_u32.1 hf.1
  refine ⟨1, 0, ?_⟩
  conv => lhs; whnf
  try simp (maxSteps := 2000000) (disch := omega) only [nI64, nU64, nU32, nU8, nSubL, nAddL, nAdd, nSub, nDiv, nMod, nZ, nLit, row_3, row_5, row_16, row_22, row_28, row_46, row_48, row_108, row_115, Ty.den, dflt_it, dflt_li, dflt_kv, Int.toNat_natCast, List.take_length, List.drop_zero]
  refine br_go ?_ ?_
  focus (((repeat' first | exact rfl | exact ordB_st rfl | exact ordB_of rfl | apply band | apply tst_t | apply nt_t)  <;> (try dsimp only [Ty.den, dflt_kv]) <;> (try simp only [List.length_append, List.length_cons, List.length_nil, List.length_take, List.length_drop, List.length_replicate]) <;> (first | trivial | assumption | omega | (change (_ : Int) ≤ _; omega) | (change (_ : Int) < _; omega) | (change (_ : Nat) * 1 ≤ _; omega) | (change (_ : Nat) * 48 ≤ _; omega) | (change (_ : Nat) * 24 ≤ _; omega) | (change (_ : Nat) * 8 ≤ _; omega) | (change (_ : Nat) * 64 ≤ _; omega) | decide)); done)
  conv => lhs; whnf
  try simp (maxSteps := 2000000) (disch := omega) only [nI64, nU64, nU32, nU8, nSubL, nAddL, nAdd, nSub, nDiv, nMod, nZ, nLit, row_3, row_5, row_16, row_22, row_28, row_46, row_48, row_108, row_115, Ty.den, dflt_it, dflt_li, dflt_kv, Int.toNat_natCast, List.take_length, List.drop_zero]
  refine br_go ?_ ?_
  focus (((repeat' first | exact rfl | exact ordB_st rfl | exact ordB_of rfl | apply band | apply tst_t | apply nt_t)  <;> (try dsimp only [Ty.den, dflt_kv]) <;> (try simp only [List.length_append, List.length_cons, List.length_nil, List.length_take, List.length_drop, List.length_replicate]) <;> (first | trivial | assumption | omega | (change (_ : Int) ≤ _; omega) | (change (_ : Int) < _; omega) | (change (_ : Nat) * 1 ≤ _; omega) | (change (_ : Nat) * 48 ≤ _; omega) | (change (_ : Nat) * 24 ≤ _; omega) | (change (_ : Nat) * 8 ≤ _; omega) | (change (_ : Nat) * 64 ≤ _; omega) | decide)); done)
  conv => lhs; whnf
  try simp (maxSteps := 2000000) (disch := omega) only [nI64, nU64, nU32, nU8, nSubL, nAddL, nAdd, nSub, nDiv, nMod, nZ, nLit, row_3, row_5, row_16, row_22, row_28, row_46, row_48, row_108, row_115, Ty.den, dflt_it, dflt_li, dflt_kv, Int.toNat_natCast, List.take_length, List.drop_zero]
  rfl
end Go.Proofs.Ytkdajonmfiipkaa.Ev
/- Keys and their parts, by the program. -/
namespace Go.Proofs.Ytkdajonmfiipkaa.Ev
open Go Go.RowKit
set_option linter.unusedVariables false
set_option linter.unusedSimpArgs false
set_option maxRecDepth 100000
set_option maxHeartbeats 8000000
abbrev fixed8C : Ctx := ⟨rows, (fun  | _ => ([], []))⟩
theorem fixed8_ok (T : Tab) (h1 : T 75 = fixedSp.ent) : fixed8Sp.Ok T fixed8C F38 := by
  rw [on_top h1]
  rintro ⟨(n : Int), _⟩ hf _
  refine ⟨1, 0, ?_⟩
  conv => lhs; whnf
  try simp (maxSteps := 2000000) (disch := omega) only [nI64, nU64, nU32, nU8, nSubL, nAddL, nAdd, nSub, nDiv, nMod, nZ, nLit, row_3, row_5, row_16, row_22, row_28, row_46, row_48, row_108, row_115, Ty.den, dflt_it, dflt_li, dflt_kv, Int.toNat_natCast, List.take_length, List.drop_zero]
  refine br_go ?_ ?_
  focus (((repeat' first | exact rfl | exact ordB_st rfl | exact ordB_of rfl | apply band | apply tst_t | apply nt_t)  <;> (try dsimp only [Ty.den, dflt_kv]) <;> (try simp only [List.length_append, List.length_cons, List.length_nil, List.length_take, List.length_drop, List.length_replicate]) <;> (first | trivial | assumption | omega | (change (_ : Int) ≤ _; omega) | (change (_ : Int) < _; omega) | (change (_ : Nat) * 1 ≤ _; omega) | (change (_ : Nat) * 48 ≤ _; omega) | (change (_ : Nat) * 24 ≤ _; omega) | (change (_ : Nat) * 8 ≤ _; omega) | (change (_ : Nat) * 64 ≤ _; omega) | decide)); done)
  conv => lhs; whnf
  try simp (maxSteps := 2000000) (disch := omega) only [nI64, nU64, nU32, nU8, nSubL, nAddL, nAdd, nSub, nDiv, nMod, nZ, nLit, row_3, row_5, row_16, row_22, row_28, row_46, row_48, row_108, row_115, Ty.den, dflt_it, dflt_li, dflt_kv, Int.toNat_natCast, List.take_length, List.drop_zero]
  refine br_go ?_ ?_
  focus (((repeat' first | exact rfl | exact ordB_st rfl | exact ordB_of rfl | apply band | apply tst_t | apply nt_t)  <;> (try dsimp only [Ty.den, dflt_kv]) <;> (try simp only [List.length_append, List.length_cons, List.length_nil, List.length_take, List.length_drop, List.length_replicate]) <;> (first | trivial | assumption | omega | (change (_ : Int) ≤ _; omega) | (change (_ : Int) < _; omega) | (change (_ : Nat) * 1 ≤ _; omega) | (change (_ : Nat) * 48 ≤ _; omega) | (change (_ : Nat) * 24 ≤ _; omega) | (change (_ : Nat) * 8 ≤ _; omega) | (change (_ : Nat) * 64 ≤ _; omega) | decide)); done)
  conv => lhs; whnf
  try simp (maxSteps := 2000000) (disch := omega) only [nI64, nU64, nU32, nU8, nSubL, nAddL, nAdd, nSub, nDiv, nMod, nZ, nLit, row_3, row_5, row_16, row_22, row_28, row_46, row_48, row_108, row_115, Ty.den, dflt_it, dflt_li, dflt_kv, Int.toNat_natCast, List.take_length, List.drop_zero]
  exact own_eq rfl 0
theorem bytes_of {l : List Int} (h : Fits byl l) : Bytes l := fun x hx => by have := h.2 x hx; have := fits_u8.1 this; omega
theorem unfixed_ok (T : Tab) : unfixedSp.Ok T unfixedC F82 := by
  rintro ⟨(l : List Int), (m : Int), _⟩ hf hp
  have hp : (0 : Int) ≤ m ∧ (m : Int) ≤ 8 := by simpa only [unfixedSp, Bool.and_eq_true, tst_iff] using hp
  have hb := bytes_of hf.1
  by_cases h : l.length < Int.toNat m
  · have e : unfixedS l (Int.toNat m) = (0, 20) := if_pos h
    refine ⟨1, 0, ?_⟩
    show _ = some (unfixedSp.res (l, m, ()))
    simp only [unfixedSp, e]
    show evFn _ _ _ _ _ [.d byl l, .d i64 m] [] _ = _
    conv => lhs; whnf
    try simp (maxSteps := 2000000) (disch := omega) only [nI64, nU64, nU32, nU8, nSubL, nAddL, nAdd, nSub, nDiv, nMod, nZ, nLit, row_3, row_5, row_16, row_22, row_28, row_46, row_48, row_108, row_115, Ty.den, dflt_it, dflt_li, dflt_kv, Int.toNat_natCast, List.take_length, List.drop_zero]
    refine br_go (tst_t ?_) ?_
    · show ((List.length l : Nat) : Int) < m; omega
    rfl
  · have := unfixed_ev T l hb (Int.toNat m) (Int.toNat m + 1) (Int.toNat_le.2 hp.2) (by omega) (Nat.lt_succ_self _)
    rw [Int.toNat_of_nonneg hp.1] at this
    have e : unfixedS l (Int.toNat m) = (leVal (l.take (Int.toNat m)), 0) := if_neg h
    refine ⟨Int.toNat m + 1, 0, ?_⟩
    show _ = some (unfixedSp.res (l, m, ()))
    simp only [unfixedSp, e]
    exact this
abbrev unfixed4C : Ctx := ⟨rows, (fun  | _ => ([], []))⟩
theorem unfixedS_range {l : List Int} (hb : Bytes l) (n : Nat) : 0 ≤ (unfixedS l n).1 ∧ (unfixedS l n).1 < ((256 ^ n : Nat) : Int) := by
  unfold unfixedS
  split
  · have : 0 < 256 ^ n := Nat.pow_pos (by omega)
    constructor
    · show (0 : Int) ≤ 0; omega
    · show (0 : Int) < _; omega
  · have := leVal_range (hb.take n)
    rw [List.length_take, Nat.min_eq_left (by omega)] at this
    exact this
theorem unfixed4_ok (T : Tab) (h1 : T 82 = unfixedSp.ent) : unfixed4Sp.Ok T unfixed4C F81 := by
  rw [on_top h1]
  rintro ⟨(l : List Int), _⟩ hf _
  have := unfixedS_range (bytes_of hf.1) 4
  obtain ⟨F, hF⟩ : ∃ F : Nat, F = 1 := ⟨_, rfl⟩
  refine ⟨F, 0, ?_⟩
  show evFn _ _ _ _ _ [.d byl l] [] _ = some (.tup [.d u32 (unfixedS l 4).1, .d i64 (unfixedS l 4).2] : V)
  conv => lhs; whnf
  try simp (maxSteps := 2000000) (disch := omega) only [nI64, nU64, nU32, nU8, nSubL, nAddL, nAdd, nSub, nDiv, nMod, nZ, nLit, row_3, row_5, row_16, row_22, row_28, row_46, row_48, row_108, row_115, Ty.den, dflt_it, dflt_li, dflt_kv, Int.toNat_natCast, List.take_length, List.drop_zero]
  refine br_go ?_ ?_
  focus (((repeat' first | exact rfl | exact ordB_st rfl | exact ordB_of rfl | apply band | apply tst_t | apply nt_t)  <;> (try dsimp only [Ty.den, dflt_kv]) <;> (try simp only [List.length_append, List.length_cons, List.length_nil, List.length_take, List.length_drop, List.length_replicate]) <;> (first | trivial | assumption | omega | (change (_ : Int) ≤ _; omega) | (change (_ : Int) < _; omega) | (change (_ : Nat) * 1 ≤ _; omega) | (change (_ : Nat) * 48 ≤ _; omega) | (change (_ : Nat) * 24 ≤ _; omega) | (change (_ : Nat) * 8 ≤ _; omega) | (change (_ : Nat) * 64 ≤ _; omega) | decide)); done)
  conv => lhs; whnf
  try simp (maxSteps := 2000000) (disch := omega) only [nI64, nU64, nU32, nU8, nSubL, nAddL, nAdd, nSub, nDiv, nMod, nZ, nLit, row_3, row_5, row_16, row_22, row_28, row_46, row_48, row_108, row_115, Ty.den, dflt_it, dflt_li, dflt_kv, Int.toNat_natCast, List.take_length, List.drop_zero]
  have e : IntKind.u32.wrap (unfixedS l 4).1 = (unfixedS l 4).1 := by
    rw [wrapU32]
    have e : (256 : Nat) ^ 4 = 4294967296 := by decide
    dsimp only at this
    omega
  have e2 : some (V.tup [.d u32 (IntKind.u32.wrap (unfixedS l 4).1), .d i64 (unfixedS l 4).2]) = some (V.tup [.d u32 (unfixedS l 4).1, .d i64 (unfixedS l 4).2]) := by rw [e]
  exact e2
abbrev unfixed8C : Ctx := ⟨rows, (fun  | _ => ([], []))⟩
theorem unfixed8_ok (T : Tab) (h1 : T 82 = unfixedSp.ent) : unfixed8Sp.Ok T unfixed8C F49 := by
  rw [on_top h1]
  rintro ⟨(l : List Int), _⟩ hf _
  refine ⟨1, 0, ?_⟩
  conv => lhs; whnf
  try simp (maxSteps := 2000000) (disch := omega) only [nI64, nU64, nU32, nU8, nSubL, nAddL, nAdd, nSub, nDiv, nMod, nZ, nLit, row_3, row_5, row_16, row_22, row_28, row_46, row_48, row_108, row_115, Ty.den, dflt_it, dflt_li, dflt_kv, Int.toNat_natCast, List.take_length, List.drop_zero]
  refine br_go ?_ ?_
  focus (((repeat' first | exact rfl | exact ordB_st rfl | exact ordB_of rfl | apply band | apply tst_t | apply nt_t)  <;> (try dsimp only [Ty.den, dflt_kv]) <;> (try simp only [List.length_append, List.length_cons, List.length_nil, List.length_take, List.length_drop, List.length_replicate]) <;> (first | trivial | assumption | omega | (change (_ : Int) ≤ _; omega) | (change (_ : Int) < _; omega) | (change (_ : Nat) * 1 ≤ _; omega) | (change (_ : Nat) * 48 ≤ _; omega) | (change (_ : Nat) * 24 ≤ _; omega) | (change (_ : Nat) * 8 ≤ _; omega) | (change (_ : Nat) * 64 ≤ _; omega) | decide)); done)
  conv => lhs; whnf
  try simp (maxSteps := 2000000) (disch := omega) only [nI64, nU64, nU32, nU8, nSubL, nAddL, nAdd, nSub, nDiv, nMod, nZ, nLit, row_3, row_5, row_16, row_22, row_28, row_46, row_48, row_108, row_115, Ty.den, dflt_it, dflt_li, dflt_kv, Int.toNat_natCast, List.take_length, List.drop_zero]
  rfl
abbrev rightC : Ctx := ⟨rows, (fun  | _ => ([], []))⟩
theorem right_ok (T : Tab) : rightSp.Ok T rightC F54 := by
  rintro ⟨(l : List Int), (a : Int), (b : Int), _⟩ hf _
  obtain ⟨F, hF⟩ : ∃ F : Nat, F = 1 := ⟨_, rfl⟩
  refine ⟨F, 0, ?_⟩
  show evFn _ _ _ _ _ [.d byl l, .d u64 a, .d i64 b] [] _ = some (.d .bo (tst (Right l a b)) : V)
  conv => lhs; whnf
  try simp (maxSteps := 2000000) (disch := omega) only [nI64, nU64, nU32, nU8, nSubL, nAddL, nAdd, nSub, nDiv, nMod, nZ, nLit, row_3, row_5, row_16, row_22, row_28, row_46, row_48, row_108, row_115, Ty.den, dflt_it, dflt_li, dflt_kv, Int.toNat_natCast, List.take_length, List.drop_zero]
  repeat' (first | (refine br_split (fun _ => ?_) (fun _ => ?_) <;> (conv => lhs; whnf) <;> (try simp (maxSteps := 2000000) (disch := omega) only [nI64, nU64, nU32, nU8, nSubL, nAddL, nAdd, nSub, nDiv, nMod, nZ, nLit, row_3, row_5, row_16, row_22, row_28, row_46, row_48, row_108, row_115, Ty.den, dflt_it, dflt_li, dflt_kv, Int.toNat_natCast, List.take_length, List.drop_zero])) | (refine br_go ?_ ?_; (focus (((repeat' first | exact rfl | exact ordB_st rfl | exact ordB_of rfl | apply band | apply tst_t | apply nt_t)  <;> (try dsimp only [Ty.den, dflt_kv]) <;> (try simp only [List.length_append, List.length_cons, List.length_nil, List.length_take, List.length_drop, List.length_replicate]) <;> (first | trivial | assumption | omega | (change (_ : Int) ≤ _; omega) | (change (_ : Int) < _; omega) | (change (_ : Nat) * 1 ≤ _; omega) | (change (_ : Nat) * 48 ≤ _; omega) | (change (_ : Nat) * 24 ≤ _; omega) | (change (_ : Nat) * 8 ≤ _; omega) | (change (_ : Nat) * 64 ≤ _; omega) | decide)); done)); (conv => lhs; whnf); (try simp (maxSteps := 2000000) (disch := omega) only [nI64, nU64, nU32, nU8, nSubL, nAddL, nAdd, nSub, nDiv, nMod, nZ, nLit, row_3, row_5, row_16, row_22, row_28, row_46, row_48, row_108, row_115, Ty.den, dflt_it, dflt_li, dflt_kv, Int.toNat_natCast, List.take_length, List.drop_zero])))
  all_goals unfold Right
  all_goals
    (first | exact bo_t (by skip; omega) | exact bo_f (by skip; omega) | exact bo_tst (by skip; omega))
end Go.Proofs.Ytkdajonmfiipkaa.Ev
/- The sum CRC-32C, by the program and by the document: one fold over the bytes. -/
namespace Go.Proofs.Ytkdajonmfiipkaa.Ev
open Go Go.RowKit
set_option linter.unusedVariables false
set_option linter.unusedSimpArgs false
set_option maxRecDepth 100000
set_option maxHeartbeats 8000000
def cpoly : BitVec 32 := 2197175160#32
/-- one bit's cstep -/
def cstep (b : BitVec 32) : BitVec 32 := (b >>> 1) ^^^ (if b.getLsbD 0 then cpoly else 0#32)
def csteps : Nat → BitVec 32 → BitVec 32
  | 0, b => b
  | n + 1, b => csteps n (cstep b)
/-- all bytes -/
def crcF (c : BitVec 32) : List Int → BitVec 32
  | [] => c
  | x :: l => crcF (csteps 8 (c ^^^ BitVec.ofInt 32 x)) l
def crc (l : List Int) : BitVec 32 := BitVec.allOnes 32 ^^^ crcF (BitVec.allOnes 32) l

theorem cstep_xor (a b : BitVec 32) : cstep (a ^^^ b) = cstep a ^^^ cstep b := by
  unfold cstep
  rw [BitVec.ushiftRight_xor_distrib, BitVec.getLsbD_xor]
  have e : ∀ p q r : BitVec 32, (p ^^^ r) ^^^ (q ^^^ r) = p ^^^ q := by
    intro p q r
    refine BitVec.eq_of_getLsbD_eq fun i _ => ?_
    simp only [BitVec.getLsbD_xor]
    cases p.getLsbD i <;> cases q.getLsbD i <;> cases r.getLsbD i <;> rfl
  cases a.getLsbD 0 <;> cases b.getLsbD 0 <;> simp [e] <;> ac_rfl
theorem csteps_xor (n : Nat) (a b : BitVec 32) : csteps n (a ^^^ b) = csteps n a ^^^ csteps n b := by
  induction n generalizing a b with
  | zero => rfl
  | succ n ih => simp only [csteps, cstep_xor, ih]
theorem cstep_inj {a b : BitVec 32} (h : cstep a = cstep b) : a = b := by
  have top : ∀ x : BitVec 32, (cstep x).getLsbD 31 = x.getLsbD 0 := by
    intro x
    unfold cstep
    rw [BitVec.getLsbD_xor, BitVec.getLsbD_ushiftRight]
    cases x.getLsbD 0 <;> simp [cpoly]
  have h0 : a.getLsbD 0 = b.getLsbD 0 := by rw [← top a, ← top b, h]
  have hs : a >>> 1 = b >>> 1 := by
    unfold cstep at h
    rw [h0] at h
    have := congrArg (· ^^^ (if b.getLsbD 0 then cpoly else 0#32)) h
    simpa [BitVec.xor_assoc] using this
  refine BitVec.eq_of_getLsbD_eq fun i hi => ?_
  cases i with
  | zero => exact h0
  | succ i =>
    have := congrArg (·.getLsbD i) hs
    simpa [BitVec.getLsbD_ushiftRight, Nat.add_comm] using this
theorem csteps_inj {n : Nat} {a b : BitVec 32} (h : csteps n a = csteps n b) : a = b := by
  induction n generalizing a b with
  | zero => exact h
  | succ n ih => exact cstep_inj (ih h)
theorem crcF_inj {l : List Int} {a b : BitVec 32} (h : crcF a l = crcF b l) : a = b := by
  induction l generalizing a b with
  | nil => exact h
  | cons x l ih =>
    have := csteps_inj (ih h)
    have := congrArg (· ^^^ BitVec.ofInt 32 x) this
    simpa [BitVec.xor_assoc] using this
theorem crcF_append (c : BitVec 32) (a b : List Int) : crcF c (a ++ b) = crcF (crcF c a) b := by
  induction a generalizing c with
  | nil => rfl
  | cons x l ih => exact ih _

theorem step_prog (x : BitVec 32) : Go.bits .xor .u32 ((x.toNat : Int) / 2) (Go.bits .and .u32 2197175160 ((-(Go.bits .and .u32 (x.toNat : Int) 1)) % 4294967296)) = ((cstep x).toNat : Int) := by
  rw [bits_xor32, bits_and32, bits_and32]
  have e1 : BitVec.ofInt 32 ((x.toNat : Int) / 2) = x >>> 1 := by
    have : ((x.toNat : Int) / (2 : Int)) = ((x >>> 1).toNat : Int) := by
      rw [BitVec.toNat_ushiftRight, Nat.shiftRight_eq_div_pow]; omega
    rw [this, ofInt_toNat]
  have e2 : BitVec.ofInt 32 (x.toNat : Int) &&& BitVec.ofInt 32 1 = if x.getLsbD 0 then 1#32 else 0#32 := by
    rw [ofInt_toNat]
    refine BitVec.eq_of_getLsbD_eq fun i hi => ?_
    have : BitVec.ofInt 32 1 = 1#32 := by decide
    rw [this]
    cases i with
    | zero => cases h : x.getLsbD 0 <;> simp only [BitVec.getLsbD_and, h] <;> decide
    | succ i => cases h : x.getLsbD 0 <;> simp [BitVec.getLsbD_one]
  rw [e1, e2]
  congr 2
  unfold cstep
  congr 1
  cases x.getLsbD 0 <;> decide
theorem tdiv_nat (n : Nat) : Int.tdiv (n : Int) 2 = ((n / 2 : Nat) : Int) := by
  rw [Int.tdiv_eq_ediv_of_nonneg (Int.natCast_nonneg _)]; omega
theorem tmod_nat (n : Nat) : Int.tmod (n : Int) 2 = ((n % 2 : Nat) : Int) := by
  rw [Int.tmod_eq_emod_of_nonneg (Int.natCast_nonneg _)]; omega
theorem div2 (x : BitVec 32) : BitVec.ofInt 32 (((x.toNat / 2 : Nat) : Int) % 4294967296) = x >>> 1 := by
  have hx := x.isLt
  have : (((x.toNat / 2 : Nat) : Int) % (4294967296 : Int)) = ((x >>> 1).toNat : Int) := by
    rw [BitVec.toNat_ushiftRight, Nat.shiftRight_eq_div_pow]; omega
  rw [this, ofInt_toNat]
theorem lsb_true (x : BitVec 32) : x.getLsbD 0 = true ↔ x.toNat % 2 = 1 := by
  simp [BitVec.getLsbD, Nat.testBit_zero]
theorem step_ref1 {x : BitVec 32} (h : Int.tmod (x.toNat : Int) 2 = 1) : Go.bits .xor .u32 ((Int.tdiv (x.toNat : Int) 2) % 4294967296) 2197175160 = ((cstep x).toNat : Int) := by
  have hx := x.isLt
  rw [tmod_nat] at h
  rw [bits_xor32, tdiv_nat, div2]
  have hb : x.getLsbD 0 = true := by rw [lsb_true]; omega
  unfold cstep
  rw [hb, if_pos rfl]
  rfl
theorem step_ref0 {x : BitVec 32} (h : ¬ Int.tmod (x.toNat : Int) 2 = 1) : (Int.tdiv (x.toNat : Int) 2) % 4294967296 = ((cstep x).toNat : Int) := by
  have hx := x.isLt
  rw [tmod_nat] at h
  have hb : x.getLsbD 0 = false := by
    rw [← Bool.not_eq_true, lsb_true]; omega
  unfold cstep
  rw [hb, if_neg (by decide), BitVec.xor_zero, BitVec.toNat_ushiftRight, Nat.shiftRight_eq_div_pow, tdiv_nat]
  omega

theorem xor_byte {c : BitVec 32} {x : Int} (h : 0 ≤ x ∧ x < 256) : Go.bits .xor .u32 (c.toNat : Int) (x % 4294967296) = ((c ^^^ BitVec.ofInt 32 x).toNat : Int) := by
  rw [bits_xor32, ofInt_toNat, Int.emod_eq_of_lt h.1 (by omega)]


theorem crc_byte {l : List Int} (hb : Bytes l) {i : Nat} (hi : i < l.length) {c : BitVec 32} : Go.bits .xor .u32 (c.toNat : Int) (IntKind.u32.wrap (l.getD i 0)) = ((c ^^^ BitVec.ofInt 32 (rd l i)).toNat : Int) := by
  rw [wrapU32]
  exact xor_byte (rd_bytes hb i)
theorem crc_shr (x : BitVec 32) : ((x.toNat : Int)).fdiv (2 ^ min 1 IntKind.u32.bits) = (x.toNat : Int) / 2 := by
  have e1 : min 1 IntKind.u32.bits = 1 := by decide
  rw [e1]
  exact Int.fdiv_eq_ediv_of_nonneg _ (by omega)
theorem step_prog' (x : BitVec 32) : Go.bits .xor .u32 (((x.toNat : Int)).fdiv (2 ^ min 1 IntKind.u32.bits)) (Go.bits .and .u32 2197175160 (IntKind.u32.wrap (0 - (Go.bits .and .u32 (x.toNat : Int) 1)))) = ((cstep x).toNat : Int) := by
  rw [← step_prog x, crc_shr, wrapU32, Int.zero_sub]
theorem step_ref1' {x : BitVec 32} (h : (x.toNat : Int) % 2 = 1) : Go.bits .xor .u32 ((x.toNat : Int) / 2) 2197175160 = ((cstep x).toNat : Int) := by
  have hx := x.isLt
  have h2 : Int.tmod (x.toNat : Int) 2 = 1 := by rw [tmod_nat]; omega
  rw [← step_ref1 h2, tdiv_nat, Int.emod_eq_of_lt (by omega) (by omega)]
  congr 1
theorem step_ref0' {x : BitVec 32} (h : ¬ (x.toNat : Int) % 2 = 1) : (x.toNat : Int) / 2 = ((cstep x).toNat : Int) := by
  have hx := x.isLt
  have h2 : ¬ Int.tmod (x.toNat : Int) 2 = 1 := by rw [tmod_nat]; omega
  rw [← step_ref0 h2, tdiv_nat, Int.emod_eq_of_lt (by omega) (by omega)]
  omega
def sumS (l : List Int) : Int := ((crc l).toNat : Int)
theorem sumS_lt (l : List Int) : 0 ≤ sumS l ∧ sumS l < 4294967296 := by
  unfold sumS
  have := (crc l).isLt
  omega
theorem crc_end {l : List Int} {i : Nat} {c : BitVec 32} (hi : l.length ≤ i) (h : crcF c (l.drop i) = crcF (BitVec.allOnes 32) l) : Go.bits .xor .u32 (if IntKind.u32.signed = true then -1 else IntKind.u32.max) (c.toNat : Int) = sumS l := by
  rw [List.drop_eq_nil_of_le hi] at h
  have h : c = crcF (BitVec.allOnes 32) l := h
  rw [h, bits_xor32, ofInt_toNat]
  rfl
def sumSp : Sp := ⟨[byl], fun _ => true, fun x => .d u32 (sumS x.1)⟩
abbrev sumC : Ctx := ⟨rows, (fun | 0 => ([3, 6, 7, 8], [3]) | 1 => ([], [3, 6, 7, 8]) | 2 => ([3, 6, 7, 8, 16], [3, 6, 7, 8]) | 3 => ([], [3, 6, 7, 8, 16]) | _ => ([], []))⟩
theorem sum_ok (T : Tab) : sumSp.Ok T sumC F72 := by
  rintro ⟨(l : List Int), _⟩ hf _
  have hl : l.length ≤ 140737488355328 := (fits_by.1 hf.1).1
  have hb : Bytes l := bytes_of hf.1
  obtain ⟨F, hF⟩ : ∃ F : Nat, F = l.length + 10 := ⟨_, rfl⟩
  refine ⟨F, 0, ?_⟩
  show evFn _ _ _ _ _ [vB l] [] _ = some (.d u32 (sumS l) : V)
  conv => lhs; whnf
  try simp (maxSteps := 2000000) (disch := omega) only [nI64, nU64, nU32, nU8, nSubL, nAddL, nAdd, nSub, nDiv, nMod, nZ, nLit, row_3, row_5, row_16, row_22, row_28, row_46, row_48, row_108, row_115, Ty.den, dflt_it, dflt_li, dflt_kv, Int.toNat_natCast, List.take_length, List.drop_zero]
  refine loop_rule (α := Nat × BitVec 32) (fun a => a.1 ≤ l.length ∧ crcF a.2 (l.drop a.1) = crcF (BitVec.allOnes 32) l) (fun a => l.length - a.1)
    (fun a => (V.bad :: V.bad :: V.bad :: vW (a.2.toNat : Int) :: V.bad :: V.bad :: vB l :: vI l.length :: vI a.1 :: V.bad :: V.bad :: V.bad :: V.bad :: V.bad :: V.bad :: V.bad :: V.bad :: V.bad :: V.bad :: V.bad :: V.bad :: V.bad :: V.bad :: V.bad :: V.bad :: V.bad :: V.bad :: V.bad :: V.bad :: []))
    (fun a => [.gone]) (fun a => some (V.d u32 (sumS l))) ?_ F (0, BitVec.allOnes 32) ⟨Nat.zero_le _, rfl⟩ (by show l.length - 0 < F; omega)
  rintro ⟨i, c⟩ K ⟨k1, k2⟩ hK
  simp only at k1 k2 hK ⊢
  conv => lhs; whnf
  try simp (maxSteps := 2000000) (disch := omega) only [nI64, nU64, nU32, nU8, nSubL, nAddL, nAdd, nSub, nDiv, nMod, nZ, nLit, row_3, row_5, row_16, row_22, row_28, row_46, row_48, row_108, row_115, Ty.den, dflt_it, dflt_li, dflt_kv, Int.toNat_natCast, List.take_length, List.drop_zero]
  by_cases hi : i < l.length
  · refine br_go (tst_t (by omega)) ?_
    conv => lhs; whnf
    try simp (maxSteps := 2000000) (disch := omega) only [nI64, nU64, nU32, nU8, nSubL, nAddL, nAdd, nSub, nDiv, nMod, nZ, nLit, row_3, row_5, row_16, row_22, row_28, row_46, row_48, row_108, row_115, Ty.den, dflt_it, dflt_li, dflt_kv, Int.toNat_natCast, List.take_length, List.drop_zero]
    repeat (refine br_go ?_ ?_; (focus (((repeat' first | exact rfl | exact ordB_st rfl | exact ordB_of rfl | apply band | apply tst_t | apply nt_t)  <;> (try dsimp only [Ty.den, dflt_kv]) <;> (try simp only [List.length_append, List.length_cons, List.length_nil, List.length_take, List.length_drop, List.length_replicate]) <;> (first | trivial | assumption | omega | (change (_ : Int) ≤ _; omega) | (change (_ : Int) < _; omega) | (change (_ : Nat) * 1 ≤ _; omega) | (change (_ : Nat) * 48 ≤ _; omega) | (change (_ : Nat) * 24 ≤ _; omega) | (change (_ : Nat) * 8 ≤ _; omega) | (change (_ : Nat) * 64 ≤ _; omega) | decide)); done)); (conv => lhs; whnf); (try simp (maxSteps := 2000000) (disch := omega) only [nI64, nU64, nU32, nU8, nSubL, nAddL, nAdd, nSub, nDiv, nMod, nZ, nLit, row_3, row_5, row_16, row_22, row_28, row_46, row_48, row_108, row_115, Ty.den, dflt_it, dflt_li, dflt_kv, Int.toNat_natCast, List.take_length, List.drop_zero]))
    rw [crc_byte hb hi]
    refine loop_rule (α := Nat × BitVec 32) (fun a => a.1 ≤ 8 ∧ csteps (8 - a.1) a.2 = csteps 8 (c ^^^ BitVec.ofInt 32 (rd l i))) (fun a => 8 - a.1)
      (fun a => (V.bad :: V.bad :: V.bad :: vW (a.2.toNat : Int) :: V.bad :: V.bad :: vB l :: vI l.length :: vI i :: V.bad :: V.bad :: V.bad :: V.bad :: V.bad :: V.bad :: V.bad :: vI a.1 :: V.bad :: V.bad :: V.bad :: V.bad :: V.bad :: V.bad :: V.bad :: V.bad :: V.bad :: V.bad :: V.bad :: V.bad :: []))
      (fun a => [.gone]) (fun a => some (V.d u32 (sumS l))) ?_ F (0, c ^^^ BitVec.ofInt 32 (rd l i)) ⟨Nat.zero_le _, rfl⟩ (by show 8 - 0 < F; omega)
    rintro ⟨j, d⟩ K2 ⟨k3, k4⟩ hK2
    simp only at k3 k4 hK2 ⊢
    conv => lhs; whnf
    try simp (maxSteps := 2000000) (disch := omega) only [nI64, nU64, nU32, nU8, nSubL, nAddL, nAdd, nSub, nDiv, nMod, nZ, nLit, row_3, row_5, row_16, row_22, row_28, row_46, row_48, row_108, row_115, Ty.den, dflt_it, dflt_li, dflt_kv, Int.toNat_natCast, List.take_length, List.drop_zero]
    by_cases hj : j < 8
    · refine br_go (tst_t (by omega)) ?_
      conv => lhs; whnf
      try simp (maxSteps := 2000000) (disch := omega) only [nI64, nU64, nU32, nU8, nSubL, nAddL, nAdd, nSub, nDiv, nMod, nZ, nLit, row_3, row_5, row_16, row_22, row_28, row_46, row_48, row_108, row_115, Ty.den, dflt_it, dflt_li, dflt_kv, Int.toNat_natCast, List.take_length, List.drop_zero]
      repeat (refine br_go ?_ ?_; (focus (((repeat' first | exact rfl | exact ordB_st rfl | exact ordB_of rfl | apply band | apply tst_t | apply nt_t)  <;> (try dsimp only [Ty.den, dflt_kv]) <;> (try simp only [List.length_append, List.length_cons, List.length_nil, List.length_take, List.length_drop, List.length_replicate]) <;> (first | trivial | assumption | omega | (change (_ : Int) ≤ _; omega) | (change (_ : Int) < _; omega) | (change (_ : Nat) * 1 ≤ _; omega) | (change (_ : Nat) * 48 ≤ _; omega) | (change (_ : Nat) * 24 ≤ _; omega) | (change (_ : Nat) * 8 ≤ _; omega) | (change (_ : Nat) * 64 ≤ _; omega) | decide)); done)); (conv => lhs; whnf); (try simp (maxSteps := 2000000) (disch := omega) only [nI64, nU64, nU32, nU8, nSubL, nAddL, nAdd, nSub, nDiv, nMod, nZ, nLit, row_3, row_5, row_16, row_22, row_28, row_46, row_48, row_108, row_115, Ty.den, dflt_it, dflt_li, dflt_kv, Int.toNat_natCast, List.take_length, List.drop_zero]))
      rw [step_prog']
      exact hK2 (j + 1, cstep d) ⟨by show j + 1 ≤ 8; omega, by rw [← k4, show 8 - j = (8 - (j + 1)) + 1 by omega]; rfl⟩ (by show 8 - (j + 1) < 8 - j; omega)
    · refine br_no (tst_f (by omega)) ?_
      conv => lhs; whnf
      try simp (maxSteps := 2000000) (disch := omega) only [nI64, nU64, nU32, nU8, nSubL, nAddL, nAdd, nSub, nDiv, nMod, nZ, nLit, row_3, row_5, row_16, row_22, row_28, row_46, row_48, row_108, row_115, Ty.den, dflt_it, dflt_li, dflt_kv, Int.toNat_natCast, List.take_length, List.drop_zero]
      repeat (refine br_go ?_ ?_; (focus (((repeat' first | exact rfl | exact ordB_st rfl | exact ordB_of rfl | apply band | apply tst_t | apply nt_t)  <;> (try dsimp only [Ty.den, dflt_kv]) <;> (try simp only [List.length_append, List.length_cons, List.length_nil, List.length_take, List.length_drop, List.length_replicate]) <;> (first | trivial | assumption | omega | (change (_ : Int) ≤ _; omega) | (change (_ : Int) < _; omega) | (change (_ : Nat) * 1 ≤ _; omega) | (change (_ : Nat) * 48 ≤ _; omega) | (change (_ : Nat) * 24 ≤ _; omega) | (change (_ : Nat) * 8 ≤ _; omega) | (change (_ : Nat) * 64 ≤ _; omega) | decide)); done)); (conv => lhs; whnf); (try simp (maxSteps := 2000000) (disch := omega) only [nI64, nU64, nU32, nU8, nSubL, nAddL, nAdd, nSub, nDiv, nMod, nZ, nLit, row_3, row_5, row_16, row_22, row_28, row_46, row_48, row_108, row_115, Ty.den, dflt_it, dflt_li, dflt_kv, Int.toNat_natCast, List.take_length, List.drop_zero]))
      have : j = 8 := by omega
      subst this
      have k5 : d = csteps 8 (c ^^^ BitVec.ofInt 32 (rd l i)) := k4
      exact hK (i + 1, d) ⟨by show i + 1 ≤ l.length; omega, by rw [← k2, drop_cons hi, crcF, k5]⟩ (by show l.length - (i + 1) < l.length - i; omega)
  · refine br_no (tst_f (by omega)) ?_
    conv => lhs; whnf
    try simp (maxSteps := 2000000) (disch := omega) only [nI64, nU64, nU32, nU8, nSubL, nAddL, nAdd, nSub, nDiv, nMod, nZ, nLit, row_3, row_5, row_16, row_22, row_28, row_46, row_48, row_108, row_115, Ty.den, dflt_it, dflt_li, dflt_kv, Int.toNat_natCast, List.take_length, List.drop_zero]
    rw [crc_end (by omega) k2]
abbrev rsumC : Ctx := ⟨rows, (fun | 0 => ([0, 3, 4], [3]) | 1 => ([], [0, 3, 4]) | 2 => ([0, 3, 4, 5], [0, 3, 4]) | 3 => ([], [0, 3, 4, 5]) | _ => ([], []))⟩
theorem rsum_ok (T : Tab) : sumSp.Ok T rsumC F79 := by
  rintro ⟨(l : List Int), _⟩ hf _
  have hl : l.length ≤ 140737488355328 := (fits_by.1 hf.1).1
  have hb : Bytes l := bytes_of hf.1
  obtain ⟨F, hF⟩ : ∃ F : Nat, F = l.length + 10 := ⟨_, rfl⟩
  refine ⟨F, 0, ?_⟩
  show evFn _ _ _ _ _ [vB l] [] _ = some (.d u32 (sumS l) : V)
  conv => lhs; whnf
  try simp (maxSteps := 2000000) (disch := omega) only [nI64, nU64, nU32, nU8, nSubL, nAddL, nAdd, nSub, nDiv, nMod, nZ, nLit, row_3, row_5, row_16, row_22, row_28, row_46, row_48, row_108, row_115, Ty.den, dflt_it, dflt_li, dflt_kv, Int.toNat_natCast, List.take_length, List.drop_zero]
  refine loop_rule (α := Nat × BitVec 32) (fun a => a.1 ≤ l.length ∧ crcF a.2 (l.drop a.1) = crcF (BitVec.allOnes 32) l) (fun a => l.length - a.1)
    (fun a => (vB l :: V.bad :: V.bad :: vW (a.2.toNat : Int) :: vI a.1 :: V.bad :: V.bad :: V.bad :: V.bad :: V.bad :: V.bad :: V.bad :: V.bad :: V.bad :: V.bad :: V.bad :: V.bad :: V.bad :: V.bad :: V.bad :: V.bad :: V.bad :: V.bad :: V.bad :: V.bad :: V.bad :: V.bad :: V.bad :: V.bad :: V.bad :: V.bad :: V.bad :: V.bad :: []))
    (fun a => []) (fun a => some (V.d u32 (sumS l))) ?_ F (0, BitVec.allOnes 32) ⟨Nat.zero_le _, rfl⟩ (by show l.length - 0 < F; omega)
  rintro ⟨i, c⟩ K ⟨k1, k2⟩ hK
  simp only at k1 k2 hK ⊢
  conv => lhs; whnf
  try simp (maxSteps := 2000000) (disch := omega) only [nI64, nU64, nU32, nU8, nSubL, nAddL, nAdd, nSub, nDiv, nMod, nZ, nLit, row_3, row_5, row_16, row_22, row_28, row_46, row_48, row_108, row_115, Ty.den, dflt_it, dflt_li, dflt_kv, Int.toNat_natCast, List.take_length, List.drop_zero]
  by_cases hi : i < l.length
  · refine br_go (tst_t (by omega)) ?_
    conv => lhs; whnf
    try simp (maxSteps := 2000000) (disch := omega) only [nI64, nU64, nU32, nU8, nSubL, nAddL, nAdd, nSub, nDiv, nMod, nZ, nLit, row_3, row_5, row_16, row_22, row_28, row_46, row_48, row_108, row_115, Ty.den, dflt_it, dflt_li, dflt_kv, Int.toNat_natCast, List.take_length, List.drop_zero]
    repeat (refine br_go ?_ ?_; (focus (((repeat' first | exact rfl | exact ordB_st rfl | exact ordB_of rfl | apply band | apply tst_t | apply nt_t)  <;> (try dsimp only [Ty.den, dflt_kv]) <;> (try simp only [List.length_append, List.length_cons, List.length_nil, List.length_take, List.length_drop, List.length_replicate]) <;> (first | trivial | assumption | omega | (change (_ : Int) ≤ _; omega) | (change (_ : Int) < _; omega) | (change (_ : Nat) * 1 ≤ _; omega) | (change (_ : Nat) * 48 ≤ _; omega) | (change (_ : Nat) * 24 ≤ _; omega) | (change (_ : Nat) * 8 ≤ _; omega) | (change (_ : Nat) * 64 ≤ _; omega) | decide)); done)); (conv => lhs; whnf); (try simp (maxSteps := 2000000) (disch := omega) only [nI64, nU64, nU32, nU8, nSubL, nAddL, nAdd, nSub, nDiv, nMod, nZ, nLit, row_3, row_5, row_16, row_22, row_28, row_46, row_48, row_108, row_115, Ty.den, dflt_it, dflt_li, dflt_kv, Int.toNat_natCast, List.take_length, List.drop_zero]))
    rw [crc_byte hb hi]
    refine loop_rule (α := Nat × BitVec 32) (fun a => a.1 ≤ 8 ∧ csteps (8 - a.1) a.2 = csteps 8 (c ^^^ BitVec.ofInt 32 (rd l i))) (fun a => 8 - a.1)
      (fun a => (vB l :: V.bad :: V.bad :: vW (a.2.toNat : Int) :: vI i :: vI a.1 :: V.bad :: V.bad :: V.bad :: V.bad :: V.bad :: V.bad :: V.bad :: V.bad :: V.bad :: V.bad :: V.bad :: V.bad :: V.bad :: V.bad :: V.bad :: V.bad :: V.bad :: V.bad :: V.bad :: V.bad :: V.bad :: V.bad :: V.bad :: V.bad :: V.bad :: V.bad :: V.bad :: []))
      (fun a => [.gone]) (fun a => some (V.d u32 (sumS l))) ?_ F (0, c ^^^ BitVec.ofInt 32 (rd l i)) ⟨Nat.zero_le _, rfl⟩ (by show 8 - 0 < F; omega)
    rintro ⟨j, d⟩ K2 ⟨k3, k4⟩ hK2
    simp only at k3 k4 hK2 ⊢
    conv => lhs; whnf
    try simp (maxSteps := 2000000) (disch := omega) only [nI64, nU64, nU32, nU8, nSubL, nAddL, nAdd, nSub, nDiv, nMod, nZ, nLit, row_3, row_5, row_16, row_22, row_28, row_46, row_48, row_108, row_115, Ty.den, dflt_it, dflt_li, dflt_kv, Int.toNat_natCast, List.take_length, List.drop_zero]
    by_cases hj : j < 8
    · refine br_go (tst_t (by omega)) ?_
      conv => lhs; whnf
      try simp (maxSteps := 2000000) (disch := omega) only [nI64, nU64, nU32, nU8, nSubL, nAddL, nAdd, nSub, nDiv, nMod, nZ, nLit, row_3, row_5, row_16, row_22, row_28, row_46, row_48, row_108, row_115, Ty.den, dflt_it, dflt_li, dflt_kv, Int.toNat_natCast, List.take_length, List.drop_zero]
      refine br_go ?_ ?_
      focus (((repeat' first | exact rfl | exact ordB_st rfl | exact ordB_of rfl | apply band | apply tst_t | apply nt_t)  <;> (try dsimp only [Ty.den, dflt_kv]) <;> (try simp only [List.length_append, List.length_cons, List.length_nil, List.length_take, List.length_drop, List.length_replicate]) <;> (first | trivial | assumption | omega | (change (_ : Int) ≤ _; omega) | (change (_ : Int) < _; omega) | (change (_ : Nat) * 1 ≤ _; omega) | (change (_ : Nat) * 48 ≤ _; omega) | (change (_ : Nat) * 24 ≤ _; omega) | (change (_ : Nat) * 8 ≤ _; omega) | (change (_ : Nat) * 64 ≤ _; omega) | decide)); done)
      conv => lhs; whnf
      try simp (maxSteps := 2000000) (disch := omega) only [nI64, nU64, nU32, nU8, nSubL, nAddL, nAdd, nSub, nDiv, nMod, nZ, nLit, row_3, row_5, row_16, row_22, row_28, row_46, row_48, row_108, row_115, Ty.den, dflt_it, dflt_li, dflt_kv, Int.toNat_natCast, List.take_length, List.drop_zero]
      by_cases hc : (d.toNat : Int) % 2 = 1
      · refine br_go (tst_t (hc)) ?_
        conv => lhs; whnf
        try simp (maxSteps := 2000000) (disch := omega) only [nI64, nU64, nU32, nU8, nSubL, nAddL, nAdd, nSub, nDiv, nMod, nZ, nLit, row_3, row_5, row_16, row_22, row_28, row_46, row_48, row_108, row_115, Ty.den, dflt_it, dflt_li, dflt_kv, Int.toNat_natCast, List.take_length, List.drop_zero]
        repeat (refine br_go ?_ ?_; (focus (((repeat' first | exact rfl | exact ordB_st rfl | exact ordB_of rfl | apply band | apply tst_t | apply nt_t)  <;> (try dsimp only [Ty.den, dflt_kv]) <;> (try simp only [List.length_append, List.length_cons, List.length_nil, List.length_take, List.length_drop, List.length_replicate]) <;> (first | trivial | assumption | omega | (change (_ : Int) ≤ _; omega) | (change (_ : Int) < _; omega) | (change (_ : Nat) * 1 ≤ _; omega) | (change (_ : Nat) * 48 ≤ _; omega) | (change (_ : Nat) * 24 ≤ _; omega) | (change (_ : Nat) * 8 ≤ _; omega) | (change (_ : Nat) * 64 ≤ _; omega) | decide)); done)); (conv => lhs; whnf); (try simp (maxSteps := 2000000) (disch := omega) only [nI64, nU64, nU32, nU8, nSubL, nAddL, nAdd, nSub, nDiv, nMod, nZ, nLit, row_3, row_5, row_16, row_22, row_28, row_46, row_48, row_108, row_115, Ty.den, dflt_it, dflt_li, dflt_kv, Int.toNat_natCast, List.take_length, List.drop_zero]))
        rw [step_ref1' hc]
        exact hK2 (j + 1, cstep d) ⟨by show j + 1 ≤ 8; omega, by rw [← k4, show 8 - j = (8 - (j + 1)) + 1 by omega]; rfl⟩ (by show 8 - (j + 1) < 8 - j; omega)
      · refine br_no (tst_f (hc)) ?_
        conv => lhs; whnf
        try simp (maxSteps := 2000000) (disch := omega) only [nI64, nU64, nU32, nU8, nSubL, nAddL, nAdd, nSub, nDiv, nMod, nZ, nLit, row_3, row_5, row_16, row_22, row_28, row_46, row_48, row_108, row_115, Ty.den, dflt_it, dflt_li, dflt_kv, Int.toNat_natCast, List.take_length, List.drop_zero]
        repeat (refine br_go ?_ ?_; (focus (((repeat' first | exact rfl | exact ordB_st rfl | exact ordB_of rfl | apply band | apply tst_t | apply nt_t)  <;> (try dsimp only [Ty.den, dflt_kv]) <;> (try simp only [List.length_append, List.length_cons, List.length_nil, List.length_take, List.length_drop, List.length_replicate]) <;> (first | trivial | assumption | omega | (change (_ : Int) ≤ _; omega) | (change (_ : Int) < _; omega) | (change (_ : Nat) * 1 ≤ _; omega) | (change (_ : Nat) * 48 ≤ _; omega) | (change (_ : Nat) * 24 ≤ _; omega) | (change (_ : Nat) * 8 ≤ _; omega) | (change (_ : Nat) * 64 ≤ _; omega) | decide)); done)); (conv => lhs; whnf); (try simp (maxSteps := 2000000) (disch := omega) only [nI64, nU64, nU32, nU8, nSubL, nAddL, nAdd, nSub, nDiv, nMod, nZ, nLit, row_3, row_5, row_16, row_22, row_28, row_46, row_48, row_108, row_115, Ty.den, dflt_it, dflt_li, dflt_kv, Int.toNat_natCast, List.take_length, List.drop_zero]))
        rw [step_ref0' hc]
        exact hK2 (j + 1, cstep d) ⟨by show j + 1 ≤ 8; omega, by rw [← k4, show 8 - j = (8 - (j + 1)) + 1 by omega]; rfl⟩ (by show 8 - (j + 1) < 8 - j; omega)
    · refine br_no (tst_f (by omega)) ?_
      conv => lhs; whnf
      try simp (maxSteps := 2000000) (disch := omega) only [nI64, nU64, nU32, nU8, nSubL, nAddL, nAdd, nSub, nDiv, nMod, nZ, nLit, row_3, row_5, row_16, row_22, row_28, row_46, row_48, row_108, row_115, Ty.den, dflt_it, dflt_li, dflt_kv, Int.toNat_natCast, List.take_length, List.drop_zero]
      repeat (refine br_go ?_ ?_; (focus (((repeat' first | exact rfl | exact ordB_st rfl | exact ordB_of rfl | apply band | apply tst_t | apply nt_t)  <;> (try dsimp only [Ty.den, dflt_kv]) <;> (try simp only [List.length_append, List.length_cons, List.length_nil, List.length_take, List.length_drop, List.length_replicate]) <;> (first | trivial | assumption | omega | (change (_ : Int) ≤ _; omega) | (change (_ : Int) < _; omega) | (change (_ : Nat) * 1 ≤ _; omega) | (change (_ : Nat) * 48 ≤ _; omega) | (change (_ : Nat) * 24 ≤ _; omega) | (change (_ : Nat) * 8 ≤ _; omega) | (change (_ : Nat) * 64 ≤ _; omega) | decide)); done)); (conv => lhs; whnf); (try simp (maxSteps := 2000000) (disch := omega) only [nI64, nU64, nU32, nU8, nSubL, nAddL, nAdd, nSub, nDiv, nMod, nZ, nLit, row_3, row_5, row_16, row_22, row_28, row_46, row_48, row_108, row_115, Ty.den, dflt_it, dflt_li, dflt_kv, Int.toNat_natCast, List.take_length, List.drop_zero]))
      have : j = 8 := by omega
      subst this
      have k5 : d = csteps 8 (c ^^^ BitVec.ofInt 32 (rd l i)) := k4
      exact hK (i + 1, d) ⟨by show i + 1 ≤ l.length; omega, by rw [← k2, drop_cons hi, crcF, k5]⟩ (by show l.length - (i + 1) < l.length - i; omega)
  · refine br_no (tst_f (by omega)) ?_
    conv => lhs; whnf
    try simp (maxSteps := 2000000) (disch := omega) only [nI64, nU64, nU32, nU8, nSubL, nAddL, nAdd, nSub, nDiv, nMod, nZ, nLit, row_3, row_5, row_16, row_22, row_28, row_46, row_48, row_108, row_115, Ty.den, dflt_it, dflt_li, dflt_kv, Int.toNat_natCast, List.take_length, List.drop_zero]
    rw [crc_end (by omega) k2]
end Go.Proofs.Ytkdajonmfiipkaa.Ev
/- The bits that a key sets. -/
namespace Go.Proofs.Ytkdajonmfiipkaa.Ev
open Go Go.RowKit
set_option linter.unusedVariables false
set_option linter.unusedSimpArgs false
set_option maxRecDepth 100000
set_option maxHeartbeats 8000000
def rotS (h : Int) : Int := Go.bits .or .u32 (h.fdiv (2 ^ min 17 IntKind.u32.bits)) (IntKind.u32.wrap (h * 2 ^ min 15 IntKind.u32.bits))
def stepsS (m d : Int) : Nat → Int → List Int
  | 0, _ => []
  | n + 1, h => h % m :: stepsS m d n (IntKind.u32.wrap (h + d))
def keyS (l : List Int) (m k : Int) : List Int := stepsS m (rotS (sumS l)) k.toNat (sumS l)
abbrev u64l : Ty := .li u64
noncomputable def stepsSp : Sp := ⟨[byl, u64, i64], fun x => tst (x.2.1 ≠ 0) && tst (x.2.2.1 ≤ 1000), fun x => .own 0 u64 (keyS x.1 x.2.1 x.2.2.1)⟩
abbrev rstepsC : Ctx := ⟨rows, (fun | 0 => ([1, 2, 7, 8, 9, 10], [9]) | 1 => ([], [1, 2, 7, 8, 9, 10]) | _ => ([], []))⟩
theorem steps_ok (T : Tab) (h1 : T 79 = sumSp.ent) : stepsSp.Ok T rstepsC F80 := by
  rw [on_top h1]
  rintro ⟨(l : List Int), (m : Int), (k : Int), _⟩ hf hp
  have hp : m ≠ 0 ∧ k ≤ 1000 := by simpa only [stepsSp, Bool.and_eq_true, tst_iff] using hp
  obtain ⟨F, hF⟩ : ∃ F : Nat, F = k.toNat + 5 := ⟨_, rfl⟩
  refine ⟨F, 0, ?_⟩
  show evFn _ _ _ _ _ [vB l, vU m, vI k] [] _ = some (.own 0 u64 (keyS l m k) : V)
  conv => lhs; whnf
  try simp (maxSteps := 2000000) (disch := omega) only [nI64, nU64, nU32, nU8, nSubL, nAddL, nAdd, nSub, nDiv, nMod, nZ, nLit, row_3, row_5, row_16, row_22, row_28, row_46, row_48, row_108, row_115, Ty.den, dflt_it, dflt_li, dflt_kv, Int.toNat_natCast, List.take_length, List.drop_zero]
  repeat (refine br_go ?_ ?_; (focus (((repeat' first | exact rfl | exact ordB_st rfl | exact ordB_of rfl | apply band | apply tst_t | apply nt_t)  <;> (try dsimp only [Ty.den, dflt_kv]) <;> (try simp only [List.length_append, List.length_cons, List.length_nil, List.length_take, List.length_drop, List.length_replicate]) <;> (first | trivial | assumption | omega | (change (_ : Int) ≤ _; omega) | (change (_ : Int) < _; omega) | (change (_ : Nat) * 1 ≤ _; omega) | (change (_ : Nat) * 48 ≤ _; omega) | (change (_ : Nat) * 24 ≤ _; omega) | (change (_ : Nat) * 8 ≤ _; omega) | (change (_ : Nat) * 64 ≤ _; omega) | decide)); done)); (conv => lhs; whnf); (try simp (maxSteps := 2000000) (disch := omega) only [nI64, nU64, nU32, nU8, nSubL, nAddL, nAdd, nSub, nDiv, nMod, nZ, nLit, row_3, row_5, row_16, row_22, row_28, row_46, row_48, row_108, row_115, Ty.den, dflt_it, dflt_li, dflt_kv, Int.toNat_natCast, List.take_length, List.drop_zero]))
  have hs : 0 ≤ sumS l ∧ sumS l < 4294967296 := sumS_lt l
  refine loop_rule (α := Nat × Int × List Int) (fun a => (0 ≤ a.2.1 ∧ a.2.1 < 4294967296) ∧ a.1 ≤ k.toNat ∧ a.2.2 ++ stepsS m (rotS (sumS l)) (k.toNat - a.1) a.2.1 = keyS l m k ∧ a.2.2.length = a.1) (fun a => k.toNat - a.1)
    (fun a => (V.bad :: vU m :: vI k :: V.bad :: V.bad :: V.bad :: V.bad :: vW a.2.1 :: vW (rotS (sumS l)) :: V.own 2 u64 a.2.2 :: vI a.1 :: V.bad :: V.bad :: V.bad :: V.bad :: V.bad :: V.bad :: V.bad :: V.bad :: V.bad :: V.bad :: V.bad :: V.bad :: V.bad :: V.bad :: V.bad :: V.bad :: V.bad :: V.bad :: V.bad :: V.bad :: V.bad :: V.bad :: V.bad :: []))
    (fun a => [.fam 0, .gone, .fam a.2.2.length]) (fun a => some (V.own 0 u64 (keyS l m k))) ?_ F (0, sumS l, []) ⟨hs, Nat.zero_le _, rfl, rfl⟩ (by show k.toNat - 0 < F; omega)
  rintro ⟨i, h, o⟩ K ⟨k0, k1, k2, k3⟩ hK
  simp only at k0 k1 k2 k3 hK ⊢
  conv => lhs; whnf
  try simp (maxSteps := 2000000) (disch := omega) only [nI64, nU64, nU32, nU8, nSubL, nAddL, nAdd, nSub, nDiv, nMod, nZ, nLit, row_3, row_5, row_16, row_22, row_28, row_46, row_48, row_108, row_115, Ty.den, dflt_it, dflt_li, dflt_kv, Int.toNat_natCast, List.take_length, List.drop_zero]
  by_cases hi : (i : Int) < k
  · refine br_go (tst_t (hi)) ?_
    conv => lhs; whnf
    try simp (maxSteps := 2000000) (disch := omega) only [nI64, nU64, nU32, nU8, nSubL, nAddL, nAdd, nSub, nDiv, nMod, nZ, nLit, row_3, row_5, row_16, row_22, row_28, row_46, row_48, row_108, row_115, Ty.den, dflt_it, dflt_li, dflt_kv, Int.toNat_natCast, List.take_length, List.drop_zero]
    repeat (refine br_go ?_ ?_; (focus (((repeat' first | exact rfl | exact ordB_st rfl | exact ordB_of rfl | apply band | apply tst_t | apply nt_t)  <;> (try dsimp only [Ty.den, dflt_kv]) <;> (try simp only [List.length_append, List.length_cons, List.length_nil, List.length_take, List.length_drop, List.length_replicate]) <;> (first | trivial | assumption | omega | (change (_ : Int) ≤ _; omega) | (change (_ : Int) < _; omega) | (change (_ : Nat) * 1 ≤ _; omega) | (change (_ : Nat) * 48 ≤ _; omega) | (change (_ : Nat) * 24 ≤ _; omega) | (change (_ : Nat) * 8 ≤ _; omega) | (change (_ : Nat) * 64 ≤ _; omega) | decide)); done)); (conv => lhs; whnf); (try simp (maxSteps := 2000000) (disch := omega) only [nI64, nU64, nU32, nU8, nSubL, nAddL, nAdd, nSub, nDiv, nMod, nZ, nLit, row_3, row_5, row_16, row_22, row_28, row_46, row_48, row_108, row_115, Ty.den, dflt_it, dflt_li, dflt_kv, Int.toNat_natCast, List.take_length, List.drop_zero]))
    have hw : 0 ≤ IntKind.u32.wrap (h + rotS (sumS l)) ∧ IntKind.u32.wrap (h + rotS (sumS l)) < 4294967296 := by rw [wrapU32]; omega
    exact hK (i + 1, IntKind.u32.wrap (h + rotS (sumS l)), o ++ [h % m]) ⟨hw, by show i + 1 ≤ k.toNat; omega, by
      rw [← k2, show k.toNat - i = (k.toNat - (i + 1)) + 1 by omega, List.append_assoc]; rfl, by show (o ++ [h % m]).length = i + 1; rw [List.length_append, k3]; rfl⟩ (by show k.toNat - (i + 1) < k.toNat - i; omega)
  · refine br_no (tst_f (hi)) ?_
    conv => lhs; whnf
    try simp (maxSteps := 2000000) (disch := omega) only [nI64, nU64, nU32, nU8, nSubL, nAddL, nAdd, nSub, nDiv, nMod, nZ, nLit, row_3, row_5, row_16, row_22, row_28, row_46, row_48, row_108, row_115, Ty.den, dflt_it, dflt_li, dflt_kv, Int.toNat_natCast, List.take_length, List.drop_zero]
    repeat (refine br_go ?_ ?_; (focus (((repeat' first | exact rfl | exact ordB_st rfl | exact ordB_of rfl | apply band | apply tst_t | apply nt_t)  <;> (try dsimp only [Ty.den, dflt_kv]) <;> (try simp only [List.length_append, List.length_cons, List.length_nil, List.length_take, List.length_drop, List.length_replicate]) <;> (first | trivial | assumption | omega | (change (_ : Int) ≤ _; omega) | (change (_ : Int) < _; omega) | (change (_ : Nat) * 1 ≤ _; omega) | (change (_ : Nat) * 48 ≤ _; omega) | (change (_ : Nat) * 24 ≤ _; omega) | (change (_ : Nat) * 8 ≤ _; omega) | (change (_ : Nat) * 64 ≤ _; omega) | decide)); done)); (conv => lhs; whnf); (try simp (maxSteps := 2000000) (disch := omega) only [nI64, nU64, nU32, nU8, nSubL, nAddL, nAdd, nSub, nDiv, nMod, nZ, nLit, row_3, row_5, row_16, row_22, row_28, row_46, row_48, row_108, row_115, Ty.den, dflt_it, dflt_li, dflt_kv, Int.toNat_natCast, List.take_length, List.drop_zero]))
    rw [show k.toNat - i = 0 by omega, stepsS, List.append_nil] at k2
    rw [k2]
end Go.Proofs.Ytkdajonmfiipkaa.Ev
/- Filters: how they are built, by the program and by the document. -/
namespace Go.Proofs.Ytkdajonmfiipkaa.Ev
open Go Go.RowKit
set_option linter.unusedVariables false
set_option linter.unusedSimpArgs false
set_option maxRecDepth 100000
set_option maxHeartbeats 8000000
abbrev byll : Ty := .li byl
def bitB (b : List Int) (p : Int) : List Int := b.set (0 + (p / 8).toNat) (Go.bits .or .u8 (b.getD (0 + (p / 8).toNat) 0) (IntKind.u8.wrap (1 * 2 ^ min (p % 8).toNat IntKind.u8.bits)))
def keyB (m k : Int) (b x : List Int) : List Int := (keyS x m k).foldl bitB b
def filK (many : Int) : Int := min (max (many * 69 / 100) 1) 30
def filN (n : Nat) (many : Int) : Nat := max ((many.toNat * n + 7) / 8) 8
def filterS (l : List (List Int)) (many : Int) (E : Int) : List Int × Int :=
  if many < 1 ∨ 64 < many then ([], E) else (l.foldl (keyB (8 * (filN l.length many : Int)) (filK many)) (List.replicate (filN l.length many) 0) ++ [filK many], 0)
noncomputable def filterSp : Sp := ⟨[byll, i64], fun x => tst (List.length x.1 ≤ 1000), fun x => .tup [vB (filterS x.1 x.2.1 71).1, vI (filterS x.1 x.2.1 71).2]⟩
theorem stepsS_len (m d : Int) : ∀ (n : Nat) (h : Int), (stepsS m d n h).length = n
  | 0, _ => rfl
  | n + 1, h => by rw [stepsS, List.length_cons, stepsS_len m d n]
theorem stepsS_lt {m : Int} (hm : 0 < m) (d : Int) : ∀ (n : Nat) (h : Int), ∀ x ∈ stepsS m d n h, 0 ≤ x ∧ x < m
  | 0, _, x, hx => by cases hx
  | n + 1, h, x, hx => by
    rw [stepsS] at hx
    rcases List.mem_cons.1 hx with e | e
    · rw [e]; exact ⟨Int.emod_nonneg _ (by omega), Int.emod_lt_of_pos _ hm⟩
    · exact stepsS_lt hm d n _ x e
theorem keyS_lt (l : List Int) {m : Int} (hm : 0 < m) (k : Int) : (keyS l m k).length = k.toNat ∧ ∀ j, j < (keyS l m k).length → 0 ≤ (keyS l m k).getD j 0 ∧ (keyS l m k).getD j 0 < m := by
  refine ⟨stepsS_len _ _ _ _, fun j hj => ?_⟩
  have : (keyS l m k).getD j 0 = (keyS l m k)[j] := by rw [List.getD_eq_getElem?_getD, List.getElem?_eq_getElem hj]; rfl
  rw [this]
  exact stepsS_lt hm _ _ _ _ (List.getElem_mem hj)
theorem bitB_len (b : List Int) (p : Int) : (bitB b p).length = b.length := by unfold bitB; rw [List.length_set]
theorem put_end {b : List Int} {n : Nat} {k : Int} (h : b.length = n) : List.take (n + [k].length) (List.take n b ++ [k] ++ List.drop (n + [k].length) b) = b ++ [k] := by
  subst h
  rw [List.take_length, List.drop_eq_nil_of_le (by simp), List.append_nil, List.take_of_length_le (by simp)]
theorem bits_or_comm (k : IntKind) (x y : Int) : Go.bits .or k x y = Go.bits .or k y x := by
  unfold Go.bits
  simp only [BitVec.or_comm]
theorem rot2 (s : Int) : Go.bits .or .u32 (IntKind.u32.wrap (s * 2 ^ min (Go.bits .and .u64 (IntKind.u64.wrap (-17)) 31).toNat IntKind.u32.bits)) (s.fdiv (2 ^ min (IntKind.u64.wrap (32 - Go.bits .and .u64 (IntKind.u64.wrap (-17)) 31)).toNat IntKind.u32.bits)) = rotS s := by
  have e1 : (Go.bits .and .u64 (IntKind.u64.wrap (-17)) 31) = 15 := by decide +kernel
  have e2 : (IntKind.u64.wrap (32 - 15)).toNat = 17 := by decide +kernel
  rw [e1, e2, bits_or_comm]
  rfl
theorem fil_nums (l : List (List Int)) {many : Int} (g1 : ¬ many < 1) (g2 : ¬ many > 64) (hl : l.length ≤ 1000) :
    ∃ q n : Nat, many * (l.length : Int) = (q : Int) ∧ q ≤ 64000 ∧ n = filN l.length many ∧ (max (q : Int) 64 + 7) / 8 = (n : Int) ∧ max (((q : Int) + 7) / 8) 8 = (n : Int) ∧ 8 ≤ n ∧ n ≤ 8001 := by
  obtain ⟨m, rfl⟩ : ∃ m : Nat, many = m := ⟨many.toNat, by omega⟩
  have h : m * l.length ≤ 64 * 1000 := Nat.mul_le_mul (by omega) hl
  refine ⟨m * l.length, filN l.length m, by rw [Int.natCast_mul], by omega, rfl, ?_, ?_, ?_, ?_⟩ <;> unfold filN <;> rw [Int.toNat_natCast] <;> omega
abbrev rfilterC : Ctx := ⟨rows, (fun | 0 => ([0, 6, 8, 9], [6, 8]) | 1 => ([], [0, 6, 8, 9]) | 2 => ([0, 6, 8, 9, 10, 11], [0, 6, 8, 9]) | 3 => ([], [0, 6, 8, 9, 10, 11]) | _ => ([], []))⟩
theorem rfilter_ok (T : Tab) (h1 : T 80 = stepsSp.ent) : filterSp.OkW T rfilterC F44 := by
  rw [on_top h1]
  rintro ⟨(l : List (List Int)), (many : Int), _⟩ hf hp
  have hl : l.length ≤ 1000 := tst_iff.1 hp
  obtain ⟨F, hF⟩ : ∃ F : Nat, F = l.length + 1005 := ⟨_, rfl⟩
  refine ⟨F, 0, ?_⟩
  show evFn _ _ _ _ _ [.d byll l, vI many] [] _ = some (.tup [vB (filterS l many 71).1, vI (filterS l many 71).2] : V)
  conv => lhs; whnf
  try simp (maxSteps := 2000000) (disch := omega) only [nI64, nU64, nU32, nU8, nSubL, nAddL, nAdd, nSub, nDiv, nMod, nZ, nLit, row_3, row_5, row_16, row_22, row_28, row_46, row_48, row_108, row_115, Ty.den, dflt_it, dflt_li, dflt_kv, Int.toNat_natCast, List.take_length, List.drop_zero]
  unfold filterS
  by_cases g1 : many < 1
  · rw [if_pos (.inl g1)]
    refine br_go (tst_t (g1)) ?_
    conv => lhs; whnf
    try simp (maxSteps := 2000000) (disch := omega) only [nI64, nU64, nU32, nU8, nSubL, nAddL, nAdd, nSub, nDiv, nMod, nZ, nLit, row_3, row_5, row_16, row_22, row_28, row_46, row_48, row_108, row_115, Ty.den, dflt_it, dflt_li, dflt_kv, Int.toNat_natCast, List.take_length, List.drop_zero]
    repeat (refine br_go ?_ ?_; (focus (((repeat' first | exact rfl | exact ordB_st rfl | exact ordB_of rfl | apply band | apply tst_t | apply nt_t)  <;> (try dsimp only [Ty.den, dflt_kv]) <;> (try simp only [List.length_append, List.length_cons, List.length_nil, List.length_take, List.length_drop, List.length_replicate]) <;> (first | trivial | assumption | omega | (change (_ : Int) ≤ _; omega) | (change (_ : Int) < _; omega) | (change (_ : Nat) * 1 ≤ _; omega) | (change (_ : Nat) * 48 ≤ _; omega) | (change (_ : Nat) * 24 ≤ _; omega) | (change (_ : Nat) * 8 ≤ _; omega) | (change (_ : Nat) * 64 ≤ _; omega) | decide)); done)); (conv => lhs; whnf); (try simp (maxSteps := 2000000) (disch := omega) only [nI64, nU64, nU32, nU8, nSubL, nAddL, nAdd, nSub, nDiv, nMod, nZ, nLit, row_3, row_5, row_16, row_22, row_28, row_46, row_48, row_108, row_115, Ty.den, dflt_it, dflt_li, dflt_kv, Int.toNat_natCast, List.take_length, List.drop_zero]))
  · refine br_no (tst_f (g1)) ?_
    conv => lhs; whnf
    try simp (maxSteps := 2000000) (disch := omega) only [nI64, nU64, nU32, nU8, nSubL, nAddL, nAdd, nSub, nDiv, nMod, nZ, nLit, row_3, row_5, row_16, row_22, row_28, row_46, row_48, row_108, row_115, Ty.den, dflt_it, dflt_li, dflt_kv, Int.toNat_natCast, List.take_length, List.drop_zero]
    by_cases g2 : many > 64
    · rw [if_pos (.inr g2)]
      refine br_go (tst_t (g2)) ?_
      conv => lhs; whnf
      try simp (maxSteps := 2000000) (disch := omega) only [nI64, nU64, nU32, nU8, nSubL, nAddL, nAdd, nSub, nDiv, nMod, nZ, nLit, row_3, row_5, row_16, row_22, row_28, row_46, row_48, row_108, row_115, Ty.den, dflt_it, dflt_li, dflt_kv, Int.toNat_natCast, List.take_length, List.drop_zero]
      repeat (refine br_go ?_ ?_; (focus (((repeat' first | exact rfl | exact ordB_st rfl | exact ordB_of rfl | apply band | apply tst_t | apply nt_t)  <;> (try dsimp only [Ty.den, dflt_kv]) <;> (try simp only [List.length_append, List.length_cons, List.length_nil, List.length_take, List.length_drop, List.length_replicate]) <;> (first | trivial | assumption | omega | (change (_ : Int) ≤ _; omega) | (change (_ : Int) < _; omega) | (change (_ : Nat) * 1 ≤ _; omega) | (change (_ : Nat) * 48 ≤ _; omega) | (change (_ : Nat) * 24 ≤ _; omega) | (change (_ : Nat) * 8 ≤ _; omega) | (change (_ : Nat) * 64 ≤ _; omega) | decide)); done)); (conv => lhs; whnf); (try simp (maxSteps := 2000000) (disch := omega) only [nI64, nU64, nU32, nU8, nSubL, nAddL, nAdd, nSub, nDiv, nMod, nZ, nLit, row_3, row_5, row_16, row_22, row_28, row_46, row_48, row_108, row_115, Ty.den, dflt_it, dflt_li, dflt_kv, Int.toNat_natCast, List.take_length, List.drop_zero]))
    · rw [if_neg (by omega)]
      refine br_no (tst_f (g2)) ?_
      conv => lhs; whnf
      try simp (maxSteps := 2000000) (disch := omega) only [nI64, nU64, nU32, nU8, nSubL, nAddL, nAdd, nSub, nDiv, nMod, nZ, nLit, row_3, row_5, row_16, row_22, row_28, row_46, row_48, row_108, row_115, Ty.den, dflt_it, dflt_li, dflt_kv, Int.toNat_natCast, List.take_length, List.drop_zero]
      obtain ⟨q, n, eQ, hq, hn, eN, eN2, hn2⟩ := fil_nums l g1 g2 hl
      repeat (refine br_go ?_ ?_; (focus (((repeat' first | exact rfl | exact ordB_st rfl | exact ordB_of rfl | apply band | apply tst_t | apply nt_t)  <;> (try dsimp only [Ty.den, dflt_kv]) <;> (try simp only [List.length_append, List.length_cons, List.length_nil, List.length_take, List.length_drop, List.length_replicate]) <;> (first | trivial | assumption | omega | (change (_ : Int) ≤ _; omega) | (change (_ : Int) < _; omega) | (change (_ : Nat) * 1 ≤ _; omega) | (change (_ : Nat) * 48 ≤ _; omega) | (change (_ : Nat) * 24 ≤ _; omega) | (change (_ : Nat) * 8 ≤ _; omega) | (change (_ : Nat) * 64 ≤ _; omega) | decide)); done)); (conv => lhs; whnf); (try simp (maxSteps := 2000000) (disch := omega) only [nI64, nU64, nU32, nU8, nSubL, nAddL, nAdd, nSub, nDiv, nMod, nZ, nLit, row_3, row_5, row_16, row_22, row_28, row_46, row_48, row_108, row_115, Ty.den, dflt_it, dflt_li, dflt_kv, Int.toNat_natCast, List.take_length, List.drop_zero]))
      try simp (maxSteps := 2000000) (disch := omega) only [nI64, nU64, nU32, nU8, nSubL, nAddL, nAdd, nSub, nDiv, nMod, nZ, nLit, row_3, row_5, row_16, row_22, row_28, row_46, row_48, row_108, row_115, Ty.den, dflt_it, dflt_li, dflt_kv, Int.toNat_natCast, List.take_length, List.drop_zero, eQ, mxI, mnI, eN]
      repeat (refine br_go ?_ ?_; (focus (((repeat' first | exact rfl | exact ordB_st rfl | exact ordB_of rfl | apply band | apply tst_t | apply nt_t)  <;> (try dsimp only [Ty.den, dflt_kv]) <;> (try simp only [List.length_append, List.length_cons, List.length_nil, List.length_take, List.length_drop, List.length_replicate]) <;> (first | trivial | assumption | omega | (change (_ : Int) ≤ _; omega) | (change (_ : Int) < _; omega) | (change (_ : Nat) * 1 ≤ _; omega) | (change (_ : Nat) * 48 ≤ _; omega) | (change (_ : Nat) * 24 ≤ _; omega) | (change (_ : Nat) * 8 ≤ _; omega) | (change (_ : Nat) * 64 ≤ _; omega) | decide)); done)); (conv => lhs; whnf); (try simp (maxSteps := 2000000) (disch := omega) only [nI64, nU64, nU32, nU8, nSubL, nAddL, nAdd, nSub, nDiv, nMod, nZ, nLit, row_3, row_5, row_16, row_22, row_28, row_46, row_48, row_108, row_115, Ty.den, dflt_it, dflt_li, dflt_kv, Int.toNat_natCast, List.take_length, List.drop_zero]))
      generalize hk : filK many = k
      have ek : min (max (many * 69 / 100) 1) 30 = k := hk
      rw [ek, ← hn]
      have hk0 : 1 ≤ k ∧ k ≤ 30 := by omega
      refine loop_rule (α := Nat × List Int) (fun a => a.1 ≤ l.length ∧ a.2.length = n ∧ (l.drop a.1).foldl (keyB (8 * (n : Int)) k) a.2 = l.foldl (keyB (8 * (n : Int)) k) (List.replicate n 0)) (fun a => l.length - a.1)
        (fun a => (V.d byll l :: V.bad :: V.bad :: V.bad :: V.bad :: V.bad :: vI k :: V.bad :: V.sr 5 0 0 n 1 .full :: vI a.1 :: V.bad :: V.bad :: V.bad :: V.bad :: V.bad :: V.bad :: V.bad :: V.bad :: V.bad :: V.bad :: V.bad :: V.bad :: V.bad :: V.bad :: V.bad :: V.bad :: V.bad :: V.bad :: V.bad :: V.bad :: V.bad :: V.bad :: V.bad :: V.bad :: V.bad :: V.bad :: V.bad :: V.bad :: V.bad :: V.bad :: V.bad :: V.bad :: V.bad :: V.bad :: V.bad :: V.bad :: V.bad :: V.bad :: V.bad :: V.bad :: V.bad :: V.bad :: V.bad :: V.bad :: V.bad :: V.bad :: V.bad :: V.bad :: V.bad :: V.bad :: V.bad :: V.bad :: V.bad :: V.bad :: V.bad :: V.bad :: V.bad :: V.bad :: V.bad :: V.bad :: V.bad :: V.bad :: V.bad :: V.bad :: V.bad :: V.bad :: V.bad :: V.bad :: V.bad :: V.bad :: V.bad :: []))
        (fun a => [.fam 0, .gone, .gone, .gone, .gone, .row 0 (.it .u8) a.2, .gone])
        (fun a => some (V.tup [vB (l.foldl (keyB (8 * (n : Int)) k) (List.replicate n 0) ++ [k]), vI 0])) ?_ F (0, List.replicate n 0) ⟨Nat.zero_le _, List.length_replicate, rfl⟩ (by show l.length - 0 < F; omega)
      rintro ⟨i, b⟩ K ⟨k1, k2, k3⟩ hK
      simp only at k1 k2 k3 hK ⊢
      conv => lhs; whnf
      try simp (maxSteps := 2000000) (disch := omega) only [nI64, nU64, nU32, nU8, nSubL, nAddL, nAdd, nSub, nDiv, nMod, nZ, nLit, row_3, row_5, row_16, row_22, row_28, row_46, row_48, row_108, row_115, Ty.den, dflt_it, dflt_li, dflt_kv, Int.toNat_natCast, List.take_length, List.drop_zero]
      by_cases hi : i < l.length
      · refine br_go (tst_t (by omega)) ?_
        conv => lhs; whnf
        try simp (maxSteps := 2000000) (disch := omega) only [nI64, nU64, nU32, nU8, nSubL, nAddL, nAdd, nSub, nDiv, nMod, nZ, nLit, row_3, row_5, row_16, row_22, row_28, row_46, row_48, row_108, row_115, Ty.den, dflt_it, dflt_li, dflt_kv, Int.toNat_natCast, List.take_length, List.drop_zero]
        repeat (refine br_go ?_ ?_; (focus (((repeat' first | exact rfl | exact ordB_st rfl | exact ordB_of rfl | apply band | apply tst_t | apply nt_t)  <;> (try dsimp only [Ty.den, dflt_kv]) <;> (try simp only [List.length_append, List.length_cons, List.length_nil, List.length_take, List.length_drop, List.length_replicate]) <;> (first | trivial | assumption | omega | (change (_ : Int) ≤ _; omega) | (change (_ : Int) < _; omega) | (change (_ : Nat) * 1 ≤ _; omega) | (change (_ : Nat) * 48 ≤ _; omega) | (change (_ : Nat) * 24 ≤ _; omega) | (change (_ : Nat) * 8 ≤ _; omega) | (change (_ : Nat) * 64 ≤ _; omega) | decide)); done)); (conv => lhs; whnf); (try simp (maxSteps := 2000000) (disch := omega) only [nI64, nU64, nU32, nU8, nSubL, nAddL, nAdd, nSub, nDiv, nMod, nZ, nLit, row_3, row_5, row_16, row_22, row_28, row_46, row_48, row_108, row_115, Ty.den, dflt_it, dflt_li, dflt_kv, Int.toNat_natCast, List.take_length, List.drop_zero]))
        obtain ⟨w1, w2⟩ := keyS_lt (l.getD i []) (m := 8 * (n : Int)) (by omega) k
        have eb : keyB (8 * (n : Int)) k b (l.getD i []) = (keyS (l.getD i []) (8 * (n : Int)) k).foldl bitB b := rfl
        generalize keyS (l.getD i []) (8 * (n : Int)) k = ps at *
        refine loop_rule (α := Nat × List Int) (fun a => a.1 ≤ ps.length ∧ a.2.length = n ∧ (ps.drop a.1).foldl bitB a.2 = ps.foldl bitB b) (fun a => ps.length - a.1)
          (fun a => (V.d byll l :: V.bad :: V.bad :: V.bad :: V.bad :: V.bad :: vI k :: V.bad :: V.sr 5 0 0 n 1 .full :: vI i :: V.own 9 u64 ps :: vI a.1 :: V.bad :: V.bad :: V.bad :: V.bad :: V.bad :: V.bad :: V.bad :: V.bad :: V.bad :: V.bad :: V.bad :: V.bad :: V.bad :: V.bad :: V.bad :: V.bad :: V.bad :: V.bad :: V.bad :: V.bad :: V.bad :: V.bad :: V.bad :: V.bad :: V.bad :: V.bad :: V.bad :: V.bad :: V.bad :: V.bad :: V.bad :: V.bad :: V.bad :: V.bad :: V.bad :: V.bad :: V.bad :: V.bad :: V.bad :: V.bad :: V.bad :: V.bad :: V.bad :: V.bad :: V.bad :: V.bad :: V.bad :: V.bad :: V.bad :: V.bad :: V.bad :: V.bad :: V.bad :: V.bad :: V.bad :: V.bad :: V.bad :: V.bad :: V.bad :: V.bad :: V.bad :: V.bad :: V.bad :: V.bad :: V.bad :: V.bad :: V.bad :: V.bad :: V.bad :: []))
          (fun a => [.fam 0, .gone, .gone, .gone, .gone, .row 0 (.it .u8) a.2, .gone, .gone, .gone, .fam ps.length, .gone])
          (fun a => some (V.tup [vB (l.foldl (keyB (8 * (n : Int)) k) (List.replicate n 0) ++ [k]), vI 0])) ?_ F (0, b) ⟨Nat.zero_le _, k2, rfl⟩ (by show ps.length - 0 < F; omega)
        rintro ⟨j, c⟩ K2 ⟨k4, k5, k6⟩ hK2
        simp only at k4 k5 k6 hK2 ⊢
        conv => lhs; whnf
        try simp (maxSteps := 2000000) (disch := omega) only [nI64, nU64, nU32, nU8, nSubL, nAddL, nAdd, nSub, nDiv, nMod, nZ, nLit, row_3, row_5, row_16, row_22, row_28, row_46, row_48, row_108, row_115, Ty.den, dflt_it, dflt_li, dflt_kv, Int.toNat_natCast, List.take_length, List.drop_zero]
        by_cases hj : j < ps.length
        · refine br_go (tst_t (by omega)) ?_
          conv => lhs; whnf
          try simp (maxSteps := 2000000) (disch := omega) only [nI64, nU64, nU32, nU8, nSubL, nAddL, nAdd, nSub, nDiv, nMod, nZ, nLit, row_3, row_5, row_16, row_22, row_28, row_46, row_48, row_108, row_115, Ty.den, dflt_it, dflt_li, dflt_kv, Int.toNat_natCast, List.take_length, List.drop_zero]
          have wj := w2 j hj
          repeat (refine br_go ?_ ?_; (focus (((repeat' first | exact rfl | exact ordB_st rfl | exact ordB_of rfl | apply band | apply tst_t | apply nt_t)  <;> (try dsimp only [Ty.den, dflt_kv]) <;> (try simp only [List.length_append, List.length_cons, List.length_nil, List.length_take, List.length_drop, List.length_replicate]) <;> (first | trivial | assumption | omega | (change (_ : Int) ≤ _; omega) | (change (_ : Int) < _; omega) | (change (_ : Nat) * 1 ≤ _; omega) | (change (_ : Nat) * 48 ≤ _; omega) | (change (_ : Nat) * 24 ≤ _; omega) | (change (_ : Nat) * 8 ≤ _; omega) | (change (_ : Nat) * 64 ≤ _; omega) | decide)); done)); (conv => lhs; whnf); (try simp (maxSteps := 2000000) (disch := omega) only [nI64, nU64, nU32, nU8, nSubL, nAddL, nAdd, nSub, nDiv, nMod, nZ, nLit, row_3, row_5, row_16, row_22, row_28, row_46, row_48, row_108, row_115, Ty.den, dflt_it, dflt_li, dflt_kv, Int.toNat_natCast, List.take_length, List.drop_zero]))
          exact hK2 (j + 1, bitB c (ps.getD j 0)) ⟨by show j + 1 ≤ ps.length; omega, by show (bitB c _).length = n; rw [bitB_len, k5], by rw [← k6, drop_at (d := (0 : Int)) hj]; rfl⟩ (by show ps.length - (j + 1) < ps.length - j; omega)
        · refine br_no (tst_f (by omega)) ?_
          conv => lhs; whnf
          try simp (maxSteps := 2000000) (disch := omega) only [nI64, nU64, nU32, nU8, nSubL, nAddL, nAdd, nSub, nDiv, nMod, nZ, nLit, row_3, row_5, row_16, row_22, row_28, row_46, row_48, row_108, row_115, Ty.den, dflt_it, dflt_li, dflt_kv, Int.toNat_natCast, List.take_length, List.drop_zero]
          repeat (refine br_go ?_ ?_; (focus (((repeat' first | exact rfl | exact ordB_st rfl | exact ordB_of rfl | apply band | apply tst_t | apply nt_t)  <;> (try dsimp only [Ty.den, dflt_kv]) <;> (try simp only [List.length_append, List.length_cons, List.length_nil, List.length_take, List.length_drop, List.length_replicate]) <;> (first | trivial | assumption | omega | (change (_ : Int) ≤ _; omega) | (change (_ : Int) < _; omega) | (change (_ : Nat) * 1 ≤ _; omega) | (change (_ : Nat) * 48 ≤ _; omega) | (change (_ : Nat) * 24 ≤ _; omega) | (change (_ : Nat) * 8 ≤ _; omega) | (change (_ : Nat) * 64 ≤ _; omega) | decide)); done)); (conv => lhs; whnf); (try simp (maxSteps := 2000000) (disch := omega) only [nI64, nU64, nU32, nU8, nSubL, nAddL, nAdd, nSub, nDiv, nMod, nZ, nLit, row_3, row_5, row_16, row_22, row_28, row_46, row_48, row_108, row_115, Ty.den, dflt_it, dflt_li, dflt_kv, Int.toNat_natCast, List.take_length, List.drop_zero]))
          have k7 : c = keyB (8 * (n : Int)) k b (l.getD i []) := by
            rw [eb, ← k6, List.drop_eq_nil_of_le (by omega)]; rfl
          exact hK (i + 1, c) ⟨by show i + 1 ≤ l.length; omega, k5, by rw [← k3, drop_at (d := ([] : List Int)) hi, List.foldl_cons, k7]⟩ (by show l.length - (i + 1) < l.length - i; omega)
      · refine br_no (tst_f (by omega)) ?_
        conv => lhs; whnf
        try simp (maxSteps := 2000000) (disch := omega) only [nI64, nU64, nU32, nU8, nSubL, nAddL, nAdd, nSub, nDiv, nMod, nZ, nLit, row_3, row_5, row_16, row_22, row_28, row_46, row_48, row_108, row_115, Ty.den, dflt_it, dflt_li, dflt_kv, Int.toNat_natCast, List.take_length, List.drop_zero]
        repeat (refine br_go ?_ ?_; (focus (((repeat' first | exact rfl | exact ordB_st rfl | exact ordB_of rfl | apply band | apply tst_t | apply nt_t)  <;> (try dsimp only [Ty.den, dflt_kv]) <;> (try simp only [List.length_append, List.length_cons, List.length_nil, List.length_take, List.length_drop, List.length_replicate]) <;> (first | trivial | assumption | omega | (change (_ : Int) ≤ _; omega) | (change (_ : Int) < _; omega) | (change (_ : Nat) * 1 ≤ _; omega) | (change (_ : Nat) * 48 ≤ _; omega) | (change (_ : Nat) * 24 ≤ _; omega) | (change (_ : Nat) * 8 ≤ _; omega) | (change (_ : Nat) * 64 ≤ _; omega) | decide)); done)); (conv => lhs; whnf); (try simp (maxSteps := 2000000) (disch := omega) only [nI64, nU64, nU32, nU8, nSubL, nAddL, nAdd, nSub, nDiv, nMod, nZ, nLit, row_3, row_5, row_16, row_22, row_28, row_46, row_48, row_108, row_115, Ty.den, dflt_it, dflt_li, dflt_kv, Int.toNat_natCast, List.take_length, List.drop_zero]))
        rw [List.drop_eq_nil_of_le (by omega)] at k3
        have k3 : b = List.foldl (keyB (8 * (n : Int)) k) (List.replicate n 0) l := k3
        rw [← k3]
        repeat (refine br_go ?_ ?_; (focus (((repeat' first | exact rfl | exact ordB_st rfl | exact ordB_of rfl | apply band | apply tst_t | apply nt_t)  <;> (try dsimp only [Ty.den, dflt_kv]) <;> (try simp only [List.length_append, List.length_cons, List.length_nil, List.length_take, List.length_drop, List.length_replicate]) <;> (first | trivial | assumption | omega | (change (_ : Int) ≤ _; omega) | (change (_ : Int) < _; omega) | (change (_ : Nat) * 1 ≤ _; omega) | (change (_ : Nat) * 48 ≤ _; omega) | (change (_ : Nat) * 24 ≤ _; omega) | (change (_ : Nat) * 8 ≤ _; omega) | (change (_ : Nat) * 64 ≤ _; omega) | decide)); done)); (conv => lhs; whnf); (try simp (maxSteps := 2000000) (disch := omega) only [nI64, nU64, nU32, nU8, nSubL, nAddL, nAdd, nSub, nDiv, nMod, nZ, nLit, row_3, row_5, row_16, row_22, row_28, row_46, row_48, row_108, row_115, Ty.den, dflt_it, dflt_li, dflt_kv, Int.toNat_natCast, List.take_length, List.drop_zero]))
        rw [put_end k2]
abbrev filterC : Ctx := ⟨rows, (fun | 0 => ([6, 7, 8, 34, 35, 36], [6, 7]) | 1 => ([], [6, 7, 8, 34, 35, 36]) | _ => ([], []))⟩
theorem filter_ok (T : Tab) (h1 : T 72 = sumSp.ent) (h2 : T 73 = none) (h3 : T 74 = none) (h4 : T 96 = none) : filterSp.OkW T filterC F37 := by
  rw [on_top h1, off_top h2, off_top h3, off_top h4]
  rintro ⟨(l : List (List Int)), (many : Int), _⟩ hf hp
  have hl : l.length ≤ 1000 := tst_iff.1 hp
  obtain ⟨F, hF⟩ : ∃ F : Nat, F = l.length + 1005 := ⟨_, rfl⟩
  refine ⟨F, 2, ?_⟩
  show evFn _ _ _ _ _ [.d byll l, vI many] [] _ = some (.tup [vB (filterS l many 71).1, vI (filterS l many 71).2] : V)
  conv => lhs; whnf
  try simp (maxSteps := 2000000) (disch := omega) only [nI64, nU64, nU32, nU8, nSubL, nAddL, nAdd, nSub, nDiv, nMod, nZ, nLit, row_3, row_5, row_16, row_22, row_28, row_46, row_48, row_108, row_115, Ty.den, dflt_it, dflt_li, dflt_kv, Int.toNat_natCast, List.take_length, List.drop_zero]
  unfold filterS
  by_cases g1 : many < 1
  · rw [if_pos (.inl g1)]
    refine br_go (tst_t (g1)) ?_
    conv => lhs; whnf
    try simp (maxSteps := 2000000) (disch := omega) only [nI64, nU64, nU32, nU8, nSubL, nAddL, nAdd, nSub, nDiv, nMod, nZ, nLit, row_3, row_5, row_16, row_22, row_28, row_46, row_48, row_108, row_115, Ty.den, dflt_it, dflt_li, dflt_kv, Int.toNat_natCast, List.take_length, List.drop_zero]
    repeat (refine br_go ?_ ?_; (focus (((repeat' first | exact rfl | exact ordB_st rfl | exact ordB_of rfl | apply band | apply tst_t | apply nt_t)  <;> (try dsimp only [Ty.den, dflt_kv]) <;> (try simp only [List.length_append, List.length_cons, List.length_nil, List.length_take, List.length_drop, List.length_replicate]) <;> (first | trivial | assumption | omega | (change (_ : Int) ≤ _; omega) | (change (_ : Int) < _; omega) | (change (_ : Nat) * 1 ≤ _; omega) | (change (_ : Nat) * 48 ≤ _; omega) | (change (_ : Nat) * 24 ≤ _; omega) | (change (_ : Nat) * 8 ≤ _; omega) | (change (_ : Nat) * 64 ≤ _; omega) | decide)); done)); (conv => lhs; whnf); (try simp (maxSteps := 2000000) (disch := omega) only [nI64, nU64, nU32, nU8, nSubL, nAddL, nAdd, nSub, nDiv, nMod, nZ, nLit, row_3, row_5, row_16, row_22, row_28, row_46, row_48, row_108, row_115, Ty.den, dflt_it, dflt_li, dflt_kv, Int.toNat_natCast, List.take_length, List.drop_zero]))
  · refine br_no (tst_f (g1)) ?_
    conv => lhs; whnf
    try simp (maxSteps := 2000000) (disch := omega) only [nI64, nU64, nU32, nU8, nSubL, nAddL, nAdd, nSub, nDiv, nMod, nZ, nLit, row_3, row_5, row_16, row_22, row_28, row_46, row_48, row_108, row_115, Ty.den, dflt_it, dflt_li, dflt_kv, Int.toNat_natCast, List.take_length, List.drop_zero]
    by_cases g2 : many > 64
    · rw [if_pos (.inr g2)]
      refine br_go (tst_t (g2)) ?_
      conv => lhs; whnf
      try simp (maxSteps := 2000000) (disch := omega) only [nI64, nU64, nU32, nU8, nSubL, nAddL, nAdd, nSub, nDiv, nMod, nZ, nLit, row_3, row_5, row_16, row_22, row_28, row_46, row_48, row_108, row_115, Ty.den, dflt_it, dflt_li, dflt_kv, Int.toNat_natCast, List.take_length, List.drop_zero]
      repeat (refine br_go ?_ ?_; (focus (((repeat' first | exact rfl | exact ordB_st rfl | exact ordB_of rfl | apply band | apply tst_t | apply nt_t)  <;> (try dsimp only [Ty.den, dflt_kv]) <;> (try simp only [List.length_append, List.length_cons, List.length_nil, List.length_take, List.length_drop, List.length_replicate]) <;> (first | trivial | assumption | omega | (change (_ : Int) ≤ _; omega) | (change (_ : Int) < _; omega) | (change (_ : Nat) * 1 ≤ _; omega) | (change (_ : Nat) * 48 ≤ _; omega) | (change (_ : Nat) * 24 ≤ _; omega) | (change (_ : Nat) * 8 ≤ _; omega) | (change (_ : Nat) * 64 ≤ _; omega) | decide)); done)); (conv => lhs; whnf); (try simp (maxSteps := 2000000) (disch := omega) only [nI64, nU64, nU32, nU8, nSubL, nAddL, nAdd, nSub, nDiv, nMod, nZ, nLit, row_3, row_5, row_16, row_22, row_28, row_46, row_48, row_108, row_115, Ty.den, dflt_it, dflt_li, dflt_kv, Int.toNat_natCast, List.take_length, List.drop_zero]))
    · rw [if_neg (by omega)]
      refine br_no (tst_f (g2)) ?_
      conv => lhs; whnf
      try simp (maxSteps := 2000000) (disch := omega) only [nI64, nU64, nU32, nU8, nSubL, nAddL, nAdd, nSub, nDiv, nMod, nZ, nLit, row_3, row_5, row_16, row_22, row_28, row_46, row_48, row_108, row_115, Ty.den, dflt_it, dflt_li, dflt_kv, Int.toNat_natCast, List.take_length, List.drop_zero]
      obtain ⟨q, n, eQ, hq, hn, eN, eN2, hn2⟩ := fil_nums l g1 g2 hl
      repeat (refine br_go ?_ ?_; (focus (((repeat' first | exact rfl | exact ordB_st rfl | exact ordB_of rfl | apply band | apply tst_t | apply nt_t)  <;> (try dsimp only [Ty.den, dflt_kv]) <;> (try simp only [List.length_append, List.length_cons, List.length_nil, List.length_take, List.length_drop, List.length_replicate]) <;> (first | trivial | assumption | omega | (change (_ : Int) ≤ _; omega) | (change (_ : Int) < _; omega) | (change (_ : Nat) * 1 ≤ _; omega) | (change (_ : Nat) * 48 ≤ _; omega) | (change (_ : Nat) * 24 ≤ _; omega) | (change (_ : Nat) * 8 ≤ _; omega) | (change (_ : Nat) * 64 ≤ _; omega) | decide)); done)); (conv => lhs; whnf); (try simp (maxSteps := 2000000) (disch := omega) only [nI64, nU64, nU32, nU8, nSubL, nAddL, nAdd, nSub, nDiv, nMod, nZ, nLit, row_3, row_5, row_16, row_22, row_28, row_46, row_48, row_108, row_115, Ty.den, dflt_it, dflt_li, dflt_kv, Int.toNat_natCast, List.take_length, List.drop_zero]))
      try simp (maxSteps := 2000000) (disch := omega) only [nI64, nU64, nU32, nU8, nSubL, nAddL, nAdd, nSub, nDiv, nMod, nZ, nLit, row_3, row_5, row_16, row_22, row_28, row_46, row_48, row_108, row_115, Ty.den, dflt_it, dflt_li, dflt_kv, Int.toNat_natCast, List.take_length, List.drop_zero, eQ, mxI, mnI, eN2]
      repeat (refine br_go ?_ ?_; (focus (((repeat' first | exact rfl | exact ordB_st rfl | exact ordB_of rfl | apply band | apply tst_t | apply nt_t)  <;> (try dsimp only [Ty.den, dflt_kv]) <;> (try simp only [List.length_append, List.length_cons, List.length_nil, List.length_take, List.length_drop, List.length_replicate]) <;> (first | trivial | assumption | omega | (change (_ : Int) ≤ _; omega) | (change (_ : Int) < _; omega) | (change (_ : Nat) * 1 ≤ _; omega) | (change (_ : Nat) * 48 ≤ _; omega) | (change (_ : Nat) * 24 ≤ _; omega) | (change (_ : Nat) * 8 ≤ _; omega) | (change (_ : Nat) * 64 ≤ _; omega) | decide)); done)); (conv => lhs; whnf); (try simp (maxSteps := 2000000) (disch := omega) only [nI64, nU64, nU32, nU8, nSubL, nAddL, nAdd, nSub, nDiv, nMod, nZ, nLit, row_3, row_5, row_16, row_22, row_28, row_46, row_48, row_108, row_115, Ty.den, dflt_it, dflt_li, dflt_kv, Int.toNat_natCast, List.take_length, List.drop_zero]))
      generalize hk : filK many = k
      have ek : min (max (many * 69 / 100) 1) 30 = k := hk
      rw [ek, ← hn]
      have hk0 : 1 ≤ k ∧ k ≤ 30 := by omega
      refine loop_rule (α := Nat × List Int) (fun a => a.1 ≤ l.length ∧ a.2.length = n ∧ (l.drop a.1).foldl (keyB (8 * (n : Int)) k) a.2 = l.foldl (keyB (8 * (n : Int)) k) (List.replicate n 0)) (fun a => l.length - a.1)
        (fun a => (V.bad :: V.bad :: V.bad :: V.bad :: V.bad :: V.bad :: vI k :: V.p 6 0 :: vU (8 * (n : Int)) :: V.bad :: V.bad :: V.bad :: V.bad :: V.bad :: V.bad :: V.bad :: V.bad :: V.bad :: V.bad :: V.bad :: V.bad :: V.bad :: V.bad :: V.bad :: V.bad :: V.bad :: V.bad :: V.bad :: V.bad :: V.bad :: V.bad :: V.bad :: V.bad :: V.bad :: V.d byll l :: vI l.length :: vI a.1 :: V.bad :: V.bad :: V.bad :: V.bad :: V.bad :: V.bad :: V.bad :: V.bad :: V.bad :: V.bad :: V.bad :: V.bad :: V.bad :: V.bad :: []))
        (fun a => [.fam 0, .gone, .gone, .gone, .gone, .row 0 (.it .u8) a.2, .obj [.sr 5 0 0 n 1 .full], .fam 0, .gone, .gone, .gone])
        (fun a => some (V.tup [vB (l.foldl (keyB (8 * (n : Int)) k) (List.replicate n 0) ++ [k]), vI 0])) ?_ F (0, List.replicate n 0) ⟨Nat.zero_le _, List.length_replicate, rfl⟩ (by show l.length - 0 < F; omega)
      rintro ⟨i, b⟩ K ⟨k1, k2, k3⟩ hK
      simp only at k1 k2 k3 hK ⊢
      conv => lhs; whnf
      try simp (maxSteps := 2000000) (disch := omega) only [nI64, nU64, nU32, nU8, nSubL, nAddL, nAdd, nSub, nDiv, nMod, nZ, nLit, row_3, row_5, row_16, row_22, row_28, row_46, row_48, row_108, row_115, Ty.den, dflt_it, dflt_li, dflt_kv, Int.toNat_natCast, List.take_length, List.drop_zero]
      by_cases hi : i < l.length
      · refine br_go (tst_t (by omega)) ?_
        conv => lhs; whnf
        try simp (maxSteps := 2000000) (disch := omega) only [nI64, nU64, nU32, nU8, nSubL, nAddL, nAdd, nSub, nDiv, nMod, nZ, nLit, row_3, row_5, row_16, row_22, row_28, row_46, row_48, row_108, row_115, Ty.den, dflt_it, dflt_li, dflt_kv, Int.toNat_natCast, List.take_length, List.drop_zero]
        repeat (refine br_go ?_ ?_; (focus (((repeat' first | exact rfl | exact ordB_st rfl | exact ordB_of rfl | apply band | apply tst_t | apply nt_t)  <;> (try dsimp only [Ty.den, dflt_kv]) <;> (try simp only [List.length_append, List.length_cons, List.length_nil, List.length_take, List.length_drop, List.length_replicate]) <;> (first | trivial | assumption | omega | (change (_ : Int) ≤ _; omega) | (change (_ : Int) < _; omega) | (change (_ : Nat) * 1 ≤ _; omega) | (change (_ : Nat) * 48 ≤ _; omega) | (change (_ : Nat) * 24 ≤ _; omega) | (change (_ : Nat) * 8 ≤ _; omega) | (change (_ : Nat) * 64 ≤ _; omega) | decide)); done)); (conv => lhs; whnf); (try simp (maxSteps := 2000000) (disch := omega) only [nI64, nU64, nU32, nU8, nSubL, nAddL, nAdd, nSub, nDiv, nMod, nZ, nLit, row_3, row_5, row_16, row_22, row_28, row_46, row_48, row_108, row_115, Ty.den, dflt_it, dflt_li, dflt_kv, Int.toNat_natCast, List.take_length, List.drop_zero]))
        rw [rot2]
        have eb : keyB (8 * (n : Int)) k b (l.getD i []) = (stepsS (8 * (n : Int)) (rotS (sumS (l.getD i []))) k.toNat (sumS (l.getD i []))).foldl bitB b := rfl
        have hs := sumS_lt (l.getD i [])
        generalize sumS (l.getD i []) = s at *
        generalize rotS s = d at *
        refine loop_rule (α := Nat × Int × List Int) (fun a => (0 ≤ a.2.1 ∧ a.2.1 < 4294967296) ∧ a.1 ≤ k.toNat ∧ a.2.2.length = n ∧ (stepsS (8 * (n : Int)) d (k.toNat - a.1) a.2.1).foldl bitB a.2.2 = keyB (8 * (n : Int)) k b (l.getD i [])) (fun a => k.toNat - a.1)
          (fun a => (V.bad :: V.bad :: vU (8 * (n : Int)) :: V.fn 74 [] [V.p 6 0] :: V.bad :: V.bad :: V.bad :: V.bad :: vW a.2.1 :: vW d :: V.bad :: V.bad :: V.bad :: V.bad :: vI k :: vI a.1 :: V.bad :: V.bad :: V.bad :: V.bad :: V.bad :: V.bad :: V.bad :: V.bad :: V.bad :: V.bad :: V.bad :: []))
          (fun a => [.fam 0, .gone, .gone, .gone, .gone, .row 0 (.it .u8) a.2.2, .obj [.sr 5 0 0 n 1 .full], .fam 0, .gone, .gone, .gone, .gone, .gone, .gone, .gone])
          (fun a => some (V.tup [vB (l.foldl (keyB (8 * (n : Int)) k) (List.replicate n 0) ++ [k]), vI 0])) ?_ F (0, s, b) ⟨hs, Nat.zero_le _, k2, eb.symm⟩ (by show k.toNat - 0 < F; omega)
        rintro ⟨j, h, c⟩ K2 ⟨k4, k5, k6, k7⟩ hK2
        simp only at k4 k5 k6 k7 hK2 ⊢
        conv => lhs; whnf
        try simp (maxSteps := 2000000) (disch := omega) only [nI64, nU64, nU32, nU8, nSubL, nAddL, nAdd, nSub, nDiv, nMod, nZ, nLit, row_3, row_5, row_16, row_22, row_28, row_46, row_48, row_108, row_115, Ty.den, dflt_it, dflt_li, dflt_kv, Int.toNat_natCast, List.take_length, List.drop_zero]
        by_cases hj : (j : Int) < k
        · have wm : 0 ≤ h % (8 * (n : Int)) ∧ h % (8 * (n : Int)) < 8 * (n : Int) := ⟨Int.emod_nonneg _ (by omega), Int.emod_lt_of_pos _ (by omega)⟩
          refine br_go (tst_t (hj)) ?_
          conv => lhs; whnf
          try simp (maxSteps := 2000000) (disch := omega) only [nI64, nU64, nU32, nU8, nSubL, nAddL, nAdd, nSub, nDiv, nMod, nZ, nLit, row_3, row_5, row_16, row_22, row_28, row_46, row_48, row_108, row_115, Ty.den, dflt_it, dflt_li, dflt_kv, Int.toNat_natCast, List.take_length, List.drop_zero]
          refine br_go ?_ ?_
          focus (((repeat' first | exact rfl | exact ordB_st rfl | exact ordB_of rfl | apply band | apply tst_t | apply nt_t)  <;> (try dsimp only [Ty.den, dflt_kv]) <;> (try simp only [List.length_append, List.length_cons, List.length_nil, List.length_take, List.length_drop, List.length_replicate]) <;> (first | trivial | assumption | omega | (change (_ : Int) ≤ _; omega) | (change (_ : Int) < _; omega) | (change (_ : Nat) * 1 ≤ _; omega) | (change (_ : Nat) * 48 ≤ _; omega) | (change (_ : Nat) * 24 ≤ _; omega) | (change (_ : Nat) * 8 ≤ _; omega) | (change (_ : Nat) * 64 ≤ _; omega) | decide)); done)
          conv => lhs; whnf
          try simp (maxSteps := 2000000) (disch := omega) only [nI64, nU64, nU32, nU8, nSubL, nAddL, nAdd, nSub, nDiv, nMod, nZ, nLit, row_3, row_5, row_16, row_22, row_28, row_46, row_48, row_108, row_115, Ty.den, dflt_it, dflt_li, dflt_kv, Int.toNat_natCast, List.take_length, List.drop_zero]
          generalize hp : h % (8 * (n : Int)) = p at wm ⊢
          try simp (maxSteps := 2000000) (disch := omega) only [nI64, nU64, nU32, nU8, nSubL, nAddL, nAdd, nSub, nDiv, nMod, nZ, nLit, row_3, row_5, row_16, row_22, row_28, row_46, row_48, row_108, row_115, Ty.den, dflt_it, dflt_li, dflt_kv, Int.toNat_natCast, List.take_length, List.drop_zero, hp]
          repeat (refine br_go ?_ ?_; (focus (((repeat' first | exact rfl | exact ordB_st rfl | exact ordB_of rfl | apply band | apply tst_t | apply nt_t)  <;> (try dsimp only [Ty.den, dflt_kv]) <;> (try simp only [List.length_append, List.length_cons, List.length_nil, List.length_take, List.length_drop, List.length_replicate]) <;> (first | trivial | assumption | omega | (change (_ : Int) ≤ _; omega) | (change (_ : Int) < _; omega) | (change (_ : Nat) * 1 ≤ _; omega) | (change (_ : Nat) * 48 ≤ _; omega) | (change (_ : Nat) * 24 ≤ _; omega) | (change (_ : Nat) * 8 ≤ _; omega) | (change (_ : Nat) * 64 ≤ _; omega) | decide)); done)); (conv => lhs; whnf); (try simp (maxSteps := 2000000) (disch := omega) only [nI64, nU64, nU32, nU8, nSubL, nAddL, nAdd, nSub, nDiv, nMod, nZ, nLit, row_3, row_5, row_16, row_22, row_28, row_46, row_48, row_108, row_115, Ty.den, dflt_it, dflt_li, dflt_kv, Int.toNat_natCast, List.take_length, List.drop_zero]))
          have hw : 0 ≤ IntKind.u32.wrap (h + d) ∧ IntKind.u32.wrap (h + d) < 4294967296 := by rw [wrapU32]; omega
          exact hK2 (j + 1, IntKind.u32.wrap (h + d), bitB c p) ⟨hw, by show j + 1 ≤ k.toNat; omega, by show (bitB c _).length = n; rw [bitB_len, k6], by rw [← k7, show k.toNat - j = (k.toNat - (j + 1)) + 1 by omega, ← hp]; rfl⟩ (by show k.toNat - (j + 1) < k.toNat - j; omega)
        · refine br_no (tst_f (hj)) ?_
          conv => lhs; whnf
          try simp (maxSteps := 2000000) (disch := omega) only [nI64, nU64, nU32, nU8, nSubL, nAddL, nAdd, nSub, nDiv, nMod, nZ, nLit, row_3, row_5, row_16, row_22, row_28, row_46, row_48, row_108, row_115, Ty.den, dflt_it, dflt_li, dflt_kv, Int.toNat_natCast, List.take_length, List.drop_zero]
          repeat (refine br_go ?_ ?_; (focus (((repeat' first | exact rfl | exact ordB_st rfl | exact ordB_of rfl | apply band | apply tst_t | apply nt_t)  <;> (try dsimp only [Ty.den, dflt_kv]) <;> (try simp only [List.length_append, List.length_cons, List.length_nil, List.length_take, List.length_drop, List.length_replicate]) <;> (first | trivial | assumption | omega | (change (_ : Int) ≤ _; omega) | (change (_ : Int) < _; omega) | (change (_ : Nat) * 1 ≤ _; omega) | (change (_ : Nat) * 48 ≤ _; omega) | (change (_ : Nat) * 24 ≤ _; omega) | (change (_ : Nat) * 8 ≤ _; omega) | (change (_ : Nat) * 64 ≤ _; omega) | decide)); done)); (conv => lhs; whnf); (try simp (maxSteps := 2000000) (disch := omega) only [nI64, nU64, nU32, nU8, nSubL, nAddL, nAdd, nSub, nDiv, nMod, nZ, nLit, row_3, row_5, row_16, row_22, row_28, row_46, row_48, row_108, row_115, Ty.den, dflt_it, dflt_li, dflt_kv, Int.toNat_natCast, List.take_length, List.drop_zero]))
          have k8 : c = keyB (8 * (n : Int)) k b (l.getD i []) := by
            rw [← k7, show k.toNat - j = 0 by omega]; rfl
          exact hK (i + 1, c) ⟨by show i + 1 ≤ l.length; omega, k6, by rw [← k3, drop_at (d := ([] : List Int)) hi, List.foldl_cons, k8]⟩ (by show l.length - (i + 1) < l.length - i; omega)
      · refine br_no (tst_f (by omega)) ?_
        conv => lhs; whnf
        try simp (maxSteps := 2000000) (disch := omega) only [nI64, nU64, nU32, nU8, nSubL, nAddL, nAdd, nSub, nDiv, nMod, nZ, nLit, row_3, row_5, row_16, row_22, row_28, row_46, row_48, row_108, row_115, Ty.den, dflt_it, dflt_li, dflt_kv, Int.toNat_natCast, List.take_length, List.drop_zero]
        repeat (refine br_go ?_ ?_; (focus (((repeat' first | exact rfl | exact ordB_st rfl | exact ordB_of rfl | apply band | apply tst_t | apply nt_t)  <;> (try dsimp only [Ty.den, dflt_kv]) <;> (try simp only [List.length_append, List.length_cons, List.length_nil, List.length_take, List.length_drop, List.length_replicate]) <;> (first | trivial | assumption | omega | (change (_ : Int) ≤ _; omega) | (change (_ : Int) < _; omega) | (change (_ : Nat) * 1 ≤ _; omega) | (change (_ : Nat) * 48 ≤ _; omega) | (change (_ : Nat) * 24 ≤ _; omega) | (change (_ : Nat) * 8 ≤ _; omega) | (change (_ : Nat) * 64 ≤ _; omega) | decide)); done)); (conv => lhs; whnf); (try simp (maxSteps := 2000000) (disch := omega) only [nI64, nU64, nU32, nU8, nSubL, nAddL, nAdd, nSub, nDiv, nMod, nZ, nLit, row_3, row_5, row_16, row_22, row_28, row_46, row_48, row_108, row_115, Ty.den, dflt_it, dflt_li, dflt_kv, Int.toNat_natCast, List.take_length, List.drop_zero]))
        rw [List.drop_eq_nil_of_le (by omega)] at k3
        have k3 : b = List.foldl (keyB (8 * (n : Int)) k) (List.replicate n 0) l := k3
        rw [← k3]
        repeat (refine br_go ?_ ?_; (focus (((repeat' first | exact rfl | exact ordB_st rfl | exact ordB_of rfl | apply band | apply tst_t | apply nt_t)  <;> (try dsimp only [Ty.den, dflt_kv]) <;> (try simp only [List.length_append, List.length_cons, List.length_nil, List.length_take, List.length_drop, List.length_replicate]) <;> (first | trivial | assumption | omega | (change (_ : Int) ≤ _; omega) | (change (_ : Int) < _; omega) | (change (_ : Nat) * 1 ≤ _; omega) | (change (_ : Nat) * 48 ≤ _; omega) | (change (_ : Nat) * 24 ≤ _; omega) | (change (_ : Nat) * 8 ≤ _; omega) | (change (_ : Nat) * 64 ≤ _; omega) | decide)); done)); (conv => lhs; whnf); (try simp (maxSteps := 2000000) (disch := omega) only [nI64, nU64, nU32, nU8, nSubL, nAddL, nAdd, nSub, nDiv, nMod, nZ, nLit, row_3, row_5, row_16, row_22, row_28, row_46, row_48, row_108, row_115, Ty.den, dflt_it, dflt_li, dflt_kv, Int.toNat_natCast, List.take_length, List.drop_zero]))
        rw [put_end k2]
end Go.Proofs.Ytkdajonmfiipkaa.Ev
/- Tables: what they are made of. -/
namespace Go.Proofs.Ytkdajonmfiipkaa.Ev
open Go Go.RowKit
set_option linter.unusedVariables false
set_option linter.unusedSimpArgs false
set_option maxRecDepth 100000
set_option maxHeartbeats 1000000
theorem ord_ltt {a b c : List Int} (h1 : order a b ≤ 0) (h2 : order b c < 0) : order a c < 0 := by
  have h6 := order_trans h1 (by omega : order b c ≤ 0)
  rcases order_cases a c with h | h | h
  · omega
  · exfalso
    have h7 := order_neg a c
    have h8 := order_trans (a := c) (b := a) (c := b) (by omega) h1
    have h9 := order_neg b c
    omega
  · omega
/-- entries that rise, said of any two -/
theorem rises_iff (l : List KV) : Rises l ↔ (∀ x ∈ l, (split x.1).2.2.2 = 0) ∧ l.Pairwise (fun x y => order x.1 y.1 < 0) := by
  have key : ∀ (l : List KV) (p : Option (List Int)), risesFrom p l = true ↔ (∀ x ∈ l, (split x.1).2.2.2 = 0) ∧ (∀ q, p = some q → ∀ x ∈ l, order q x.1 < 0) ∧ l.Pairwise (fun x y => order x.1 y.1 < 0) := by
    intro l
    induction l with
    | nil => intro p; simp [risesFrom]
    | cons x l ih =>
      intro p
      rw [risesFrom_cons, Bool.and_eq_true, Bool.and_eq_true, ih, List.pairwise_cons, decide_eq_true_eq]
      constructor
      · rintro ⟨h1, h2, h3, h4, h5⟩
        refine ⟨fun y hy => ?_, fun q hq y hy => ?_, fun y hy => h4 _ rfl y hy, h5⟩
        · rcases List.mem_cons.1 hy with rfl | hy
          · exact h1
          · exact h3 y hy
        · subst hq
          have h2 : order q x.1 < 0 := of_decide_eq_true h2
          rcases List.mem_cons.1 hy with rfl | hy
          · exact h2
          · exact ord_ltt (Int.le_of_lt h2) (h4 _ rfl y hy)
      · rintro ⟨h1, h2, h3, h4⟩
        refine ⟨h1 x List.mem_cons_self, ?_, fun y hy => h1 y (List.mem_cons_of_mem _ hy), fun q hq y hy => ?_, h4⟩
        · cases p with
          | none => rfl
          | some q => exact decide_eq_true (h2 q rfl x List.mem_cons_self)
        · cases hq; exact h3 y hy
  unfold Rises
  rw [key]
  constructor
  · rintro ⟨h1, _, h3⟩; exact ⟨h1, h3⟩
  · rintro ⟨h1, h3⟩; exact ⟨h1, (fun q hq => by cases hq), h3⟩
theorem Rises.sub {l m : List KV} (h : Rises l) (hs : m.Sublist l) : Rises m := by
  rw [rises_iff] at h ⊢
  exact ⟨fun x hx => h.1 x (hs.subset hx), h.2.sublist hs⟩
/-- rising is of the keys alone -/
theorem rises_keys {l m : List KV} (h : Rises l) (hk : m.map (fun x => x.1) = l.map (fun x => x.1)) : Rises m := by
  rw [rises_iff] at h ⊢
  have h2 : (l.map (fun x => x.1)).Pairwise (fun x y => order x y < 0) := List.pairwise_map.2 h.2
  rw [← hk] at h2
  refine ⟨fun x hx => ?_, List.pairwise_map.1 h2⟩
  have : x.1 ∈ m.map (fun x => x.1) := List.mem_map_of_mem hx
  rw [hk] at this
  obtain ⟨y, hy, e⟩ := List.mem_map.1 this
  rw [← e]; exact h.1 y hy
def szKV (x : KV) : Nat := x.1.length + x.2.1.length
theorem total_app : ∀ (a b : List KV), total (a ++ b) = total a + total b
  | [], b => by rw [List.nil_append]; show _ = 0 + _; omega
  | x :: a, b => by rw [List.cons_append, total_cons, total_cons, total_app a b]; omega
/-- which entries go into each block -/
def pcs (size : Nat) : List KV → Nat → List KV → List (List KV)
  | cur, _, [] => [cur]
  | cur, n, x :: l => if n ≥ size then cur :: pcs size [x] (szKV x) l else pcs size (cur ++ [x]) (n + szKV x) l
theorem pcs_flat (size : Nat) : ∀ (l cur : List KV) (n : Nat), (pcs size cur n l).flatten = cur ++ l
  | [], cur, n => by simp [pcs]
  | x :: l, cur, n => by
    rw [pcs]
    split
    · rw [List.flatten_cons, pcs_flat size l]; rfl
    · rw [pcs_flat size l]; simp
theorem pcs_ne (size : Nat) : ∀ (l cur : List KV) (n : Nat), cur ≠ [] → ∀ p ∈ pcs size cur n l, p ≠ []
  | [], cur, n, h, p, hp => by rw [pcs, List.mem_singleton] at hp; rw [hp]; exact h
  | x :: l, cur, n, h, p, hp => by
    rw [pcs] at hp
    split at hp
    · rcases List.mem_cons.1 hp with rfl | hp
      · exact h
      · exact pcs_ne size l [x] _ (by simp) p hp
    · exact pcs_ne size l _ _ (by simp) p hp
theorem pcs_ne0 {size : Nat} (hs : 0 < size) {l : List KV} (hl : l ≠ []) : ∀ p ∈ pcs size [] 0 l, p ≠ [] := by
  cases l with
  | nil => exact absurd rfl hl
  | cons x l =>
    rw [pcs, if_neg (by omega)]
    exact pcs_ne size l _ _ (by simp)
theorem pcs_len (size : Nat) : ∀ (l cur : List KV) (n : Nat), (pcs size cur n l).length ≤ l.length + 1
  | [], cur, n => by simp [pcs]
  | x :: l, cur, n => by
    rw [pcs]
    split
    · have := pcs_len size l [x] (szKV x); rw [List.length_cons, List.length_cons]; omega
    · have := pcs_len size l (cur ++ [x]) (n + szKV x); rw [List.length_cons]; omega
theorem total_mem : ∀ {P : List (List KV)} {p : List KV}, p ∈ P → total p ≤ total P.flatten ∧ p.length ≤ P.flatten.length
  | q :: P, p, h => by
    rw [List.flatten_cons, total_app, List.length_append]
    rcases List.mem_cons.1 h with rfl | h
    · omega
    · have := total_mem h; omega
def lastK (p : List KV) : List Int := (p.getD (p.length - 1) kvd).1
theorem last_sub : ∀ (P : List (List KV)), (∀ p ∈ P, p ≠ []) → (P.map fun p => p.getD (p.length - 1) kvd).Sublist P.flatten
  | [], _ => List.Sublist.refl _
  | p :: P, h => by
    rw [List.map_cons, List.flatten_cons]
    have hp := h p List.mem_cons_self
    have hl : 0 < p.length := List.length_pos_iff.2 hp
    have h1 : [p.getD (p.length - 1) kvd].Sublist p := by
      rw [List.singleton_sublist, getD_at (by omega)]; exact List.getElem_mem _
    exact h1.append (last_sub P (fun q hq => h q (List.mem_cons_of_mem _ hq)))
/-- a block laid behind the ones that are there, and its place -/
def tabStep (r : Nat) (s : List Int × List KV) (p : List KV) : List Int × List KV :=
  (s.1 ++ (built p r ++ fixedL (sumS (built p r)) 4), s.2 ++ [(lastK p, putS s.1.length ++ putS (built p r).length, ())])
theorem tabFold_keys (r : Nat) : ∀ (P : List (List KV)) (s : List Int × List KV), (P.foldl (tabStep r) s).2.map (fun x => x.1) = s.2.map (fun x => x.1) ++ P.map lastK
  | [], s => by simp
  | p :: P, s => by rw [List.foldl_cons, tabFold_keys r P]; simp [tabStep]
theorem tab_rises {l : List KV} (h : Rises l) {size : Nat} (hs : 0 < size) (hl : l ≠ []) (r : Nat) : Rises ((pcs size [] 0 l).foldl (tabStep r) ([], [])).2 := by
  have h1 := last_sub _ (pcs_ne0 hs hl)
  rw [pcs_flat, List.nil_append] at h1
  refine rises_keys (h.sub h1) ?_
  rw [tabFold_keys, List.map_nil, List.nil_append, List.map_map]
  rfl
theorem pc_rises {l : List KV} (h : Rises l) {size : Nat} {p : List KV} (hp : p ∈ pcs size [] 0 l) : Rises p := by
  have := List.sublist_flatten_of_mem hp
  rw [pcs_flat, List.nil_append] at this
  exact h.sub this
/-- the user keys, each once -/
def usersGo : Option (List Int) → List KV → List (List Int)
  | _, [] => []
  | p, x :: l => if p = some (split x.1).1 then usersGo p l else (split x.1).1 :: usersGo (some (split x.1).1) l
theorem usersGo_len : ∀ (l : List KV) (p : Option (List Int)), (usersGo p l).length ≤ l.length
  | [], p => Nat.le_refl _
  | x :: l, p => by
    rw [usersGo]
    split
    · have := usersGo_len l p; rw [List.length_cons]; omega
    · have := usersGo_len l (some (split x.1).1); rw [List.length_cons, List.length_cons]; omega
def magicL : List Int := [109, 111, 114, 97, 105, 110, 101, 49]
def sum4 (b : List Int) : List Int := b ++ fixedL (sumS b) 4
def spotsL (o f x : Nat) : List Int := fixedL (o : Int) 8 ++ fixedL (f : Int) 8 ++ fixedL ((o + f + 4 : Nat) : Int) 8 ++ fixedL (x : Int) 8
def tabEnd (s : List Int × List KV) (f : List Int) : List Int :=
  s.1 ++ sum4 f ++ sum4 (built s.2 1) ++ sum4 (spotsL s.1.length f.length (built s.2 1).length) ++ magicL
def tabS (l : List KV) (block restart bits : Int) : List Int :=
  tabEnd ((pcs block.toNat [] 0 l).foldl (tabStep restart.toNat) ([], [])) (filterS (usersGo none l) bits 71).1
def planOK (b r i t : Int) : Prop := (16 ≤ b ∧ b ≤ 65536) ∧ (1 ≤ r ∧ r ≤ 64) ∧ (1 ≤ i ∧ i ≤ 64) ∧ (16 ≤ t ∧ t ≤ 4194304)
instance (b r i t : Int) : Decidable (planOK b r i t) := inferInstanceAs (Decidable (_ ∧ _))
def tabR (l : List KV) (b r i t : Int) : List Int × Int :=
  if ¬ planOK b r i t then ([], 82) else if l.length = 0 then ([], 83) else if ¬ Rises l then ([], 70) else (tabS l b r i, 0)
end Go.Proofs.Ytkdajonmfiipkaa.Ev
/- Keys taken apart and held against one another, by the program. -/
namespace Go.Proofs.Ytkdajonmfiipkaa.Ev
open Go Go.RowKit
set_option linter.unusedVariables false
set_option linter.unusedSimpArgs false
set_option maxRecDepth 100000
set_option maxHeartbeats 8000000
abbrev splitC : Ctx := ⟨rows, (fun  | _ => ([], []))⟩
theorem split_ok (T : Tab) (h1 : T 49 = unfixed8Sp.ent) (h2 : T 54 = rightSp.ent) (h3 : T 51 = cloneSp.ent) : splitSp.Ok T splitC F66 := by
  rw [on_top h1, on_top h2, on_top h3]
  rintro ⟨(l : List Int), _⟩ hf _
  have hl : l.length ≤ 140737488355328 := (fits_by.1 hf.1).1
  have hb : Bytes l := bytes_of hf.1
  have hr := leVal_range (hb.drop (l.length - 8))
  obtain ⟨F, hF⟩ : ∃ F : Nat, F = 1 := ⟨_, rfl⟩
  refine ⟨F, 0, ?_⟩
  show evFn _ _ _ _ _ [.d byl l] [] _ = some (.tup [.own 0 by8 (split l).1, .d u64 (split l).2.1, .d i64 (split l).2.2.1, .d i64 (split l).2.2.2] : V)
  conv => lhs; whnf
  try simp (maxSteps := 2000000) (disch := omega) only [nI64, nU64, nU32, nU8, nSubL, nAddL, nAdd, nSub, nDiv, nMod, nZ, nLit, row_3, row_5, row_16, row_22, row_28, row_46, row_48, row_108, row_115, Ty.den, dflt_it, dflt_li, dflt_kv, Int.toNat_natCast, List.take_length, List.drop_zero]
  by_cases h : l.length < 8
  · refine br_go (tst_t (by omega)) ?_
    conv => lhs; whnf
    try simp (maxSteps := 2000000) (disch := omega) only [nI64, nU64, nU32, nU8, nSubL, nAddL, nAdd, nSub, nDiv, nMod, nZ, nLit, row_3, row_5, row_16, row_22, row_28, row_46, row_48, row_108, row_115, Ty.den, dflt_it, dflt_li, dflt_kv, Int.toNat_natCast, List.take_length, List.drop_zero]
    have es : split l = ([], 0, 0, 23) := if_pos (.inl h)
    rw [es]
    refine br_go ?_ ?_
    focus (((repeat' first | exact rfl | exact ordB_st rfl | exact ordB_of rfl | apply band | apply tst_t | apply nt_t)  <;> (try dsimp only [Ty.den, dflt_kv]) <;> (try simp only [List.length_append, List.length_cons, List.length_nil, List.length_take, List.length_drop, List.length_replicate]) <;> (first | trivial | assumption | omega | (change (_ : Int) ≤ _; omega) | (change (_ : Int) < _; omega) | (change (_ : Nat) * 1 ≤ _; omega) | (change (_ : Nat) * 48 ≤ _; omega) | (change (_ : Nat) * 24 ≤ _; omega) | (change (_ : Nat) * 8 ≤ _; omega) | (change (_ : Nat) * 64 ≤ _; omega) | decide)); done)
    conv => lhs; whnf
    try simp (maxSteps := 2000000) (disch := omega) only [nI64, nU64, nU32, nU8, nSubL, nAddL, nAdd, nSub, nDiv, nMod, nZ, nLit, row_3, row_5, row_16, row_22, row_28, row_46, row_48, row_108, row_115, Ty.den, dflt_it, dflt_li, dflt_kv, Int.toNat_natCast, List.take_length, List.drop_zero]
  · refine br_no (tst_f (by omega)) ?_
    conv => lhs; whnf
    try simp (maxSteps := 2000000) (disch := omega) only [nI64, nU64, nU32, nU8, nSubL, nAddL, nAdd, nSub, nDiv, nMod, nZ, nLit, row_3, row_5, row_16, row_22, row_28, row_46, row_48, row_108, row_115, Ty.den, dflt_it, dflt_li, dflt_kv, Int.toNat_natCast, List.take_length, List.drop_zero]
    refine br_go ?_ ?_
    focus (((repeat' first | exact rfl | exact ordB_st rfl | exact ordB_of rfl | apply band | apply tst_t | apply nt_t)  <;> (try dsimp only [Ty.den, dflt_kv]) <;> (try simp only [List.length_append, List.length_cons, List.length_nil, List.length_take, List.length_drop, List.length_replicate]) <;> (first | trivial | assumption | omega | (change (_ : Int) ≤ _; omega) | (change (_ : Int) < _; omega) | (change (_ : Nat) * 1 ≤ _; omega) | (change (_ : Nat) * 48 ≤ _; omega) | (change (_ : Nat) * 24 ≤ _; omega) | (change (_ : Nat) * 8 ≤ _; omega) | (change (_ : Nat) * 64 ≤ _; omega) | decide)); done)
    conv => lhs; whnf
    try simp (maxSteps := 2000000) (disch := omega) only [nI64, nU64, nU32, nU8, nSubL, nAddL, nAdd, nSub, nDiv, nMod, nZ, nLit, row_3, row_5, row_16, row_22, row_28, row_46, row_48, row_108, row_115, Ty.den, dflt_it, dflt_li, dflt_kv, Int.toNat_natCast, List.take_length, List.drop_zero]
    have en : unfixedS (l.drop (l.length - 8)) 8 = (leVal (l.drop (l.length - 8)), 0) := by
      unfold unfixedS
      rw [if_neg (by rw [List.length_drop]; omega), List.take_of_length_le (by rw [List.length_drop]; omega)]
    rw [List.length_drop, show l.length - (l.length - 8) = 8 by omega, show (256 : Nat) ^ 8 = 18446744073709551616 by decide] at hr
    try simp (maxSteps := 2000000) (disch := omega) only [nI64, nU64, nU32, nU8, nSubL, nAddL, nAdd, nSub, nDiv, nMod, nZ, nLit, row_3, row_5, row_16, row_22, row_28, row_46, row_48, row_108, row_115, Ty.den, dflt_it, dflt_li, dflt_kv, Int.toNat_natCast, List.take_length, List.drop_zero, en]
    repeat (refine br_go ?_ ?_; (focus (((repeat' first | exact rfl | exact ordB_st rfl | exact ordB_of rfl | apply band | apply tst_t | apply nt_t)  <;> (try dsimp only [Ty.den, dflt_kv]) <;> (try simp only [List.length_append, List.length_cons, List.length_nil, List.length_take, List.length_drop, List.length_replicate]) <;> (first | trivial | assumption | omega | (change (_ : Int) ≤ _; omega) | (change (_ : Int) < _; omega) | (change (_ : Nat) * 1 ≤ _; omega) | (change (_ : Nat) * 48 ≤ _; omega) | (change (_ : Nat) * 24 ≤ _; omega) | (change (_ : Nat) * 8 ≤ _; omega) | (change (_ : Nat) * 64 ≤ _; omega) | decide)); done)); (conv => lhs; whnf); (try simp (maxSteps := 2000000) (disch := omega) only [nI64, nU64, nU32, nU8, nSubL, nAddL, nAdd, nSub, nDiv, nMod, nZ, nLit, row_3, row_5, row_16, row_22, row_28, row_46, row_48, row_108, row_115, Ty.den, dflt_it, dflt_li, dflt_kv, Int.toNat_natCast, List.take_length, List.drop_zero]))
    by_cases hq : Right (l.take (l.length - 8)) (leVal (l.drop (l.length - 8)) / 256) (leVal (l.drop (l.length - 8)) % 256)
    · refine br_no (nt_f hq) ?_
      conv => lhs; whnf
      try simp (maxSteps := 2000000) (disch := omega) only [nI64, nU64, nU32, nU8, nSubL, nAddL, nAdd, nSub, nDiv, nMod, nZ, nLit, row_3, row_5, row_16, row_22, row_28, row_46, row_48, row_108, row_115, Ty.den, dflt_it, dflt_li, dflt_kv, Int.toNat_natCast, List.take_length, List.drop_zero]
      repeat (refine br_go ?_ ?_; (focus (((repeat' first | exact rfl | exact ordB_st rfl | exact ordB_of rfl | apply band | apply tst_t | apply nt_t)  <;> (try dsimp only [Ty.den, dflt_kv]) <;> (try simp only [List.length_append, List.length_cons, List.length_nil, List.length_take, List.length_drop, List.length_replicate]) <;> (first | trivial | assumption | omega | (change (_ : Int) ≤ _; omega) | (change (_ : Int) < _; omega) | (change (_ : Nat) * 1 ≤ _; omega) | (change (_ : Nat) * 48 ≤ _; omega) | (change (_ : Nat) * 24 ≤ _; omega) | (change (_ : Nat) * 8 ≤ _; omega) | (change (_ : Nat) * 64 ≤ _; omega) | decide)); done)); (conv => lhs; whnf); (try simp (maxSteps := 2000000) (disch := omega) only [nI64, nU64, nU32, nU8, nSubL, nAddL, nAdd, nSub, nDiv, nMod, nZ, nLit, row_3, row_5, row_16, row_22, row_28, row_46, row_48, row_108, row_115, Ty.den, dflt_it, dflt_li, dflt_kv, Int.toNat_natCast, List.take_length, List.drop_zero]))
      have es : split l = (l.take (l.length - 8), leVal (l.drop (l.length - 8)) / 256, leVal (l.drop (l.length - 8)) % 256, 0) := by
        unfold Right at hq
        rw [List.length_take] at hq
        unfold split
        rw [if_neg (by omega), if_neg (by omega)]
      rw [es]
    · refine br_go (nt_t hq) ?_
      conv => lhs; whnf
      try simp (maxSteps := 2000000) (disch := omega) only [nI64, nU64, nU32, nU8, nSubL, nAddL, nAdd, nSub, nDiv, nMod, nZ, nLit, row_3, row_5, row_16, row_22, row_28, row_46, row_48, row_108, row_115, Ty.den, dflt_it, dflt_li, dflt_kv, Int.toNat_natCast, List.take_length, List.drop_zero]
      have es : split l = ([], 0, 0, 23) := by
        unfold Right at hq
        rw [List.length_take] at hq
        unfold split
        by_cases h1 : l.length < 8 ∨ 136 < l.length
        · rw [if_pos h1]
        · rw [if_neg h1, if_pos (by omega)]
      rw [es]
      repeat (refine br_go ?_ ?_; (focus (((repeat' first | exact rfl | exact ordB_st rfl | exact ordB_of rfl | apply band | apply tst_t | apply nt_t)  <;> (try dsimp only [Ty.den, dflt_kv]) <;> (try simp only [List.length_append, List.length_cons, List.length_nil, List.length_take, List.length_drop, List.length_replicate]) <;> (first | trivial | assumption | omega | (change (_ : Int) ≤ _; omega) | (change (_ : Int) < _; omega) | (change (_ : Nat) * 1 ≤ _; omega) | (change (_ : Nat) * 48 ≤ _; omega) | (change (_ : Nat) * 24 ≤ _; omega) | (change (_ : Nat) * 8 ≤ _; omega) | (change (_ : Nat) * 64 ≤ _; omega) | decide)); done)); (conv => lhs; whnf); (try simp (maxSteps := 2000000) (disch := omega) only [nI64, nU64, nU32, nU8, nSubL, nAddL, nAdd, nSub, nDiv, nMod, nZ, nLit, row_3, row_5, row_16, row_22, row_28, row_46, row_48, row_108, row_115, Ty.den, dflt_it, dflt_li, dflt_kv, Int.toNat_natCast, List.take_length, List.drop_zero]))
abbrev nanUC : Ctx := ⟨rows, (fun  | _ => ([], []))⟩
theorem nanU_ok (T : Tab) : nanUSp.Ok T nanUC F99 := by
  rintro ⟨(a : Int), _⟩ _ _
  obtain ⟨F, hF⟩ : ∃ F : Nat, F = 1 := ⟨_, rfl⟩
  refine ⟨F, 0, ?_⟩
  show evFn _ _ _ _ _ [.d u64 a] [] _ = some (.d .bo false : V)
  conv => lhs; whnf
  try simp (maxSteps := 2000000) (disch := omega) only [nI64, nU64, nU32, nU8, nSubL, nAddL, nAdd, nSub, nDiv, nMod, nZ, nLit, row_3, row_5, row_16, row_22, row_28, row_46, row_48, row_108, row_115, Ty.den, dflt_it, dflt_li, dflt_kv, Int.toNat_natCast, List.take_length, List.drop_zero]
  exact bo_eq (tst_f (by simp))
abbrev nanIC : Ctx := ⟨rows, (fun  | _ => ([], []))⟩
theorem nanI_ok (T : Tab) : nanISp.Ok T nanIC F100 := by
  rintro ⟨(a : Int), _⟩ _ _
  obtain ⟨F, hF⟩ : ∃ F : Nat, F = 1 := ⟨_, rfl⟩
  refine ⟨F, 0, ?_⟩
  show evFn _ _ _ _ _ [.d i64 a] [] _ = some (.d .bo false : V)
  conv => lhs; whnf
  try simp (maxSteps := 2000000) (disch := omega) only [nI64, nU64, nU32, nU8, nSubL, nAddL, nAdd, nSub, nDiv, nMod, nZ, nLit, row_3, row_5, row_16, row_22, row_28, row_46, row_48, row_108, row_115, Ty.den, dflt_it, dflt_li, dflt_kv, Int.toNat_natCast, List.take_length, List.drop_zero]
  exact bo_eq (tst_f (by simp))
abbrev cmpUC : Ctx := ⟨rows, (fun  | _ => ([], []))⟩
theorem cmpU_ok (T : Tab) (h1 : T 99 = nanUSp.ent) : cmpUSp.Ok T cmpUC F91 := by
  rw [on_top h1]
  rintro ⟨(a : Int), (b : Int), _⟩ _ _
  obtain ⟨F, hF⟩ : ∃ F : Nat, F = 1 := ⟨_, rfl⟩
  refine ⟨F, 0, ?_⟩
  show evFn _ _ _ _ _ [.d u64 a, .d u64 b] [] _ = some (.d i64 (cmpI a b) : V)
  conv => lhs; whnf
  try simp (maxSteps := 2000000) (disch := omega) only [nI64, nU64, nU32, nU8, nSubL, nAddL, nAdd, nSub, nDiv, nMod, nZ, nLit, row_3, row_5, row_16, row_22, row_28, row_46, row_48, row_108, row_115, Ty.den, dflt_it, dflt_li, dflt_kv, Int.toNat_natCast, List.take_length, List.drop_zero]
  unfold cmpI
  by_cases h : a < b
  · refine br_go (tst_t (h)) ?_
    conv => lhs; whnf
    try simp (maxSteps := 2000000) (disch := omega) only [nI64, nU64, nU32, nU8, nSubL, nAddL, nAdd, nSub, nDiv, nMod, nZ, nLit, row_3, row_5, row_16, row_22, row_28, row_46, row_48, row_108, row_115, Ty.den, dflt_it, dflt_li, dflt_kv, Int.toNat_natCast, List.take_length, List.drop_zero]
    rw [if_pos h]
  · refine br_no (tst_f (h)) ?_
    conv => lhs; whnf
    try simp (maxSteps := 2000000) (disch := omega) only [nI64, nU64, nU32, nU8, nSubL, nAddL, nAdd, nSub, nDiv, nMod, nZ, nLit, row_3, row_5, row_16, row_22, row_28, row_46, row_48, row_108, row_115, Ty.den, dflt_it, dflt_li, dflt_kv, Int.toNat_natCast, List.take_length, List.drop_zero]
    rw [if_neg h]
    by_cases h : a > b
    · refine br_go (tst_t (h)) ?_
      conv => lhs; whnf
      try simp (maxSteps := 2000000) (disch := omega) only [nI64, nU64, nU32, nU8, nSubL, nAddL, nAdd, nSub, nDiv, nMod, nZ, nLit, row_3, row_5, row_16, row_22, row_28, row_46, row_48, row_108, row_115, Ty.den, dflt_it, dflt_li, dflt_kv, Int.toNat_natCast, List.take_length, List.drop_zero]
      rw [if_pos h]
    · refine br_no (tst_f (h)) ?_
      conv => lhs; whnf
      try simp (maxSteps := 2000000) (disch := omega) only [nI64, nU64, nU32, nU8, nSubL, nAddL, nAdd, nSub, nDiv, nMod, nZ, nLit, row_3, row_5, row_16, row_22, row_28, row_46, row_48, row_108, row_115, Ty.den, dflt_it, dflt_li, dflt_kv, Int.toNat_natCast, List.take_length, List.drop_zero]
      rw [if_neg h]
abbrev cmpIC : Ctx := ⟨rows, (fun  | _ => ([], []))⟩
theorem cmpI_ok (T : Tab) (h1 : T 100 = nanISp.ent) : cmpISp.Ok T cmpIC F92 := by
  rw [on_top h1]
  rintro ⟨(a : Int), (b : Int), _⟩ _ _
  obtain ⟨F, hF⟩ : ∃ F : Nat, F = 1 := ⟨_, rfl⟩
  refine ⟨F, 0, ?_⟩
  show evFn _ _ _ _ _ [.d i64 a, .d i64 b] [] _ = some (.d i64 (cmpI a b) : V)
  conv => lhs; whnf
  try simp (maxSteps := 2000000) (disch := omega) only [nI64, nU64, nU32, nU8, nSubL, nAddL, nAdd, nSub, nDiv, nMod, nZ, nLit, row_3, row_5, row_16, row_22, row_28, row_46, row_48, row_108, row_115, Ty.den, dflt_it, dflt_li, dflt_kv, Int.toNat_natCast, List.take_length, List.drop_zero]
  unfold cmpI
  by_cases h : a < b
  · refine br_go (tst_t (h)) ?_
    conv => lhs; whnf
    try simp (maxSteps := 2000000) (disch := omega) only [nI64, nU64, nU32, nU8, nSubL, nAddL, nAdd, nSub, nDiv, nMod, nZ, nLit, row_3, row_5, row_16, row_22, row_28, row_46, row_48, row_108, row_115, Ty.den, dflt_it, dflt_li, dflt_kv, Int.toNat_natCast, List.take_length, List.drop_zero]
    rw [if_pos h]
  · refine br_no (tst_f (h)) ?_
    conv => lhs; whnf
    try simp (maxSteps := 2000000) (disch := omega) only [nI64, nU64, nU32, nU8, nSubL, nAddL, nAdd, nSub, nDiv, nMod, nZ, nLit, row_3, row_5, row_16, row_22, row_28, row_46, row_48, row_108, row_115, Ty.den, dflt_it, dflt_li, dflt_kv, Int.toNat_natCast, List.take_length, List.drop_zero]
    rw [if_neg h]
    by_cases h : a > b
    · refine br_go (tst_t (h)) ?_
      conv => lhs; whnf
      try simp (maxSteps := 2000000) (disch := omega) only [nI64, nU64, nU32, nU8, nSubL, nAddL, nAdd, nSub, nDiv, nMod, nZ, nLit, row_3, row_5, row_16, row_22, row_28, row_46, row_48, row_108, row_115, Ty.den, dflt_it, dflt_li, dflt_kv, Int.toNat_natCast, List.take_length, List.drop_zero]
      rw [if_pos h]
    · refine br_no (tst_f (h)) ?_
      conv => lhs; whnf
      try simp (maxSteps := 2000000) (disch := omega) only [nI64, nU64, nU32, nU8, nSubL, nAddL, nAdd, nSub, nDiv, nMod, nZ, nLit, row_3, row_5, row_16, row_22, row_28, row_46, row_48, row_108, row_115, Ty.den, dflt_it, dflt_li, dflt_kv, Int.toNat_natCast, List.take_length, List.drop_zero]
      rw [if_neg h]
abbrev bcompareC : Ctx := ⟨rows, (fun  | _ => ([], []))⟩
theorem bcompare_ok (T : Tab) (h1 : T 86 = cmpBSp.ent) : cmpBSp.Ok T bcompareC F55 := by
  rw [on_top h1]
  rintro ⟨(a : List Int), (b : List Int), _⟩ _ _
  obtain ⟨F, hF⟩ : ∃ F : Nat, F = 1 := ⟨_, rfl⟩
  refine ⟨F, 0, ?_⟩
  show evFn _ _ _ _ _ [.d byl a, .d byl b] [] _ = some (.d i64 (cmpB a b) : V)
  conv => lhs; whnf
  try simp (maxSteps := 2000000) (disch := omega) only [nI64, nU64, nU32, nU8, nSubL, nAddL, nAdd, nSub, nDiv, nMod, nZ, nLit, row_3, row_5, row_16, row_22, row_28, row_46, row_48, row_108, row_115, Ty.den, dflt_it, dflt_li, dflt_kv, Int.toNat_natCast, List.take_length, List.drop_zero]
abbrev compareC : Ctx := ⟨rows, (fun | 0 => ([], [14]) | 1 => ([], [6, 7, 8, 10, 11, 12]) | 2 => ([], [7, 8, 11, 12]) | 3 => ([], [8, 12]) | _ => ([], []))⟩
theorem compare_ok (T : Tab) (h1 : T 66 = splitSp.ent) (h2 : T 55 = cmpBSp.ent) (h3 : T 91 = cmpUSp.ent) (h4 : T 92 = cmpISp.ent) : compareSp.Ok T compareC F64 := by
  rw [on_top h1, on_top h2, on_top h3, on_top h4]
  rintro ⟨(a : List Int), (b : List Int), _⟩ hf _
  obtain ⟨F, hF⟩ : ∃ F : Nat, F = 1 := ⟨_, rfl⟩
  refine ⟨F, 0, ?_⟩
  show evFn _ _ _ _ _ [.d byl a, .d byl b] [] _ = some (.tup [.d i64 (compareK a b).1, .d i64 (compareK a b).2] : V)
  conv => lhs; whnf
  try simp (maxSteps := 2000000) (disch := omega) only [nI64, nU64, nU32, nU8, nSubL, nAddL, nAdd, nSub, nDiv, nMod, nZ, nLit, row_3, row_5, row_16, row_22, row_28, row_46, row_48, row_108, row_115, Ty.den, dflt_it, dflt_li, dflt_kv, Int.toNat_natCast, List.take_length, List.drop_zero]
  unfold compareK
  by_cases ha : (split a).2.2.2 = 0
  · refine br_no (tst_f (by simpa using ha)) ?_
    conv => lhs; whnf
    try simp (maxSteps := 2000000) (disch := omega) only [nI64, nU64, nU32, nU8, nSubL, nAddL, nAdd, nSub, nDiv, nMod, nZ, nLit, row_3, row_5, row_16, row_22, row_28, row_46, row_48, row_108, row_115, Ty.den, dflt_it, dflt_li, dflt_kv, Int.toNat_natCast, List.take_length, List.drop_zero]
    by_cases hb : (split b).2.2.2 = 0
    · refine br_no (tst_f (by simpa using hb)) ?_
      conv => lhs; whnf
      try simp (maxSteps := 2000000) (disch := omega) only [nI64, nU64, nU32, nU8, nSubL, nAddL, nAdd, nSub, nDiv, nMod, nZ, nLit, row_3, row_5, row_16, row_22, row_28, row_46, row_48, row_108, row_115, Ty.den, dflt_it, dflt_li, dflt_kv, Int.toNat_natCast, List.take_length, List.drop_zero]
      rw [if_pos ⟨ha, hb⟩]
      unfold order
      repeat (refine br_go ?_ ?_; (focus (((repeat' first | exact rfl | exact ordB_st rfl | exact ordB_of rfl | apply band | apply tst_t | apply nt_t)  <;> (try dsimp only [Ty.den, dflt_kv]) <;> (try simp only [List.length_append, List.length_cons, List.length_nil, List.length_take, List.length_drop, List.length_replicate]) <;> (first | trivial | assumption | omega | (change (_ : Int) ≤ _; omega) | (change (_ : Int) < _; omega) | (change (_ : Nat) * 1 ≤ _; omega) | (change (_ : Nat) * 48 ≤ _; omega) | (change (_ : Nat) * 24 ≤ _; omega) | (change (_ : Nat) * 8 ≤ _; omega) | (change (_ : Nat) * 64 ≤ _; omega) | decide)); done)); (conv => lhs; whnf); (try simp (maxSteps := 2000000) (disch := omega) only [nI64, nU64, nU32, nU8, nSubL, nAddL, nAdd, nSub, nDiv, nMod, nZ, nLit, row_3, row_5, row_16, row_22, row_28, row_46, row_48, row_108, row_115, Ty.den, dflt_it, dflt_li, dflt_kv, Int.toNat_natCast, List.take_length, List.drop_zero]))
      by_cases hc : cmpB (split a).1 (split b).1 ≠ 0
      · refine br_go (tst_t (hc)) ?_
        conv => lhs; whnf
        try simp (maxSteps := 2000000) (disch := omega) only [nI64, nU64, nU32, nU8, nSubL, nAddL, nAdd, nSub, nDiv, nMod, nZ, nLit, row_3, row_5, row_16, row_22, row_28, row_46, row_48, row_108, row_115, Ty.den, dflt_it, dflt_li, dflt_kv, Int.toNat_natCast, List.take_length, List.drop_zero]
        rw [if_pos hc]
      · refine br_no (tst_f (hc)) ?_
        conv => lhs; whnf
        try simp (maxSteps := 2000000) (disch := omega) only [nI64, nU64, nU32, nU8, nSubL, nAddL, nAdd, nSub, nDiv, nMod, nZ, nLit, row_3, row_5, row_16, row_22, row_28, row_46, row_48, row_108, row_115, Ty.den, dflt_it, dflt_li, dflt_kv, Int.toNat_natCast, List.take_length, List.drop_zero]
        rw [if_neg hc]
        by_cases hs : cmpI (split b).2.1 (split a).2.1 ≠ 0
        · refine br_go (tst_t (hs)) ?_
          conv => lhs; whnf
          try simp (maxSteps := 2000000) (disch := omega) only [nI64, nU64, nU32, nU8, nSubL, nAddL, nAdd, nSub, nDiv, nMod, nZ, nLit, row_3, row_5, row_16, row_22, row_28, row_46, row_48, row_108, row_115, Ty.den, dflt_it, dflt_li, dflt_kv, Int.toNat_natCast, List.take_length, List.drop_zero]
          refine tup_eq (cons_eq (vd_eq ?_) rfl)
          unfold cmpI at hs ⊢
          repeat' split
          all_goals first | rfl | (exfalso; omega) | (simp_all; done) | (simp_all; omega)
        · refine br_no (tst_f (hs)) ?_
          conv => lhs; whnf
          try simp (maxSteps := 2000000) (disch := omega) only [nI64, nU64, nU32, nU8, nSubL, nAddL, nAdd, nSub, nDiv, nMod, nZ, nLit, row_3, row_5, row_16, row_22, row_28, row_46, row_48, row_108, row_115, Ty.den, dflt_it, dflt_li, dflt_kv, Int.toNat_natCast, List.take_length, List.drop_zero]
          refine tup_eq (cons_eq (vd_eq ?_) rfl)
          unfold cmpI at hs ⊢
          repeat' split
          all_goals first | rfl | (exfalso; omega) | (simp_all; done) | (simp_all; omega)
    · refine br_go (tst_t (hb)) ?_
      conv => lhs; whnf
      try simp (maxSteps := 2000000) (disch := omega) only [nI64, nU64, nU32, nU8, nSubL, nAddL, nAdd, nSub, nDiv, nMod, nZ, nLit, row_3, row_5, row_16, row_22, row_28, row_46, row_48, row_108, row_115, Ty.den, dflt_it, dflt_li, dflt_kv, Int.toNat_natCast, List.take_length, List.drop_zero]
      rw [if_neg (fun h => hb h.2)]
  · refine br_go (tst_t (ha)) ?_
    conv => lhs; whnf
    try simp (maxSteps := 2000000) (disch := omega) only [nI64, nU64, nU32, nU8, nSubL, nAddL, nAdd, nSub, nDiv, nMod, nZ, nLit, row_3, row_5, row_16, row_22, row_28, row_46, row_48, row_108, row_115, Ty.den, dflt_it, dflt_li, dflt_kv, Int.toNat_natCast, List.take_length, List.drop_zero]
    rw [if_neg (fun h => ha h.1)]
end Go.Proofs.Ytkdajonmfiipkaa.Ev
/- Numbers of fixed width, read by the document. -/
namespace Go.Proofs.Ytkdajonmfiipkaa.Ev
open Go Go.RowKit
set_option linter.unusedVariables false
set_option maxRecDepth 100000
abbrev runfixedC : Ctx := ⟨rows, (fun | 0 => ([0, 1, 7, 8], [7]) | 1 => ([], [0, 1, 7, 8]) | _ => ([], []))⟩
theorem runfixed_ev (tab : Tab) (l : List Int) (hb : Bytes l) (a m F : Nat) (hm : m ≤ 8) (hml : a + m ≤ l.length) (hl : l.length ≤ 140737488355328) (hF : m < F) : evFn runfixedC tab noCall F F57 [.d (.li (.it .u8)) l, .d (.it .i64) (a : Int), .d (.it .i64) (m : Int)] [] (fun v S => exportF runfixedC F57.resultTypes.toList v S) = some (.d (.it .u64) (leVal ((l.drop a).take m))) := by
  conv => lhs; whnf
  have h0 : IntKind.i64.wrap ((m : Int) - 1) = (m : Int) - 1 := wrapI64 (by omega) (by omega)
  rw [h0]
  refine loop_rule (α := Nat × Int) (fun s => s.1 ≤ m ∧ s.2 = leVal ((l.drop (a + s.1)).take (m - s.1))) (fun s => s.1)
    (fun s => [.d (.li (.it .u8)) l, .d (.it .i64) (a : Int), .bad, .bad, .bad, .bad, .bad, .d (.it .u64) s.2, .d (.it .i64) ((s.1 : Int) - 1), .bad, .bad, .bad, .bad, .bad, .bad, .bad, .bad, .bad, .bad, .bad, .bad, .bad, .bad, .bad, .bad, .bad]) (fun s => [])
    (fun s => some (V.d (.it .u64) (leVal ((l.drop a).take m)))) ?_ F (m, 0) ⟨Nat.le_refl _, by simp [leVal]⟩ hF
  rintro ⟨n, acc⟩ K ⟨hn, hacc⟩ hK
  simp only at hn hacc hK ⊢
  conv => lhs; whnf
  by_cases ha : (n : Int) - 1 ≥ 0
  · refine br_go (tst_t ha) ?_
    conv => lhs; whnf
    have e1 : IntKind.i64.wrap ((a : Int) + ((n : Int) - 1)) = ((a + (n - 1) : Nat) : Int) := by rw [wrapI64 (by omega) (by omega)]; omega
    rw [e1]
    refine br_go (band (tst_t (show (0 : Int) ≤ ((a + (n - 1) : Nat) : Int) by omega)) (tst_t (show ((a + (n - 1) : Nat) : Int) < ((List.length l : Nat) : Int) by omega))) ?_
    conv => lhs; whnf
    have hx := rd_bytes hb ((a + (n - 1) : Nat) : Int)
    have ht := (hb.drop (a + n)).take (m - n)
    have hr := leVal_range ht
    have p : (256 : Nat) ^ ((l.drop (a + n)).take (m - n)).length ≤ 256 ^ 7 := Nat.pow_le_pow_right (by decide) (by rw [List.length_take]; omega)
    have p' : ((256 ^ ((l.drop (a + n)).take (m - n)).length : Nat) : Int) ≤ 72057594037927936 := by
      have : (256 : Nat) ^ 7 = 72057594037927936 := by decide
      omega
    rw [← hacc] at hr
    have e : IntKind.u64.wrap (IntKind.u64.wrap (256 * acc) + IntKind.u64.wrap (rd l ((a + (n - 1) : Nat) : Int))) = leVal ((l.drop (a + (n - 1))).take (m - (n - 1))) := by
      rw [wrapU64_id hx.1 (by omega), wrapU64_id (n := 256 * _) (by omega) (by omega), wrapU64_id (by omega) (by omega), hacc]
      have em : m - (n - 1) = (m - n) + 1 := by omega
      have en : a + (n - 1) + 1 = a + n := by omega
      rw [drop_cons (l := l) (i := a + (n - 1)) (by omega), em, List.take_succ_cons, leVal, en, Int.add_comm]
    have e2 : IntKind.i64.wrap ((n : Int) - 1 - 1) = ((n - 1 : Nat) : Int) - 1 := by rw [wrapI64 (by omega) (by omega)]; omega
    have := hK (n - 1, _) ⟨by omega, e⟩ (by simp only; omega)
    simp only at this
    rw [← e2] at this
    exact this
  · refine br_no (tst_f ha) ?_
    have : n = 0 := by omega
    subst this
    conv => lhs; whnf
    rw [hacc]; rfl
end Go.Proofs.Ytkdajonmfiipkaa.Ev
/- Numbers laid down, seven bits a byte, by the document. -/
namespace Go.Proofs.Ytkdajonmfiipkaa.Ev
open Go Go.RowKit
set_option linter.unusedVariables false
set_option maxRecDepth 100000
abbrev rputC : Ctx := ⟨rows, (fun | 0 => ([0, 3], [0, 3]) | 1 => ([], [0, 3]) | _ => ([], []))⟩
theorem rput_ev (tab : Tab) (n : Int) (F : Nat) (hn : 0 ≤ n ∧ n < 18446744073709551616) (hF : n.toNat < F) : evFn rputC tab noCall F F42 [.d (.it .u64) n] [] (fun v S => exportF rputC F42.resultTypes.toList v S) = some (.own 0 (.it .u8) (putS n.toNat)) := by
  conv => lhs; whnf
  refine loop_rule (α := Int × List Int) (fun a => 0 ≤ a.1 ∧ a.1 < 18446744073709551616 ∧ List.length a.2 + (putS a.1.toNat).length ≤ 10) (fun a => a.1.toNat)
    (fun a => [.d (.it .u64) a.1, .bad, .bad, .own 1 (.it .u8) a.2, .bad, .bad, .bad, .bad, .bad, .bad, .bad, .bad, .bad, .bad, .bad, .bad, .bad, .bad, .bad, .bad]) (fun a => [.fam 0, .fam (List.length a.2)])
    (fun a => some (V.own 0 (.it .u8) (a.2 ++ putS a.1.toNat))) ?_ F (n, []) ⟨hn.1, hn.2, by simpa using putS_length64 (n := n.toNat) (by omega)⟩ hF
  rintro ⟨a, l⟩ K ⟨h1, h2, h3⟩ hK
  simp only at h1 h2 h3 hK ⊢
  conv => lhs; whnf
  by_cases ha : a ≥ 128
  · refine br_go (tst_t ha) ?_
    conv => lhs; whnf
    refine br_go (by rw [tst_f (by decide)]; rfl) ?_
    conv => lhs; whnf
    refine br_go (band (band rfl (tst_t rfl)) (tst_t ?_)) ?_
    · show (List.length l + 1) * 1 ≤ 140737488355328
      omega
    conv => lhs; whnf
    refine br_go (by rw [tst_f (by decide)]; rfl) ?_
    conv => lhs; whnf
    rw [put_big ha, List.length_cons] at h3
    have e1 : IntKind.u8.wrap (IntKind.u64.wrap (128 + a.tmod 128)) = ((a.toNat % 128 + 128 : Nat) : Int) := by
      have : a.tmod 128 = a % 128 := Int.tmod_eq_emod_of_nonneg h1
      rw [this, wrapU64_id (by omega) (by omega), wrapU8]; omega
    have e2 : IntKind.u64.wrap (a.tdiv 128) = a / 128 := by
      rw [Int.tdiv_eq_ediv_of_nonneg h1, wrapU64_id (by omega) (by omega)]
    refine (hK (IntKind.u64.wrap (a.tdiv 128), l ++ [IntKind.u8.wrap (IntKind.u64.wrap (128 + a.tmod 128))]) ?_ ?_).trans ?_
    · simp only [e1, e2, List.length_append, List.length_singleton]
      omega
    · simp only [e2]; omega
    · simp only [e1, e2, List.append_assoc, List.singleton_append, put_big ha]
  · refine br_no (tst_f ha) ?_
    conv => lhs; whnf
    refine br_go (band (band rfl (tst_t rfl)) (tst_t ?_)) ?_
    · show (List.length l + 1) * 1 ≤ 140737488355328
      omega
    conv => lhs; whnf
    refine br_go (tst_t rfl) ?_
    conv => lhs; whnf
    refine own_eq (t := .it .u8) ?_ 0
    show l ++ [IntKind.u8.wrap a] = _
    rw [put_small h1 ha, wrapU8, Int.emod_eq_of_lt h1 (by omega)]
end Go.Proofs.Ytkdajonmfiipkaa.Ev
