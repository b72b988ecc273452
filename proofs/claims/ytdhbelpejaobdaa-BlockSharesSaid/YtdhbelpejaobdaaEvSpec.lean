/- Plain specs of the lowest functions, with no function of the program in sight. Written out of wip/pure by mkspec.py. -/
import GoSem.Machine.Return
import Derived.Test.YtdhbelpejaobdaaEvA
namespace Go.Proofs.Ytdhbelpejaobdaa.Ev
open Go
set_option linter.unusedVariables false
set_option linter.unusedSimpArgs false
def rd (l : List Int) (i : Int) : Int := l.getD i.toNat 0
theorem wrapU64 (n : Int) : IntKind.u64.wrap n = n % 18446744073709551616 := by simp [IntKind.wrap, IntKind.bits, IntKind.signed]
theorem wrapU64_id {n : Int} (h : 0 ≤ n) (h' : n < 18446744073709551616) : IntKind.u64.wrap n = n := by rw [wrapU64]; omega
theorem wrapU32 (n : Int) : IntKind.u32.wrap n = n % 4294967296 := by simp [IntKind.wrap, IntKind.bits, IntKind.signed]
theorem wrapU8 (n : Int) : IntKind.u8.wrap n = n % 256 := by simp [IntKind.wrap, IntKind.bits, IntKind.signed]
/-- all are bytes -/
def Bytes (l : List Int) : Prop := ∀ x ∈ l, 0 ≤ x ∧ x < 256
theorem Bytes.append {a b : List Int} (ha : Bytes a) (hb : Bytes b) : Bytes (a ++ b) := fun x hx => by
  rcases List.mem_append.mp hx with h | h
  · exact ha x h
  · exact hb x h
theorem Bytes.take {a : List Int} (ha : Bytes a) (n : Nat) : Bytes (a.take n) := fun x hx => ha x (List.mem_of_mem_take hx)
theorem Bytes.drop {a : List Int} (ha : Bytes a) (n : Nat) : Bytes (a.drop n) := fun x hx => ha x (List.mem_of_mem_drop hx)
theorem rd_get {l : List Int} {i : Nat} (h : i < l.length) : rd l (i : Int) = l[i] := by
  simp [rd, List.getD_eq_getElem?_getD, h]
theorem rd_bytes {l : List Int} (hl : Bytes l) (i : Int) : 0 ≤ rd l i ∧ rd l i < 256 := by
  by_cases h : i.toNat < l.length
  · have : rd l i = l[i.toNat] := by simp [rd, List.getD_eq_getElem?_getD, h]
    rw [this]; exact hl _ (List.getElem_mem h)
  · have : rd l i = 0 := by simp [rd, List.getD_eq_getElem?_getD, Nat.le_of_not_lt h]
    rw [this]; omega
theorem drop_cons {l : List Int} {i : Nat} (h : i < l.length) : l.drop i = rd l (i : Int) :: l.drop (i + 1) := by
  rw [rd_get h, List.drop_eq_getElem_cons h]
theorem bits_xor32 (x y : Int) : Go.bits .xor .u32 x y = ((BitVec.ofInt 32 x ^^^ BitVec.ofInt 32 y).toNat : Int) := by
  unfold Go.bits
  rw [wrapU32]
  exact Int.emod_eq_of_lt (Int.natCast_nonneg _) (Int.ofNat_lt.mpr (BitVec.isLt _))
theorem bits_and32 (x y : Int) : Go.bits .and .u32 x y = ((BitVec.ofInt 32 x &&& BitVec.ofInt 32 y).toNat : Int) := by
  unfold Go.bits
  rw [wrapU32]
  exact Int.emod_eq_of_lt (Int.natCast_nonneg _) (Int.ofNat_lt.mpr (BitVec.isLt _))
theorem bits_xor8 (x y : Int) : Go.bits .xor .u8 x y = ((BitVec.ofInt 8 x ^^^ BitVec.ofInt 8 y).toNat : Int) := by
  unfold Go.bits
  rw [wrapU8]
  exact Int.emod_eq_of_lt (Int.natCast_nonneg _) (Int.ofNat_lt.mpr (BitVec.isLt _))
theorem ofInt_toNat {w : Nat} (b : BitVec w) : BitVec.ofInt w ((b.toNat : Nat) : Int) = b := by
  simp [BitVec.ofInt_natCast]
/-- so many bytes of a number, the least first -/
def fixedL (a : Int) : Nat → List Int
  | 0 => []
  | n + 1 => fixedL a n ++ [a / ((256 ^ n : Nat) : Int) % 256]
theorem fixedL_length (a : Int) (n : Nat) : (fixedL a n).length = n := by
  induction n with
  | zero => rfl
  | succ n ih => simp [fixedL, ih]
theorem fixedL_bytes (a : Int) (n : Nat) : Bytes (fixedL a n) := by
  induction n with
  | zero => intro x hx; cases hx
  | succ n ih => exact ih.append fun x hx => by rw [List.mem_singleton.mp hx]; omega
def leVal : List Int → Int
  | [] => 0
  | x :: l => x + 256 * leVal l
theorem leVal_append (a b : List Int) : leVal (a ++ b) = leVal a + ((256 ^ a.length : Nat) : Int) * leVal b := by
  induction a with
  | nil => simp [leVal]
  | cons x l ih =>
    simp only [List.cons_append, leVal, ih, List.length_cons, Nat.pow_succ, Int.natCast_mul]
    rw [Int.mul_add, Int.add_assoc, ← Int.mul_assoc]
    congr 3
    rw [Int.mul_comm]; rfl
theorem leVal_range {l : List Int} (h : Bytes l) : 0 ≤ leVal l ∧ leVal l < ((256 ^ l.length : Nat) : Int) := by
  induction l with
  | nil => simp [leVal]
  | cons x l ih =>
    have := ih fun y hy => h y (List.mem_cons_of_mem _ hy)
    have := h x List.mem_cons_self
    simp only [leVal, List.length_cons, Nat.pow_succ, Int.natCast_mul]
    omega
theorem leVal_fixedL {a : Int} (ha : 0 ≤ a) (n : Nat) : leVal (fixedL a n) = a % ((256 ^ n : Nat) : Int) := by
  obtain ⟨m, rfl⟩ := Int.eq_ofNat_of_zero_le ha
  induction n with
  | zero => simp [fixedL, leVal, Int.emod_one]
  | succ n ih =>
    have e := @Nat.mod_mul (256 ^ n) 256 m
    rw [fixedL, leVal_append, ih, fixedL_length, Nat.pow_succ]
    simp only [leVal]
    have e' : ((m % (256 ^ n * 256) : Nat) : Int) = ((m % 256 ^ n + 256 ^ n * (m / 256 ^ n % 256) : Nat) : Int) := by rw [e]
    have e1 : ((m % (256 ^ n * 256) : Nat) : Int) = (m : Int) % ((256 ^ n * 256 : Nat) : Int) := Int.natCast_emod _ _
    have e2 : ((m % 256 ^ n + 256 ^ n * (m / 256 ^ n % 256) : Nat) : Int) = (m : Int) % ((256 ^ n : Nat) : Int) + ((256 ^ n : Nat) : Int) * ((m : Int) / ((256 ^ n : Nat) : Int) % 256) := by
      rw [Int.natCast_add, Int.natCast_mul, Int.natCast_emod, Int.natCast_emod, Int.natCast_ediv]; rfl
    rw [← e1, e', e2, Int.mul_zero, Int.add_zero]
theorem bits_or64 {x y : Int} {n : Nat} (hn : n ≤ 8) (hx : 0 ≤ x ∧ x < ((256 ^ n : Nat) : Int)) (hy : 0 ≤ y ∧ y * ((256 ^ n : Nat) : Int) < 18446744073709551616) :
    Go.bits .or .u64 x (y * ((256 ^ n : Nat) : Int)) = x + y * ((256 ^ n : Nat) : Int) := by
  obtain ⟨a, rfl⟩ := Int.eq_ofNat_of_zero_le hx.1
  obtain ⟨b, rfl⟩ := Int.eq_ofNat_of_zero_le hy.1
  have e2 : (256 : Nat) ^ n = 2 ^ (8 * n) := by
    have : (256 : Nat) = 2 ^ 8 := by decide
    rw [this, ← Nat.pow_mul]
  have h1 : a < 2 ^ (8 * n) := by rw [← e2]; omega
  have h2 : b * 2 ^ (8 * n) < 18446744073709551616 := by
    rw [← e2]
    have := hy.2
    rw [← Int.natCast_mul] at this
    omega
  have hp : (2 : Nat) ^ (8 * n) ≤ 2 ^ 64 := Nat.pow_le_pow_right (by decide) (by omega)
  have h3 : a < 18446744073709551616 := by
    have : (2 : Nat) ^ 64 = 18446744073709551616 := by decide
    omega
  rw [e2, ← Int.natCast_mul]
  unfold Go.bits
  rw [wrapU64]
  have eo : BitVec.ofInt IntKind.u64.bits (a : Int) ||| BitVec.ofInt IntKind.u64.bits ((b * 2 ^ (8 * n) : Nat) : Int) = BitVec.ofNat 64 (a + b * 2 ^ (8 * n)) := by
    apply BitVec.eq_of_toNat_eq
    rw [BitVec.toNat_or, BitVec.ofInt_natCast, BitVec.ofInt_natCast]
    simp only [IntKind.bits, BitVec.toNat_ofNat]
    rw [Nat.mod_eq_of_lt (by omega), Nat.mod_eq_of_lt (by omega)]
    have := Nat.shiftLeft_add_eq_or_of_lt h1 b
    rw [Nat.shiftLeft_eq] at this
    rw [Nat.or_comm, ← this, Nat.add_comm (b * _), Nat.mod_eq_of_lt]
    rw [Nat.add_comm, this]
    exact Nat.or_lt_two_pow (n := 64) (by omega) (by omega)
  have hl : a + b * 2 ^ (8 * n) < 18446744073709551616 := by
    have := Nat.shiftLeft_add_eq_or_of_lt h1 b
    rw [Nat.shiftLeft_eq] at this
    rw [Nat.add_comm, this]
    exact Nat.or_lt_two_pow (n := 64) (by omega) (by omega)
  show ((BitVec.ofInt IntKind.u64.bits (a : Int) ||| BitVec.ofInt IntKind.u64.bits ((b * 2 ^ (8 * n) : Nat) : Int)).toNat : Int) % 18446744073709551616 = _
  have et : (BitVec.ofInt IntKind.u64.bits (a : Int) ||| BitVec.ofInt IntKind.u64.bits ((b * 2 ^ (8 * n) : Nat) : Int)).toNat = a + b * 2 ^ (8 * n) := by
    rw [eo]
    show (BitVec.ofNat 64 (a + b * 2 ^ (8 * n))).toNat = _
    rw [BitVec.toNat_ofNat, Nat.mod_eq_of_lt (by omega)]
  rw [et]
  omega
theorem take_succ' {l : List Int} {n : Nat} (h : n < l.length) : l.take (n + 1) = l.take n ++ [rd l (n : Int)] := by
  rw [rd_get h, List.take_append_getElem h]
theorem andNot128 {c : Int} (h : 0 ≤ c ∧ c < 256) : Go.bits .andNot .u8 c 128 = c % 128 := by
  have all : ∀ n : Fin 256, Go.bits .andNot .u8 (n.val : Int) 128 = (n.val : Int) % 128 := by decide +kernel
  have := all ⟨c.toNat, by omega⟩
  simp only at this
  rwa [Int.toNat_of_nonneg h.1] at this
theorem or128 {c : Int} (h : 0 ≤ c ∧ c < 256) : Go.bits .or .u8 c 128 = c % 128 + 128 := by
  have all : ∀ n : Fin 256, Go.bits .or .u8 (n.val : Int) 128 = (n.val : Int) % 128 + 128 := by decide +kernel
  have := all ⟨c.toNat, by omega⟩
  simp only at this
  rwa [Int.toNat_of_nonneg h.1] at this
theorem pow7 (n : Nat) : (2 : Nat) ^ (7 * n) = 128 ^ n := by
  have : (128 : Nat) = 2 ^ 7 := by decide
  rw [this, ← Nat.pow_mul]
theorem or_at {x y : Int} {m : Nat} (hx : 0 ≤ x ∧ x < ((2 ^ m : Nat) : Int)) (hy : 0 ≤ y ∧ y * ((2 ^ m : Nat) : Int) < 18446744073709551616) (hx64 : x < 18446744073709551616) :
    Go.bits .or .u64 x (y * ((2 ^ m : Nat) : Int)) = x + y * ((2 ^ m : Nat) : Int) := by
  obtain ⟨a, rfl⟩ := Int.eq_ofNat_of_zero_le hx.1
  obtain ⟨b, rfl⟩ := Int.eq_ofNat_of_zero_le hy.1
  have h1 : a < 2 ^ m := by omega
  have h2 : b * 2 ^ m < 18446744073709551616 := by
    have := hy.2
    rw [← Int.natCast_mul] at this
    omega
  rw [← Int.natCast_mul]
  unfold Go.bits
  rw [wrapU64]
  have hl : a + b * 2 ^ m < 18446744073709551616 := by
    have := Nat.shiftLeft_add_eq_or_of_lt h1 b
    rw [Nat.shiftLeft_eq] at this
    rw [Nat.add_comm, this]
    exact Nat.or_lt_two_pow (n := 64) (by omega) (by omega)
  have eo : BitVec.ofInt IntKind.u64.bits (a : Int) ||| BitVec.ofInt IntKind.u64.bits ((b * 2 ^ m : Nat) : Int) = BitVec.ofNat 64 (a + b * 2 ^ m) := by
    apply BitVec.eq_of_toNat_eq
    rw [BitVec.toNat_or, BitVec.ofInt_natCast, BitVec.ofInt_natCast]
    simp only [IntKind.bits, BitVec.toNat_ofNat]
    rw [Nat.mod_eq_of_lt (by omega), Nat.mod_eq_of_lt (by omega)]
    have := Nat.shiftLeft_add_eq_or_of_lt h1 b
    rw [Nat.shiftLeft_eq] at this
    rw [Nat.or_comm, ← this, Nat.add_comm (b * _), Nat.mod_eq_of_lt (by omega)]
  have et : (BitVec.ofInt IntKind.u64.bits (a : Int) ||| BitVec.ofInt IntKind.u64.bits ((b * 2 ^ m : Nat) : Int)).toNat = a + b * 2 ^ m := by
    rw [eo]
    show (BitVec.ofNat 64 (a + b * 2 ^ m)).toNat = _
    rw [BitVec.toNat_ofNat, Nat.mod_eq_of_lt (by omega)]
  show ((BitVec.ofInt IntKind.u64.bits (a : Int) ||| BitVec.ofInt IntKind.u64.bits ((b * 2 ^ m : Nat) : Int)).toNat : Int) % 18446744073709551616 = _
  rw [et]
  omega
/-- what is read of a row, from the i-th byte on -/
def takeS : List Int → Nat → Int → Int × Int × Int
  | [], _, _ => (0, 0, 20)
  | c :: l, i, acc => if (i = 9 ∧ 1 < c) ∨ (0 < i ∧ c = 0) then (0, 0, 21) else if c < 128 then (acc + c % 128 * ((128 ^ i : Nat) : Int), (i : Int) + 1, 0) else takeS l (i + 1) (acc + c % 128 * ((128 ^ i : Nat) : Int))
theorem pow128_le {i : Nat} (h : i ≤ 9) : ((128 ^ i : Nat) : Int) ≤ 9223372036854775808 := by
  have p : (128 : Nat) ^ i ≤ 128 ^ 9 := Nat.pow_le_pow_right (by decide) h
  have : (128 : Nat) ^ 9 = 9223372036854775808 := by decide
  omega
theorem pow128_le8 {i : Nat} (h : i ≤ 8) : ((128 ^ i : Nat) : Int) ≤ 72057594037927936 := by
  have p : (128 : Nat) ^ i ≤ 128 ^ 8 := Nat.pow_le_pow_right (by decide) h
  have : (128 : Nat) ^ 8 = 72057594037927936 := by decide
  omega
/-- a byte that is let in at its place: its part -/
theorem part {c acc : Int} {i : Nat} (hi : i ≤ 9) (hc : 0 ≤ c ∧ c < 256) (hn : ¬ ((i = 9 ∧ 1 < c) ∨ (0 < i ∧ c = 0))) (ha : 0 ≤ acc ∧ acc < ((128 ^ i : Nat) : Int)) :
    0 ≤ acc + c % 128 * ((128 ^ i : Nat) : Int) ∧ acc + c % 128 * ((128 ^ i : Nat) : Int) < ((128 ^ (i + 1) : Nat) : Int) ∧ acc + c % 128 * ((128 ^ i : Nat) : Int) < 18446744073709551616 ∧ c % 128 * ((128 ^ i : Nat) : Int) < 18446744073709551616 := by
  have hm : 0 ≤ c % 128 * ((128 ^ i : Nat) : Int) := Int.mul_nonneg (by omega) (Int.natCast_nonneg _)
  have hle : c % 128 * ((128 ^ i : Nat) : Int) ≤ 127 * ((128 ^ i : Nat) : Int) := Int.mul_le_mul_of_nonneg_right (by omega) (Int.natCast_nonneg _)
  have e : ((128 ^ (i + 1) : Nat) : Int) = 128 * ((128 ^ i : Nat) : Int) := by rw [Nat.pow_succ]; omega
  refine ⟨by omega, by omega, ?_⟩
  by_cases h9 : i = 9
  · subst h9
    have hle1 : c % 128 * ((128 ^ 9 : Nat) : Int) ≤ 1 * ((128 ^ 9 : Nat) : Int) := Int.mul_le_mul_of_nonneg_right (by omega) (Int.natCast_nonneg _)
    have := pow128_le (i := 9) (by omega)
    omega
  · have := pow128_le8 (i := i) (by omega)
    omega
/-- a number's bytes: as many as its size asks for -/
def putS (n : Nat) : List Int := if h : n < 128 then [(n : Int)] else ((n % 128 + 128 : Nat) : Int) :: putS (n / 128)
termination_by n
decreasing_by omega
theorem putS_bytes (n : Nat) : Bytes (putS n) := by
  induction n using Nat.strongRecOn with
  | ind n ih =>
    unfold putS
    split
    · intro x hx; rw [List.mem_singleton.mp hx]; omega
    · intro x hx
      rcases List.mem_cons.mp hx with h | h
      · rw [h]; omega
      · exact ih (n / 128) (by omega) x h
theorem putS_length (j : Nat) : ∀ n : Nat, n < 128 ^ (j + 1) → (putS n).length ≤ j + 1 := by
  induction j with
  | zero => intro n h; unfold putS; rw [dif_pos (by omega)]; simp
  | succ j ih =>
    intro n h
    unfold putS
    split
    · simp
    · rw [List.length_cons]
      have := ih (n / 128) (by rw [Nat.div_lt_iff_lt_mul (by decide)]; rw [Nat.pow_succ] at h; exact h)
      omega
theorem putS_length64 {n : Nat} (h : n < 18446744073709551616) : (putS n).length ≤ 10 := by
  refine putS_length 9 n ?_
  have : (128 : Nat) ^ (9 + 1) = 1180591620717411303424 := by decide
  omega
theorem takeS_putS (n : Nat) : ∀ (i : Nat) (acc : Int) (rest : List Int), i ≤ 9 → n * 128 ^ i < 18446744073709551616 → i = 0 ∨ 0 < n →
    takeS (putS n ++ rest) i acc = (acc + (n : Int) * ((128 ^ i : Nat) : Int), (i : Int) + ((putS n).length : Int), 0) := by
  induction n using Nat.strongRecOn with
  | ind n ih =>
    intro i acc rest hi hn h0
    have h9 : i = 9 → n ≤ 1 := by
      intro e
      subst e
      have : (128 : Nat) ^ 9 = 9223372036854775808 := by decide
      omega
    by_cases h : n < 128
    · have e : putS n = [(n : Int)] := by unfold putS; rw [dif_pos h]
      rw [e]
      simp only [List.cons_append, List.nil_append, takeS, List.length_cons, List.length_nil]
      rw [if_neg (by omega), if_pos (by omega), Int.emod_eq_of_lt (by omega) (by omega)]
      rfl
    · have e : putS n = ((n % 128 + 128 : Nat) : Int) :: putS (n / 128) := by rw [putS, dif_neg h]
      rw [e]
      simp only [List.cons_append, takeS, List.length_cons]
      have hp : n / 128 * 128 ^ (i + 1) ≤ n * 128 ^ i := by
        rw [Nat.pow_succ, Nat.mul_comm (128 ^ i), ← Nat.mul_assoc]
        exact Nat.mul_le_mul_right _ (Nat.div_mul_le_self _ _)
      rw [if_neg (by omega), if_neg (by omega), ih (n / 128) (by omega) (i + 1) _ rest (by omega) (by omega) (by omega)]
      have e1 : (((n % 128 + 128 : Nat) : Int)) % 128 = ((n % 128 : Nat) : Int) := by omega
      rw [e1]
      congr 1
      · rw [Int.add_assoc]
        congr 1
        rw [← Int.natCast_mul, ← Int.natCast_mul, ← Int.natCast_mul, ← Int.natCast_add]
        congr 1
        rw [Nat.pow_succ, Nat.mul_comm (128 ^ i) 128, ← Nat.mul_assoc, ← Nat.add_mul]
        congr 1
        omega
      · congr 1
        omega
theorem take_put {a : Int} (h : 0 ≤ a ∧ a < 18446744073709551616) (rest : List Int) : takeS (putS a.toNat ++ rest) 0 0 = (a, ((putS a.toNat).length : Int), 0) := by
  rw [takeS_putS a.toNat 0 0 rest (by omega) (by simp; omega) (.inl rfl)]
  simp
  omega
/-- a user key, a number and a kind that make an internal key -/
def Right (l : List Int) (a b : Int) : Prop := (l.length : Int) ≤ 128 ∧ a ≤ 72057594037927935 ∧ (b = 0 ∨ b = 1)
instance (l : List Int) (a b : Int) : Decidable (Right l a b) := by unfold Right; infer_instance
def key (l : List Int) (a b : Int) : List Int × Int := if Right l a b then (l ++ fixedL (a * 256 + b) 8, 0) else ([], 23)
def split (l : List Int) : List Int × Int × Int × Int :=
  if l.length < 8 ∨ 136 < l.length then ([], 0, 0, 23)
  else if 1 < leVal (l.drop (l.length - 8)) % 256 then ([], 0, 0, 23)
  else (l.take (l.length - 8), leVal (l.drop (l.length - 8)) / 256, leVal (l.drop (l.length - 8)) % 256, 0)
theorem last8 {l : List Int} (hl : Bytes l) (h : 8 ≤ l.length) : 0 ≤ leVal (l.drop (l.length - 8)) ∧ leVal (l.drop (l.length - 8)) < 18446744073709551616 := by
  have := leVal_range (hl.drop (l.length - 8))
  have e : (l.drop (l.length - 8)).length = 8 := by rw [List.length_drop]; omega
  rw [e] at this
  have e : (256 : Nat) ^ 8 = 18446744073709551616 := by decide
  omega
theorem split_bytes {l : List Int} (hl : Bytes l) : Bytes (split l).1 := by
  unfold split
  split
  · intro x hx; cases hx
  · split
    · intro x hx; cases hx
    · exact hl.take _
theorem split_key {l : List Int} {a b : Int} (ha : 0 ≤ a) (h : Right l a b) : split (l ++ fixedL (a * 256 + b) 8) = (l, a, b, 0) := by
  obtain ⟨h1, h2, h3⟩ := h
  have el : (l ++ fixedL (a * 256 + b) 8).length = l.length + 8 := by rw [List.length_append, fixedL_length]
  have ed : (l ++ fixedL (a * 256 + b) 8).drop ((l ++ fixedL (a * 256 + b) 8).length - 8) = fixedL (a * 256 + b) 8 := by
    rw [el, Nat.add_sub_cancel, List.drop_left]
  have et : (l ++ fixedL (a * 256 + b) 8).take ((l ++ fixedL (a * 256 + b) 8).length - 8) = l := by
    rw [el, Nat.add_sub_cancel, List.take_left]
  have ev : leVal (fixedL (a * 256 + b) 8) = a * 256 + b := by
    rw [leVal_fixedL (by omega)]
    have e : (256 : Nat) ^ 8 = 18446744073709551616 := by decide
    rw [e]; omega
  unfold split
  rw [ed, et, el, ev, if_neg (by omega), if_neg (by omega)]
  congr 2
  · omega
  · congr 1; omega
theorem key_bytes {l : List Int} (hl : Bytes l) (a b : Int) : Bytes (key l a b).1 := by
  unfold key
  split
  · exact hl.append (fixedL_bytes _ _)
  · intro x hx; cases hx
theorem key_length {l : List Int} (a b : Int) : (key l a b).1.length ≤ 136 := by
  unfold key
  split
  · rename_i h; have := h.1; simp only [List.length_append, fixedL_length]; omega
  · simp
/-- two rows of numbers, the lesser ahead -/
def cmpB : List Int → List Int → Int
  | [], [] => 0
  | [], _ :: _ => -1
  | _ :: _, [] => 1
  | a :: x, b :: y => if a = b then cmpB x y else if a < b then -1 else 1
theorem cmpB_cases (a b : List Int) : cmpB a b = -1 ∨ cmpB a b = 0 ∨ cmpB a b = 1 := by
  induction a generalizing b with
  | nil => cases b <;> simp [cmpB]
  | cons x a ih =>
    cases b with
    | nil => simp [cmpB]
    | cons y b =>
      simp only [cmpB]
      split
      · exact ih b
      · split <;> simp
theorem cmpB_neg (a b : List Int) : cmpB b a = - cmpB a b := by
  induction a generalizing b with
  | nil => cases b <;> simp [cmpB]
  | cons x a ih =>
    cases b with
    | nil => simp [cmpB]
    | cons y b =>
      simp only [cmpB]
      by_cases h : x = y
      · rw [if_pos h, if_pos h.symm]; exact ih b
      · rw [if_neg h, if_neg (fun e => h e.symm)]
        by_cases h2 : x < y
        · rw [if_neg (by omega), if_pos h2]; rfl
        · rw [if_pos (by omega), if_neg h2]
theorem cmpB_refl (a : List Int) : cmpB a a = 0 := by
  induction a with
  | nil => rfl
  | cons x a ih => simp [cmpB, ih]
theorem cmpB_zero {a b : List Int} (h : cmpB a b = 0) : a = b := by
  induction a generalizing b with
  | nil => cases b with
    | nil => rfl
    | cons y b => simp [cmpB] at h
  | cons x a ih =>
    cases b with
    | nil => simp [cmpB] at h
    | cons y b =>
      simp only [cmpB] at h
      by_cases e : x = y
      · rw [if_pos e] at h; rw [e, ih h]
      · rw [if_neg e] at h; split at h <;> simp at h
theorem cmpB_trans {a b c : List Int} (h1 : cmpB a b ≤ 0) (h2 : cmpB b c ≤ 0) : cmpB a c ≤ 0 ∧ (cmpB a c = 0 → cmpB a b = 0 ∧ cmpB b c = 0) := by
  induction a generalizing b c with
  | nil =>
    cases b with
    | nil => cases c <;> simp [cmpB]
    | cons y b => cases c with
      | nil => simp [cmpB] at h2
      | cons z c => simp [cmpB]
  | cons x a ih =>
    cases b with
    | nil => simp [cmpB] at h1
    | cons y b =>
      cases c with
      | nil => simp [cmpB] at h2
      | cons z c =>
        simp only [cmpB] at h1 h2 ⊢
        by_cases e1 : x = y
        · subst e1
          rw [if_pos rfl] at h1 ⊢
          by_cases e2 : x = z
          · subst e2
            rw [if_pos rfl] at h2
            rw [if_pos rfl]
            refine ⟨(ih h1 h2).1, fun e => ⟨((ih h1 h2).2 e).1, ?_⟩⟩
            rw [if_pos rfl]
            exact ((ih h1 h2).2 e).2
          · rw [if_neg e2] at h2
            rw [if_neg e2]
            by_cases e3 : x < z
            · rw [if_pos e3]; omega
            · rw [if_neg e3] at h2; omega
        · rw [if_neg e1] at h1 ⊢
          by_cases e3 : x < y
          · rw [if_pos e3]
            by_cases e2 : y = z
            · subst e2
              rw [if_neg e1, if_pos e3]; omega
            · rw [if_neg e2] at h2 ⊢
              by_cases e4 : y < z
              · rw [if_neg (by omega), if_pos (by omega)]; omega
              · rw [if_neg e4] at h2; omega
          · rw [if_neg e3] at h1; omega
/-- the order of two keys: the users' keys rise, then the moments and kinds fall -/
def order (a b : List Int) : Int :=
  if cmpB (split a).1 (split b).1 ≠ 0 then cmpB (split a).1 (split b).1
  else if (split a).2.1 > (split b).2.1 ∨ ((split a).2.1 = (split b).2.1 ∧ (split a).2.2.1 > (split b).2.2.1) then -1
  else if (split a).2.1 < (split b).2.1 ∨ ((split a).2.1 = (split b).2.1 ∧ (split a).2.2.1 < (split b).2.2.1) then 1
  else 0
def compareK (a b : List Int) : Int × Int := if (split a).2.2.2 = 0 ∧ (split b).2.2.2 = 0 then (order a b, 0) else (0, 23)
theorem split_length (a : List Int) : (split a).1.length ≤ a.length := by
  unfold split
  repeat' split
  · simp
  · simp
  · simp only [List.length_take]; omega
theorem order_neg (a b : List Int) : order b a = - order a b := by
  unfold order
  rw [cmpB_neg (split a).1 (split b).1]
  have := cmpB_cases (split a).1 (split b).1
  generalize cmpB (split a).1 (split b).1 = m at *
  generalize (split a).2.1 = na
  generalize (split b).2.1 = nb
  generalize (split a).2.2.1 = ka
  generalize (split b).2.2.1 = kb
  by_cases h : m = 0
  · rw [if_neg (c := -m ≠ 0) (by omega), if_neg (c := m ≠ 0) (by omega)]
    by_cases c1 : na > nb ∨ (na = nb ∧ ka > kb)
    · rw [if_pos c1, if_neg (by omega), if_pos (by omega)]; rfl
    · rw [if_neg c1]
      by_cases c2 : na < nb ∨ (na = nb ∧ ka < kb)
      · rw [if_pos c2, if_pos (by omega)]
      · rw [if_neg c2, if_neg (by omega), if_neg (by omega)]; rfl
  · rw [if_pos (c := -m ≠ 0) (by omega), if_pos (c := m ≠ 0) (by omega)]
theorem order_cases (a b : List Int) : order a b = -1 ∨ order a b = 0 ∨ order a b = 1 := by
  unfold order
  have := cmpB_cases (split a).1 (split b).1
  split
  · omega
  · split
    · omega
    · split <;> omega
theorem order_trans {a b c : List Int} (h1 : order a b ≤ 0) (h2 : order b c ≤ 0) : order a c ≤ 0 := by
  unfold order at *
  have p := cmpB_cases (split a).1 (split b).1
  have q := cmpB_cases (split b).1 (split c).1
  have ha : cmpB (split a).1 (split b).1 ≤ 0 := by
    split at h1
    · exact h1
    · omega
  have hb : cmpB (split b).1 (split c).1 ≤ 0 := by
    split at h2
    · exact h2
    · omega
  obtain ⟨t1, t2⟩ := cmpB_trans ha hb
  by_cases h : cmpB (split a).1 (split c).1 = 0
  · obtain ⟨e1, e2⟩ := t2 h
    rw [if_neg (by omega)] at h1 h2
    rw [if_neg (by omega)]
    split
    · omega
    · split
      · split at h1
        · split at h2
          · omega
          · split at h2
            · omega
            · omega
        · split at h1
          · omega
          · split at h2
            · omega
            · split at h2 <;> omega
      · omega
  · rw [if_pos h]; exact t1
theorem order_zero {a b : List Int} (ha : Bytes a) (hb : Bytes b) (ea : (split a).2.2.2 = 0) (eb : (split b).2.2.2 = 0) (h : order a b = 0) : a = b := by
  have key : ∀ {l : List Int}, Bytes l → (split l).2.2.2 = 0 → 8 ≤ l.length ∧ (split l).1 = l.take (l.length - 8) ∧ (split l).2.1 = leVal (l.drop (l.length - 8)) / 256 ∧ (split l).2.2.1 = leVal (l.drop (l.length - 8)) % 256 := by
    intro l hl e
    unfold split at *
    split at e
    · simp at e
    · split at e
      · simp at e
      · rename_i h1 h2
        rw [if_neg h1, if_neg h2]
        exact ⟨by omega, rfl, rfl, rfl⟩
  obtain ⟨a1, a2, a3, a4⟩ := key ha ea
  obtain ⟨b1, b2, b3, b4⟩ := key hb eb
  unfold order at h
  have hc : cmpB (split a).1 (split b).1 = 0 := by
    split at h
    · exact h
    · omega
  rw [if_neg (by omega)] at h
  have hu := cmpB_zero hc
  have hv : leVal (a.drop (a.length - 8)) = leVal (b.drop (b.length - 8)) := by
    split at h
    · omega
    · split at h
      · omega
      · omega
  have inj : ∀ {x y : List Int}, Bytes x → Bytes y → x.length = y.length → leVal x = leVal y → x = y := by
    intro x
    induction x with
    | nil => intro y _ _ h _; exact (List.eq_nil_of_length_eq_zero h.symm).symm
    | cons p x ih =>
      intro y hx hy h e
      cases y with
      | nil => simp at h
      | cons q y =>
        have hp := hx p List.mem_cons_self
        have hq := hy q List.mem_cons_self
        simp only [leVal] at e
        have e1 : p = q := by omega
        have e2 := ih (fun z hz => hx z (List.mem_cons_of_mem _ hz)) (fun z hz => hy z (List.mem_cons_of_mem _ hz)) (by simpa using h) (by omega)
        rw [e1, e2]
  have hd := inj (ha.drop (a.length - 8)) (hb.drop (b.length - 8)) (by simp only [List.length_drop]; omega) hv
  rw [a2, b2] at hu
  rw [← List.take_append_drop (a.length - 8) a, ← List.take_append_drop (b.length - 8) b, hu, hd]
end Go.Proofs.Ytdhbelpejaobdaa.Ev
