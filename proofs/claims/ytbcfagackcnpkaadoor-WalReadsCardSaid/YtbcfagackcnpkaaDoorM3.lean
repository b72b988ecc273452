/- Parts of the proof, joined by a program of this session: EvSpec, CSpec2, EvPut, EvFixed, EvUnfixed, CFixed, CCodec, CCrc, WSpec, CSpecKv, WApp, WRead, WRec, WLen, WKnown, WLists, EvApart. -/
import GoSem.Machine.Return
import Derived.Test.YtbcfagackcnpkaaDoorM0
import Derived.Test.YtbcfagackcnpkaaDoorM2
set_option linter.unusedVariables false
set_option linter.unusedSimpArgs false
set_option linter.unusedSectionVars false
/- Plain specs of the lowest functions, with no function of the program in sight. Written out of wip/pure by mkspec.py. -/
namespace Go.Proofs.YtbcfagackcnpkaaDoor.Ev
open Go
set_option linter.unusedVariables false
set_option linter.unusedSimpArgs false
def rd (l : List Int) (i : Int) : Int := l.getD i.toNat 0
theorem wrapU64 (n : Int) : IntKind.u64.wrap n = n % 18446744073709551616 := by simp [IntKind.wrap, IntKind.bits, IntKind.signed]
theorem wrapU64_id {n : Int} (h : 0 ≤ n) (h' : n < 18446744073709551616) : IntKind.u64.wrap n = n := by rw [wrapU64]; omega
theorem wrapU32 (n : Int) : IntKind.u32.wrap n = n % 4294967296 := by simp [IntKind.wrap, IntKind.bits, IntKind.signed]
theorem wrapU8 (n : Int) : IntKind.u8.wrap n = n % 256 := by simp [IntKind.wrap, IntKind.bits, IntKind.signed]
/-- all are bytes -/
def Bytes (l : List Int) : Prop := ∀ x ∈ l, 0 ≤ x ∧ x < 256
theorem Bytes.append {a b : List Int} (ha : Bytes a) (hb : Bytes b) : Bytes (a ++ b) := fun x hx => by
  rcases List.mem_append.mp hx with h | h
  · exact ha x h
  · exact hb x h
theorem Bytes.take {a : List Int} (ha : Bytes a) (n : Nat) : Bytes (a.take n) := fun x hx => ha x (List.mem_of_mem_take hx)
theorem Bytes.drop {a : List Int} (ha : Bytes a) (n : Nat) : Bytes (a.drop n) := fun x hx => ha x (List.mem_of_mem_drop hx)
theorem rd_get {l : List Int} {i : Nat} (h : i < l.length) : rd l (i : Int) = l[i] := by
  simp [rd, List.getD_eq_getElem?_getD, h]
theorem rd_bytes {l : List Int} (hl : Bytes l) (i : Int) : 0 ≤ rd l i ∧ rd l i < 256 := by
  by_cases h : i.toNat < l.length
  · have : rd l i = l[i.toNat] := by simp [rd, List.getD_eq_getElem?_getD, h]
    rw [this]; exact hl _ (List.getElem_mem h)
  · have : rd l i = 0 := by simp [rd, List.getD_eq_getElem?_getD, Nat.le_of_not_lt h]
    rw [this]; omega
theorem drop_cons {l : List Int} {i : Nat} (h : i < l.length) : l.drop i = rd l (i : Int) :: l.drop (i + 1) := by
  rw [rd_get h, List.drop_eq_getElem_cons h]
theorem bits_xor32 (x y : Int) : Go.bits .xor .u32 x y = ((BitVec.ofInt 32 x ^^^ BitVec.ofInt 32 y).toNat : Int) := by
  unfold Go.bits
  rw [wrapU32]
  exact Int.emod_eq_of_lt (Int.natCast_nonneg _) (Int.ofNat_lt.mpr (BitVec.isLt _))
theorem bits_and32 (x y : Int) : Go.bits .and .u32 x y = ((BitVec.ofInt 32 x &&& BitVec.ofInt 32 y).toNat : Int) := by
  unfold Go.bits
  rw [wrapU32]
  exact Int.emod_eq_of_lt (Int.natCast_nonneg _) (Int.ofNat_lt.mpr (BitVec.isLt _))
theorem bits_xor8 (x y : Int) : Go.bits .xor .u8 x y = ((BitVec.ofInt 8 x ^^^ BitVec.ofInt 8 y).toNat : Int) := by
  unfold Go.bits
  rw [wrapU8]
  exact Int.emod_eq_of_lt (Int.natCast_nonneg _) (Int.ofNat_lt.mpr (BitVec.isLt _))
theorem ofInt_toNat {w : Nat} (b : BitVec w) : BitVec.ofInt w ((b.toNat : Nat) : Int) = b := by
  simp [BitVec.ofInt_natCast]
/-- so many bytes of a number, the least first -/
def fixedL (a : Int) : Nat → List Int
  | 0 => []
  | n + 1 => fixedL a n ++ [a / ((256 ^ n : Nat) : Int) % 256]
theorem fixedL_length (a : Int) (n : Nat) : (fixedL a n).length = n := by
  induction n with
  | zero => rfl
  | succ n ih => simp [fixedL, ih]
theorem fixedL_bytes (a : Int) (n : Nat) : Bytes (fixedL a n) := by
  induction n with
  | zero => intro x hx; cases hx
  | succ n ih => exact ih.append fun x hx => by rw [List.mem_singleton.mp hx]; omega
def leVal : List Int → Int
  | [] => 0
  | x :: l => x + 256 * leVal l
theorem leVal_append (a b : List Int) : leVal (a ++ b) = leVal a + ((256 ^ a.length : Nat) : Int) * leVal b := by
  induction a with
  | nil => simp [leVal]
  | cons x l ih =>
    simp only [List.cons_append, leVal, ih, List.length_cons, Nat.pow_succ, Int.natCast_mul]
    rw [Int.mul_add, Int.add_assoc, ← Int.mul_assoc]
    congr 3
    rw [Int.mul_comm]; rfl
theorem leVal_range {l : List Int} (h : Bytes l) : 0 ≤ leVal l ∧ leVal l < ((256 ^ l.length : Nat) : Int) := by
  induction l with
  | nil => simp [leVal]
  | cons x l ih =>
    have := ih fun y hy => h y (List.mem_cons_of_mem _ hy)
    have := h x List.mem_cons_self
    simp only [leVal, List.length_cons, Nat.pow_succ, Int.natCast_mul]
    omega
theorem leVal_fixedL {a : Int} (ha : 0 ≤ a) (n : Nat) : leVal (fixedL a n) = a % ((256 ^ n : Nat) : Int) := by
  obtain ⟨m, rfl⟩ := Int.eq_ofNat_of_zero_le ha
  induction n with
  | zero => simp [fixedL, leVal, Int.emod_one]
  | succ n ih =>
    have e := @Nat.mod_mul (256 ^ n) 256 m
    rw [fixedL, leVal_append, ih, fixedL_length, Nat.pow_succ]
    simp only [leVal]
    have e' : ((m % (256 ^ n * 256) : Nat) : Int) = ((m % 256 ^ n + 256 ^ n * (m / 256 ^ n % 256) : Nat) : Int) := by rw [e]
    have e1 : ((m % (256 ^ n * 256) : Nat) : Int) = (m : Int) % ((256 ^ n * 256 : Nat) : Int) := Int.natCast_emod _ _
    have e2 : ((m % 256 ^ n + 256 ^ n * (m / 256 ^ n % 256) : Nat) : Int) = (m : Int) % ((256 ^ n : Nat) : Int) + ((256 ^ n : Nat) : Int) * ((m : Int) / ((256 ^ n : Nat) : Int) % 256) := by
      rw [Int.natCast_add, Int.natCast_mul, Int.natCast_emod, Int.natCast_emod, Int.natCast_ediv]; rfl
    rw [← e1, e', e2, Int.mul_zero, Int.add_zero]
theorem bits_or64 {x y : Int} {n : Nat} (hn : n ≤ 8) (hx : 0 ≤ x ∧ x < ((256 ^ n : Nat) : Int)) (hy : 0 ≤ y ∧ y * ((256 ^ n : Nat) : Int) < 18446744073709551616) :
    Go.bits .or .u64 x (y * ((256 ^ n : Nat) : Int)) = x + y * ((256 ^ n : Nat) : Int) := by
  obtain ⟨a, rfl⟩ := Int.eq_ofNat_of_zero_le hx.1
  obtain ⟨b, rfl⟩ := Int.eq_ofNat_of_zero_le hy.1
  have e2 : (256 : Nat) ^ n = 2 ^ (8 * n) := by
    have : (256 : Nat) = 2 ^ 8 := by decide
    rw [this, ← Nat.pow_mul]
  have h1 : a < 2 ^ (8 * n) := by rw [← e2]; omega
  have h2 : b * 2 ^ (8 * n) < 18446744073709551616 := by
    rw [← e2]
    have := hy.2
    rw [← Int.natCast_mul] at this
    omega
  have hp : (2 : Nat) ^ (8 * n) ≤ 2 ^ 64 := Nat.pow_le_pow_right (by decide) (by omega)
  have h3 : a < 18446744073709551616 := by
    have : (2 : Nat) ^ 64 = 18446744073709551616 := by decide
    omega
  rw [e2, ← Int.natCast_mul]
  unfold Go.bits
  rw [wrapU64]
  have eo : BitVec.ofInt IntKind.u64.bits (a : Int) ||| BitVec.ofInt IntKind.u64.bits ((b * 2 ^ (8 * n) : Nat) : Int) = BitVec.ofNat 64 (a + b * 2 ^ (8 * n)) := by
    apply BitVec.eq_of_toNat_eq
    rw [BitVec.toNat_or, BitVec.ofInt_natCast, BitVec.ofInt_natCast]
    simp only [IntKind.bits, BitVec.toNat_ofNat]
    rw [Nat.mod_eq_of_lt (by omega), Nat.mod_eq_of_lt (by omega)]
    have := Nat.shiftLeft_add_eq_or_of_lt h1 b
    rw [Nat.shiftLeft_eq] at this
    rw [Nat.or_comm, ← this, Nat.add_comm (b * _), Nat.mod_eq_of_lt]
    rw [Nat.add_comm, this]
    exact Nat.or_lt_two_pow (n := 64) (by omega) (by omega)
  have hl : a + b * 2 ^ (8 * n) < 18446744073709551616 := by
    have := Nat.shiftLeft_add_eq_or_of_lt h1 b
    rw [Nat.shiftLeft_eq] at this
    rw [Nat.add_comm, this]
    exact Nat.or_lt_two_pow (n := 64) (by omega) (by omega)
  show ((BitVec.ofInt IntKind.u64.bits (a : Int) ||| BitVec.ofInt IntKind.u64.bits ((b * 2 ^ (8 * n) : Nat) : Int)).toNat : Int) % 18446744073709551616 = _
  have et : (BitVec.ofInt IntKind.u64.bits (a : Int) ||| BitVec.ofInt IntKind.u64.bits ((b * 2 ^ (8 * n) : Nat) : Int)).toNat = a + b * 2 ^ (8 * n) := by
    rw [eo]
    show (BitVec.ofNat 64 (a + b * 2 ^ (8 * n))).toNat = _
    rw [BitVec.toNat_ofNat, Nat.mod_eq_of_lt (by omega)]
  rw [et]
  omega
theorem take_succ' {l : List Int} {n : Nat} (h : n < l.length) : l.take (n + 1) = l.take n ++ [rd l (n : Int)] := by
  rw [rd_get h, List.take_append_getElem h]
theorem andNot128 {c : Int} (h : 0 ≤ c ∧ c < 256) : Go.bits .andNot .u8 c 128 = c % 128 := by
  have all : ∀ n : Fin 256, Go.bits .andNot .u8 (n.val : Int) 128 = (n.val : Int) % 128 := by decide +kernel
  have := all ⟨c.toNat, by omega⟩
  simp only at this
  rwa [Int.toNat_of_nonneg h.1] at this
theorem or128 {c : Int} (h : 0 ≤ c ∧ c < 256) : Go.bits .or .u8 c 128 = c % 128 + 128 := by
  have all : ∀ n : Fin 256, Go.bits .or .u8 (n.val : Int) 128 = (n.val : Int) % 128 + 128 := by decide +kernel
  have := all ⟨c.toNat, by omega⟩
  simp only at this
  rwa [Int.toNat_of_nonneg h.1] at this
theorem pow7 (n : Nat) : (2 : Nat) ^ (7 * n) = 128 ^ n := by
  have : (128 : Nat) = 2 ^ 7 := by decide
  rw [this, ← Nat.pow_mul]
theorem or_at {x y : Int} {m : Nat} (hx : 0 ≤ x ∧ x < ((2 ^ m : Nat) : Int)) (hy : 0 ≤ y ∧ y * ((2 ^ m : Nat) : Int) < 18446744073709551616) (hx64 : x < 18446744073709551616) :
    Go.bits .or .u64 x (y * ((2 ^ m : Nat) : Int)) = x + y * ((2 ^ m : Nat) : Int) := by
  obtain ⟨a, rfl⟩ := Int.eq_ofNat_of_zero_le hx.1
  obtain ⟨b, rfl⟩ := Int.eq_ofNat_of_zero_le hy.1
  have h1 : a < 2 ^ m := by omega
  have h2 : b * 2 ^ m < 18446744073709551616 := by
    have := hy.2
    rw [← Int.natCast_mul] at this
    omega
  rw [← Int.natCast_mul]
  unfold Go.bits
  rw [wrapU64]
  have hl : a + b * 2 ^ m < 18446744073709551616 := by
    have := Nat.shiftLeft_add_eq_or_of_lt h1 b
    rw [Nat.shiftLeft_eq] at this
    rw [Nat.add_comm, this]
    exact Nat.or_lt_two_pow (n := 64) (by omega) (by omega)
  have eo : BitVec.ofInt IntKind.u64.bits (a : Int) ||| BitVec.ofInt IntKind.u64.bits ((b * 2 ^ m : Nat) : Int) = BitVec.ofNat 64 (a + b * 2 ^ m) := by
    apply BitVec.eq_of_toNat_eq
    rw [BitVec.toNat_or, BitVec.ofInt_natCast, BitVec.ofInt_natCast]
    simp only [IntKind.bits, BitVec.toNat_ofNat]
    rw [Nat.mod_eq_of_lt (by omega), Nat.mod_eq_of_lt (by omega)]
    have := Nat.shiftLeft_add_eq_or_of_lt h1 b
    rw [Nat.shiftLeft_eq] at this
    rw [Nat.or_comm, ← this, Nat.add_comm (b * _), Nat.mod_eq_of_lt (by omega)]
  have et : (BitVec.ofInt IntKind.u64.bits (a : Int) ||| BitVec.ofInt IntKind.u64.bits ((b * 2 ^ m : Nat) : Int)).toNat = a + b * 2 ^ m := by
    rw [eo]
    show (BitVec.ofNat 64 (a + b * 2 ^ m)).toNat = _
    rw [BitVec.toNat_ofNat, Nat.mod_eq_of_lt (by omega)]
  show ((BitVec.ofInt IntKind.u64.bits (a : Int) ||| BitVec.ofInt IntKind.u64.bits ((b * 2 ^ m : Nat) : Int)).toNat : Int) % 18446744073709551616 = _
  rw [et]
  omega
/-- what is read of a row, from the i-th byte on -/
def takeS : List Int → Nat → Int → Int × Int × Int
  | [], _, _ => (0, 0, 20)
  | c :: l, i, acc => if (i = 9 ∧ 1 < c) ∨ (0 < i ∧ c = 0) then (0, 0, 21) else if c < 128 then (acc + c % 128 * ((128 ^ i : Nat) : Int), (i : Int) + 1, 0) else takeS l (i + 1) (acc + c % 128 * ((128 ^ i : Nat) : Int))
theorem pow128_le {i : Nat} (h : i ≤ 9) : ((128 ^ i : Nat) : Int) ≤ 9223372036854775808 := by
  have p : (128 : Nat) ^ i ≤ 128 ^ 9 := Nat.pow_le_pow_right (by decide) h
  have : (128 : Nat) ^ 9 = 9223372036854775808 := by decide
  omega
theorem pow128_le8 {i : Nat} (h : i ≤ 8) : ((128 ^ i : Nat) : Int) ≤ 72057594037927936 := by
  have p : (128 : Nat) ^ i ≤ 128 ^ 8 := Nat.pow_le_pow_right (by decide) h
  have : (128 : Nat) ^ 8 = 72057594037927936 := by decide
  omega
/-- a byte that is let in at its place: its part -/
theorem part {c acc : Int} {i : Nat} (hi : i ≤ 9) (hc : 0 ≤ c ∧ c < 256) (hn : ¬ ((i = 9 ∧ 1 < c) ∨ (0 < i ∧ c = 0))) (ha : 0 ≤ acc ∧ acc < ((128 ^ i : Nat) : Int)) :
    0 ≤ acc + c % 128 * ((128 ^ i : Nat) : Int) ∧ acc + c % 128 * ((128 ^ i : Nat) : Int) < ((128 ^ (i + 1) : Nat) : Int) ∧ acc + c % 128 * ((128 ^ i : Nat) : Int) < 18446744073709551616 ∧ c % 128 * ((128 ^ i : Nat) : Int) < 18446744073709551616 := by
  have hm : 0 ≤ c % 128 * ((128 ^ i : Nat) : Int) := Int.mul_nonneg (by omega) (Int.natCast_nonneg _)
  have hle : c % 128 * ((128 ^ i : Nat) : Int) ≤ 127 * ((128 ^ i : Nat) : Int) := Int.mul_le_mul_of_nonneg_right (by omega) (Int.natCast_nonneg _)
  have e : ((128 ^ (i + 1) : Nat) : Int) = 128 * ((128 ^ i : Nat) : Int) := by rw [Nat.pow_succ]; omega
  refine ⟨by omega, by omega, ?_⟩
  by_cases h9 : i = 9
  · subst h9
    have hle1 : c % 128 * ((128 ^ 9 : Nat) : Int) ≤ 1 * ((128 ^ 9 : Nat) : Int) := Int.mul_le_mul_of_nonneg_right (by omega) (Int.natCast_nonneg _)
    have := pow128_le (i := 9) (by omega)
    omega
  · have := pow128_le8 (i := i) (by omega)
    omega
/-- a number's bytes: as many as its size asks for -/
def putS (n : Nat) : List Int := if h : n < 128 then [(n : Int)] else ((n % 128 + 128 : Nat) : Int) :: putS (n / 128)
termination_by n
decreasing_by omega
theorem putS_bytes (n : Nat) : Bytes (putS n) := by
  induction n using Nat.strongRecOn with
  | ind n ih =>
    unfold putS
    split
    · intro x hx; rw [List.mem_singleton.mp hx]; omega
    · intro x hx
      rcases List.mem_cons.mp hx with h | h
      · rw [h]; omega
      · exact ih (n / 128) (by omega) x h
theorem putS_length (j : Nat) : ∀ n : Nat, n < 128 ^ (j + 1) → (putS n).length ≤ j + 1 := by
  induction j with
  | zero => intro n h; unfold putS; rw [dif_pos (by omega)]; simp
  | succ j ih =>
    intro n h
    unfold putS
    split
    · simp
    · rw [List.length_cons]
      have := ih (n / 128) (by rw [Nat.div_lt_iff_lt_mul (by decide)]; rw [Nat.pow_succ] at h; exact h)
      omega
theorem putS_length64 {n : Nat} (h : n < 18446744073709551616) : (putS n).length ≤ 10 := by
  refine putS_length 9 n ?_
  have : (128 : Nat) ^ (9 + 1) = 1180591620717411303424 := by decide
  omega
theorem takeS_putS (n : Nat) : ∀ (i : Nat) (acc : Int) (rest : List Int), i ≤ 9 → n * 128 ^ i < 18446744073709551616 → i = 0 ∨ 0 < n →
    takeS (putS n ++ rest) i acc = (acc + (n : Int) * ((128 ^ i : Nat) : Int), (i : Int) + ((putS n).length : Int), 0) := by
  induction n using Nat.strongRecOn with
  | ind n ih =>
    intro i acc rest hi hn h0
    have h9 : i = 9 → n ≤ 1 := by
      intro e
      subst e
      have : (128 : Nat) ^ 9 = 9223372036854775808 := by decide
      omega
    by_cases h : n < 128
    · have e : putS n = [(n : Int)] := by unfold putS; rw [dif_pos h]
      rw [e]
      simp only [List.cons_append, List.nil_append, takeS, List.length_cons, List.length_nil]
      rw [if_neg (by omega), if_pos (by omega), Int.emod_eq_of_lt (by omega) (by omega)]
      rfl
    · have e : putS n = ((n % 128 + 128 : Nat) : Int) :: putS (n / 128) := by rw [putS, dif_neg h]
      rw [e]
      simp only [List.cons_append, takeS, List.length_cons]
      have hp : n / 128 * 128 ^ (i + 1) ≤ n * 128 ^ i := by
        rw [Nat.pow_succ, Nat.mul_comm (128 ^ i), ← Nat.mul_assoc]
        exact Nat.mul_le_mul_right _ (Nat.div_mul_le_self _ _)
      rw [if_neg (by omega), if_neg (by omega), ih (n / 128) (by omega) (i + 1) _ rest (by omega) (by omega) (by omega)]
      have e1 : (((n % 128 + 128 : Nat) : Int)) % 128 = ((n % 128 : Nat) : Int) := by omega
      rw [e1]
      congr 1
      · rw [Int.add_assoc]
        congr 1
        rw [← Int.natCast_mul, ← Int.natCast_mul, ← Int.natCast_mul, ← Int.natCast_add]
        congr 1
        rw [Nat.pow_succ, Nat.mul_comm (128 ^ i) 128, ← Nat.mul_assoc, ← Nat.add_mul]
        congr 1
        omega
      · congr 1
        omega
theorem take_put {a : Int} (h : 0 ≤ a ∧ a < 18446744073709551616) (rest : List Int) : takeS (putS a.toNat ++ rest) 0 0 = (a, ((putS a.toNat).length : Int), 0) := by
  rw [takeS_putS a.toNat 0 0 rest (by omega) (by simp; omega) (.inl rfl)]
  simp
  omega
/-- a user key, a number and a kind that make an internal key -/
def Right (l : List Int) (a b : Int) : Prop := (l.length : Int) ≤ 128 ∧ a ≤ 72057594037927935 ∧ (b = 0 ∨ b = 1)
instance (l : List Int) (a b : Int) : Decidable (Right l a b) := by unfold Right; infer_instance
def key (l : List Int) (a b : Int) : List Int × Int := if Right l a b then (l ++ fixedL (a * 256 + b) 8, 0) else ([], 23)
def split (l : List Int) : List Int × Int × Int × Int :=
  if l.length < 8 ∨ 136 < l.length then ([], 0, 0, 23)
  else if 1 < leVal (l.drop (l.length - 8)) % 256 then ([], 0, 0, 23)
  else (l.take (l.length - 8), leVal (l.drop (l.length - 8)) / 256, leVal (l.drop (l.length - 8)) % 256, 0)
theorem last8 {l : List Int} (hl : Bytes l) (h : 8 ≤ l.length) : 0 ≤ leVal (l.drop (l.length - 8)) ∧ leVal (l.drop (l.length - 8)) < 18446744073709551616 := by
  have := leVal_range (hl.drop (l.length - 8))
  have e : (l.drop (l.length - 8)).length = 8 := by rw [List.length_drop]; omega
  rw [e] at this
  have e : (256 : Nat) ^ 8 = 18446744073709551616 := by decide
  omega
theorem split_bytes {l : List Int} (hl : Bytes l) : Bytes (split l).1 := by
  unfold split
  split
  · intro x hx; cases hx
  · split
    · intro x hx; cases hx
    · exact hl.take _
theorem split_key {l : List Int} {a b : Int} (ha : 0 ≤ a) (h : Right l a b) : split (l ++ fixedL (a * 256 + b) 8) = (l, a, b, 0) := by
  obtain ⟨h1, h2, h3⟩ := h
  have el : (l ++ fixedL (a * 256 + b) 8).length = l.length + 8 := by rw [List.length_append, fixedL_length]
  have ed : (l ++ fixedL (a * 256 + b) 8).drop ((l ++ fixedL (a * 256 + b) 8).length - 8) = fixedL (a * 256 + b) 8 := by
    rw [el, Nat.add_sub_cancel, List.drop_left]
  have et : (l ++ fixedL (a * 256 + b) 8).take ((l ++ fixedL (a * 256 + b) 8).length - 8) = l := by
    rw [el, Nat.add_sub_cancel, List.take_left]
  have ev : leVal (fixedL (a * 256 + b) 8) = a * 256 + b := by
    rw [leVal_fixedL (by omega)]
    have e : (256 : Nat) ^ 8 = 18446744073709551616 := by decide
    rw [e]; omega
  unfold split
  rw [ed, et, el, ev, if_neg (by omega), if_neg (by omega)]
  congr 2
  · omega
  · congr 1; omega
theorem key_bytes {l : List Int} (hl : Bytes l) (a b : Int) : Bytes (key l a b).1 := by
  unfold key
  split
  · exact hl.append (fixedL_bytes _ _)
  · intro x hx; cases hx
theorem key_length {l : List Int} (a b : Int) : (key l a b).1.length ≤ 136 := by
  unfold key
  split
  · rename_i h; have := h.1; simp only [List.length_append, fixedL_length]; omega
  · simp
/-- two rows of numbers, the lesser ahead -/
def cmpB : List Int → List Int → Int
  | [], [] => 0
  | [], _ :: _ => -1
  | _ :: _, [] => 1
  | a :: x, b :: y => if a = b then cmpB x y else if a < b then -1 else 1
theorem cmpB_cases (a b : List Int) : cmpB a b = -1 ∨ cmpB a b = 0 ∨ cmpB a b = 1 := by
  induction a generalizing b with
  | nil => cases b <;> simp [cmpB]
  | cons x a ih =>
    cases b with
    | nil => simp [cmpB]
    | cons y b =>
      simp only [cmpB]
      split
      · exact ih b
      · split <;> simp
theorem cmpB_neg (a b : List Int) : cmpB b a = - cmpB a b := by
  induction a generalizing b with
  | nil => cases b <;> simp [cmpB]
  | cons x a ih =>
    cases b with
    | nil => simp [cmpB]
    | cons y b =>
      simp only [cmpB]
      by_cases h : x = y
      · rw [if_pos h, if_pos h.symm]; exact ih b
      · rw [if_neg h, if_neg (fun e => h e.symm)]
        by_cases h2 : x < y
        · rw [if_neg (by omega), if_pos h2]; rfl
        · rw [if_pos (by omega), if_neg h2]
theorem cmpB_refl (a : List Int) : cmpB a a = 0 := by
  induction a with
  | nil => rfl
  | cons x a ih => simp [cmpB, ih]
theorem cmpB_zero {a b : List Int} (h : cmpB a b = 0) : a = b := by
  induction a generalizing b with
  | nil => cases b with
    | nil => rfl
    | cons y b => simp [cmpB] at h
  | cons x a ih =>
    cases b with
    | nil => simp [cmpB] at h
    | cons y b =>
      simp only [cmpB] at h
      by_cases e : x = y
      · rw [if_pos e] at h; rw [e, ih h]
      · rw [if_neg e] at h; split at h <;> simp at h
theorem cmpB_trans {a b c : List Int} (h1 : cmpB a b ≤ 0) (h2 : cmpB b c ≤ 0) : cmpB a c ≤ 0 ∧ (cmpB a c = 0 → cmpB a b = 0 ∧ cmpB b c = 0) := by
  induction a generalizing b c with
  | nil =>
    cases b with
    | nil => cases c <;> simp [cmpB]
    | cons y b => cases c with
      | nil => simp [cmpB] at h2
      | cons z c => simp [cmpB]
  | cons x a ih =>
    cases b with
    | nil => simp [cmpB] at h1
    | cons y b =>
      cases c with
      | nil => simp [cmpB] at h2
      | cons z c =>
        simp only [cmpB] at h1 h2 ⊢
        by_cases e1 : x = y
        · subst e1
          rw [if_pos rfl] at h1 ⊢
          by_cases e2 : x = z
          · subst e2
            rw [if_pos rfl] at h2
            rw [if_pos rfl]
            refine ⟨(ih h1 h2).1, fun e => ⟨((ih h1 h2).2 e).1, ?_⟩⟩
            rw [if_pos rfl]
            exact ((ih h1 h2).2 e).2
          · rw [if_neg e2] at h2
            rw [if_neg e2]
            by_cases e3 : x < z
            · rw [if_pos e3]; omega
            · rw [if_neg e3] at h2; omega
        · rw [if_neg e1] at h1 ⊢
          by_cases e3 : x < y
          · rw [if_pos e3]
            by_cases e2 : y = z
            · subst e2
              rw [if_neg e1, if_pos e3]; omega
            · rw [if_neg e2] at h2 ⊢
              by_cases e4 : y < z
              · rw [if_neg (by omega), if_pos (by omega)]; omega
              · rw [if_neg e4] at h2; omega
          · rw [if_neg e3] at h1; omega
/-- the order of two keys: the users' keys rise, then the moments and kinds fall -/
def order (a b : List Int) : Int :=
  if cmpB (split a).1 (split b).1 ≠ 0 then cmpB (split a).1 (split b).1
  else if (split a).2.1 > (split b).2.1 ∨ ((split a).2.1 = (split b).2.1 ∧ (split a).2.2.1 > (split b).2.2.1) then -1
  else if (split a).2.1 < (split b).2.1 ∨ ((split a).2.1 = (split b).2.1 ∧ (split a).2.2.1 < (split b).2.2.1) then 1
  else 0
def compareK (a b : List Int) : Int × Int := if (split a).2.2.2 = 0 ∧ (split b).2.2.2 = 0 then (order a b, 0) else (0, 23)
theorem split_length (a : List Int) : (split a).1.length ≤ a.length := by
  unfold split
  repeat' split
  · simp
  · simp
  · simp only [List.length_take]; omega
theorem order_neg (a b : List Int) : order b a = - order a b := by
  unfold order
  rw [cmpB_neg (split a).1 (split b).1]
  have := cmpB_cases (split a).1 (split b).1
  generalize cmpB (split a).1 (split b).1 = m at *
  generalize (split a).2.1 = na
  generalize (split b).2.1 = nb
  generalize (split a).2.2.1 = ka
  generalize (split b).2.2.1 = kb
  by_cases h : m = 0
  · rw [if_neg (c := -m ≠ 0) (by omega), if_neg (c := m ≠ 0) (by omega)]
    by_cases c1 : na > nb ∨ (na = nb ∧ ka > kb)
    · rw [if_pos c1, if_neg (by omega), if_pos (by omega)]; rfl
    · rw [if_neg c1]
      by_cases c2 : na < nb ∨ (na = nb ∧ ka < kb)
      · rw [if_pos c2, if_pos (by omega)]
      · rw [if_neg c2, if_neg (by omega), if_neg (by omega)]; rfl
  · rw [if_pos (c := -m ≠ 0) (by omega), if_pos (c := m ≠ 0) (by omega)]
theorem order_cases (a b : List Int) : order a b = -1 ∨ order a b = 0 ∨ order a b = 1 := by
  unfold order
  have := cmpB_cases (split a).1 (split b).1
  split
  · omega
  · split
    · omega
    · split <;> omega
theorem order_trans {a b c : List Int} (h1 : order a b ≤ 0) (h2 : order b c ≤ 0) : order a c ≤ 0 := by
  unfold order at *
  have p := cmpB_cases (split a).1 (split b).1
  have q := cmpB_cases (split b).1 (split c).1
  have ha : cmpB (split a).1 (split b).1 ≤ 0 := by
    split at h1
    · exact h1
    · omega
  have hb : cmpB (split b).1 (split c).1 ≤ 0 := by
    split at h2
    · exact h2
    · omega
  obtain ⟨t1, t2⟩ := cmpB_trans ha hb
  by_cases h : cmpB (split a).1 (split c).1 = 0
  · obtain ⟨e1, e2⟩ := t2 h
    rw [if_neg (by omega)] at h1 h2
    rw [if_neg (by omega)]
    split
    · omega
    · split
      · split at h1
        · split at h2
          · omega
          · split at h2
            · omega
            · omega
        · split at h1
          · omega
          · split at h2
            · omega
            · split at h2 <;> omega
      · omega
  · rw [if_pos h]; exact t1
theorem order_zero {a b : List Int} (ha : Bytes a) (hb : Bytes b) (ea : (split a).2.2.2 = 0) (eb : (split b).2.2.2 = 0) (h : order a b = 0) : a = b := by
  have key : ∀ {l : List Int}, Bytes l → (split l).2.2.2 = 0 → 8 ≤ l.length ∧ (split l).1 = l.take (l.length - 8) ∧ (split l).2.1 = leVal (l.drop (l.length - 8)) / 256 ∧ (split l).2.2.1 = leVal (l.drop (l.length - 8)) % 256 := by
    intro l hl e
    unfold split at *
    split at e
    · simp at e
    · split at e
      · simp at e
      · rename_i h1 h2
        rw [if_neg h1, if_neg h2]
        exact ⟨by omega, rfl, rfl, rfl⟩
  obtain ⟨a1, a2, a3, a4⟩ := key ha ea
  obtain ⟨b1, b2, b3, b4⟩ := key hb eb
  unfold order at h
  have hc : cmpB (split a).1 (split b).1 = 0 := by
    split at h
    · exact h
    · omega
  rw [if_neg (by omega)] at h
  have hu := cmpB_zero hc
  have hv : leVal (a.drop (a.length - 8)) = leVal (b.drop (b.length - 8)) := by
    split at h
    · omega
    · split at h
      · omega
      · omega
  have inj : ∀ {x y : List Int}, Bytes x → Bytes y → x.length = y.length → leVal x = leVal y → x = y := by
    intro x
    induction x with
    | nil => intro y _ _ h _; exact (List.eq_nil_of_length_eq_zero h.symm).symm
    | cons p x ih =>
      intro y hx hy h e
      cases y with
      | nil => simp at h
      | cons q y =>
        have hp := hx p List.mem_cons_self
        have hq := hy q List.mem_cons_self
        simp only [leVal] at e
        have e1 : p = q := by omega
        have e2 := ih (fun z hz => hx z (List.mem_cons_of_mem _ hz)) (fun z hz => hy z (List.mem_cons_of_mem _ hz)) (by simpa using h) (by omega)
        rw [e1, e2]
  have hd := inj (ha.drop (a.length - 8)) (hb.drop (b.length - 8)) (by simp only [List.length_drop]; omega) hv
  rw [a2, b2] at hu
  rw [← List.take_append_drop (a.length - 8) a, ← List.take_append_drop (b.length - 8) b, hu, hd]
end Go.Proofs.YtbcfagackcnpkaaDoor.Ev
/- What the lowest functions tell of data. -/
namespace Go.Proofs.YtbcfagackcnpkaaDoor.Ev
open Go Go.RowKit
set_option linter.unusedVariables false
noncomputable section
abbrev u64 : Ty := .it .u64
abbrev i64 : Ty := .it .i64
abbrev u32 : Ty := .it .u32
abbrev byl : Ty := .li (.it .u8)
abbrev KV : Type := List Int × List Int × Unit
abbrev kv : Ty := .co byl (.co byl .ue)
abbrev kvl : Ty := .li kv
abbrev vK (l : List KV) : V := .d kvl l
def kvd : KV := ([], [], ())
theorem dflt_kv : Ty.dflt (.co (.li (.it .u8)) (.co (.li (.it .u8)) .ue)) = kvd := rfl
abbrev vI (n : Int) : V := .d i64 n
abbrev vU (n : Int) : V := .d u64 n
abbrev vW (n : Int) : V := .d u32 n
abbrev vB (l : List Int) : V := .d byl l
abbrev vO (o : Nat) (l : List Int) : V := .own o by8 l
abbrev vT (p : Prop) [Decidable p] : V := .d .bo (tst p)
def putSp : Sp := ⟨[u64], fun _ => true, fun x => .own 0 by8 (putS (Int.toNat x.1))⟩
def fixedSp : Sp := ⟨[u64, i64], fun x => tst ((0 : Int) ≤ x.2.1) && tst ((x.2.1 : Int) ≤ 8), fun x => .own 0 by8 (fixedL x.1 (Int.toNat x.2.1))⟩
def fixed4Sp : Sp := ⟨[u32], fun _ => true, fun x => .own 0 by8 (fixedL x.1 4)⟩
def fixed8Sp : Sp := ⟨[u64], fun _ => true, fun x => .own 0 by8 (fixedL x.1 8)⟩
def unfixedS (l : List Int) (n : Nat) : Int × Int := if l.length < n then (0, 20) else (leVal (l.take n), 0)
def unfixedSp : Sp := ⟨[byl, i64], fun x => tst ((0 : Int) ≤ x.2.1) && tst ((x.2.1 : Int) ≤ 8), fun x => .tup [.d u64 (unfixedS x.1 (Int.toNat x.2.1)).1, .d i64 (unfixedS x.1 (Int.toNat x.2.1)).2]⟩
def unfixed4Sp : Sp := ⟨[byl], fun _ => true, fun x => .tup [.d u32 (unfixedS x.1 4).1, .d i64 (unfixedS x.1 4).2]⟩
def unfixed8Sp : Sp := ⟨[byl], fun _ => true, fun x => .tup [.d u64 (unfixedS x.1 8).1, .d i64 (unfixedS x.1 8).2]⟩
def takeSp : Sp := ⟨[byl], fun _ => true, fun x => .tup [vU (takeS x.1 0 0).1, vI (takeS x.1 0 0).2.1, vI (takeS x.1 0 0).2.2]⟩
def rtakePre (l : List Int) (a : Int) : Bool := tst (0 ≤ a) && tst (a ≤ l.length)
def rtakeSp : Sp := ⟨[byl, i64], fun x => rtakePre x.1 x.2.1, fun x => .tup [vU (takeS (List.drop (Int.toNat x.2.1) x.1) 0 0).1, vI (takeS (List.drop (Int.toNat x.2.1) x.1) 0 0).2.1, vI (takeS (List.drop (Int.toNat x.2.1) x.1) 0 0).2.2]⟩
def rightSp : Sp := ⟨[byl, u64, i64], fun _ => true, fun x => .d .bo (tst (Right x.1 x.2.1 x.2.2.1))⟩
def cloneSp : Sp := ⟨[byl], fun _ => true, fun x => .own 0 by8 x.1⟩
def keySp : Sp := ⟨[byl, u64, i64], fun _ => true, fun x => .tup [.own 0 by8 (key x.1 x.2.1 x.2.2.1).1, .d i64 (key x.1 x.2.1 x.2.2.1).2]⟩
def splitSp : Sp := ⟨[byl], fun _ => true, fun x => .tup [.own 0 by8 (split x.1).1, .d u64 (split x.1).2.1, .d i64 (split x.1).2.2.1, .d i64 (split x.1).2.2.2]⟩
def cmpBSp : Sp := ⟨[byl, byl], fun _ => true, fun x => .d i64 (cmpB x.1 x.2.1)⟩
def cmpI (a b : Int) : Int := if a < b then -1 else if a > b then 1 else 0
def cmpUSp : Sp := ⟨[u64, u64], fun _ => true, fun x => .d i64 (cmpI x.1 x.2.1)⟩
def cmpISp : Sp := ⟨[i64, i64], fun _ => true, fun x => .d i64 (cmpI x.1 x.2.1)⟩
def nanUSp : Sp := ⟨[u64], fun _ => true, fun x => .d .bo false⟩
def nanISp : Sp := ⟨[i64], fun _ => true, fun x => .d .bo false⟩
def compareSp : Sp := ⟨[byl, byl], fun _ => true, fun x => .tup [.d i64 (compareK x.1 x.2.1).1, .d i64 (compareK x.1 x.2.1).2]⟩
def equalSp : Sp := ⟨[byl, byl], fun _ => true, fun x => .d .bo (tst ((x.1 : List Int) = x.2.1))⟩
/- the document's -/
def rfixedSp : Sp := fixedSp
def runfixedPre (l : List Int) (a m : Int) : Bool := tst (0 ≤ a) && tst (0 ≤ m) && tst (m ≤ 8) && tst (a + m ≤ l.length)
def runfixedSp : Sp := ⟨[byl, i64, i64], fun x => runfixedPre x.1 x.2.1 x.2.2.1, fun x => .d u64 (leVal ((List.drop (Int.toNat x.2.1) x.1).take (Int.toNat x.2.2.1)))⟩
def rsplitSp : Sp := ⟨[byl], fun _ => true, fun x => .tup [.d byl (split x.1).1, .d u64 (split x.1).2.1, .d i64 (split x.1).2.2.1, .d i64 (split x.1).2.2.2]⟩
def isSp : Sp := ⟨[byl], fun _ => true, fun x => .d .bo (tst ((split x.1).2.2.2 = 0))⟩
def orderSp : Sp := ⟨[byl, byl], fun _ => true, fun x => .d i64 (order x.1 x.2.1)⟩
end
end Go.Proofs.YtbcfagackcnpkaaDoor.Ev
/- Numbers laid down, seven bits a byte: by the program and by the document. -/
namespace Go.Proofs.YtbcfagackcnpkaaDoor.Ev
open Go Go.RowKit
set_option linter.unusedVariables false
set_option maxRecDepth 100000
theorem wrap_or {a : Int} (h : 0 ≤ a) : bits .or .u8 (IntKind.u8.wrap a) 128 = ((a.toNat % 128 + 128 : Nat) : Int) := by
  rw [wrapU8, or128 (by omega)]; omega
theorem shr7 {a : Int} (h : 0 ≤ a) : a.fdiv (2 ^ min (Int.toNat 7) IntKind.u64.bits) = a / 128 := Int.fdiv_eq_ediv_of_nonneg _ (by decide)
theorem put_big {a : Int} (h : a ≥ 128) : putS a.toNat = ((a.toNat % 128 + 128 : Nat) : Int) :: putS (a / 128).toNat := by
  rw [putS, dif_neg (by omega)]
  have : a.toNat / 128 = (a / 128).toNat := by omega
  rw [this]
theorem put_small {a : Int} (h0 : 0 ≤ a) (h : ¬ a ≥ 128) : putS a.toNat = [a] := by
  rw [putS, dif_pos (by omega), Int.toNat_of_nonneg h0]
end Go.Proofs.YtbcfagackcnpkaaDoor.Ev
/- Numbers of fixed width, laid down by the program. -/
namespace Go.Proofs.YtbcfagackcnpkaaDoor.Ev
open Go Go.RowKit
set_option linter.unusedVariables false
set_option maxRecDepth 100000
theorem wrapI64 {n : Int} (h : -9223372036854775808 ≤ n) (h' : n < 9223372036854775808) : IntKind.i64.wrap n = n := by
  simp only [IntKind.wrap, IntKind.bits, IntKind.signed, show (2 : Int) ^ 64 = 18446744073709551616 from by decide, show (2 : Int) ^ (64 - 1) = 9223372036854775808 from by decide, Bool.true_and, decide_eq_true_eq]
  by_cases c : n % 18446744073709551616 ≥ 9223372036854775808
  · rw [if_pos c]; omega
  · rw [if_neg c]; omega
theorem shr8 {a : Int} {i : Nat} (hi : i ≤ 8) : a.fdiv (2 ^ min (IntKind.i64.wrap (8 * (i : Int))).toNat IntKind.u64.bits) = a / ((256 ^ i : Nat) : Int) := by
  rw [wrapI64 (by omega) (by omega)]
  have e1 : min (8 * (i : Int)).toNat IntKind.u64.bits = 8 * i := by simp only [IntKind.bits]; omega
  rw [e1]
  have e2 : (2 : Int) ^ (8 * i) = ((256 ^ i : Nat) : Int) := by
    rw [Int.natCast_pow, show ((256 : Nat) : Int) = 2 ^ 8 from by decide, ← Int.pow_mul]
  rw [e2]
  exact Int.fdiv_eq_ediv_of_nonneg _ (Int.natCast_nonneg _)
abbrev fixedC : Ctx := ⟨rows, (fun | 0 => ([0, 5, 7, 8], [5]) | 1 => ([], [0, 5, 7, 8]) | _ => ([], []))⟩
theorem fixed_ev (tab : Tab) (n : Int) (m F : Nat) (hm : m ≤ 8) (hF : m < F) : evFn fixedC tab noCall F F39 [.d (.it .u64) n, .d (.it .i64) (m : Int)] [] (fun v S => exportF fixedC F39.resultTypes.toList v S) = some (.own 0 (.it .u8) (fixedL n m)) := by
  conv => lhs; whnf
  refine loop_rule (α := Nat) (fun i => i ≤ m) (fun i => m - i)
    (fun i => [.d (.it .u64) n, .bad, .bad, .bad, .bad, .own 1 (.it .u8) (fixedL n i), .bad, .d (.it .i64) (m : Int), .d (.it .i64) (i : Int), .bad, .bad, .bad, .bad, .bad, .bad, .bad, .bad, .bad, .bad, .bad, .bad]) (fun i => [.fam 0, .fam (List.length (fixedL n i))])
    (fun i => some (V.own 0 (.it .u8) (fixedL n m))) ?_ F 0 (Nat.zero_le _) (by omega)
  intro i K hi hK
  have hl := fixedL_length n i
  conv => lhs; whnf
  by_cases ha : (i : Int) < (m : Int)
  · refine br_go (tst_t ha) ?_
    conv => lhs; whnf
    refine br_go (tst_t (by rw [wrapI64 (by omega) (by omega)]; omega)) ?_
    conv => lhs; whnf
    refine br_go (band (band rfl (tst_t rfl)) (tst_t ?_)) ?_
    · show (List.length (fixedL n i) + 1) * 1 ≤ 140737488355328
      omega
    conv => lhs; whnf
    have e1 : fixedL n i ++ [IntKind.u8.wrap (n.fdiv (2 ^ min (IntKind.i64.wrap (8 * (i : Int))).toNat IntKind.u64.bits))] = fixedL n (i + 1) := by
      rw [shr8 (by omega), wrapU8]; rfl
    have e2 : IntKind.i64.wrap ((i : Int) + 1) = ((i + 1 : Nat) : Int) := by rw [wrapI64 (by omega) (by omega)]; rfl
    have := hK (i + 1) (by omega) (by omega)
    rw [← e1, ← e2] at this
    exact this
  · refine br_no (tst_f ha) ?_
    have : i = m := by omega
    subst this
    conv => lhs; whnf
    refine br_go (tst_t rfl) ?_
    rfl
abbrev rfixedC : Ctx := ⟨rows, (fun | 0 => ([0, 1, 5, 6], [5]) | 1 => ([], [0, 1, 5, 6]) | _ => ([], []))⟩
theorem rfixed_ev (tab : Tab) (n : Int) (m F : Nat) (hm : m ≤ 8) (hF : m < F) : evFn rfixedC tab noCall F F40 [.d (.it .u64) n, .d (.it .i64) (m : Int)] [] (fun v S => exportF rfixedC F40.resultTypes.toList v S) = some (.own 0 (.it .u8) (fixedL n m)) := by
  conv => lhs; whnf
  refine loop_rule (α := Nat) (fun i => i ≤ m) (fun i => m - i)
    (fun i => [.d (.it .u64) n, .d (.it .i64) (m : Int), .bad, .bad, .bad, .own 1 (.it .u8) (fixedL n i), .d (.it .i64) (i : Int), .bad, .bad, .bad, .bad, .bad, .bad, .bad, .bad, .bad, .bad, .bad, .bad, .bad, .bad]) (fun i => [.fam 0, .fam (List.length (fixedL n i))])
    (fun i => some (V.own 0 (.it .u8) (fixedL n m))) ?_ F 0 (Nat.zero_le _) (by omega)
  intro i K hi hK
  have hl := fixedL_length n i
  conv => lhs; whnf
  by_cases ha : (i : Int) < (m : Int)
  · refine br_go (tst_t ha) ?_
    conv => lhs; whnf
    refine br_go (tst_t (by rw [wrapI64 (by omega) (by omega)]; omega)) ?_
    conv => lhs; whnf
    refine br_go (band (band rfl (tst_t rfl)) (tst_t ?_)) ?_
    · show (List.length (fixedL n i) + 1) * 1 ≤ 140737488355328
      omega
    conv => lhs; whnf
    have e1 : fixedL n i ++ [IntKind.u8.wrap (n.fdiv (2 ^ min (IntKind.i64.wrap (8 * (i : Int))).toNat IntKind.u64.bits))] = fixedL n (i + 1) := by
      rw [shr8 (by omega), wrapU8]; rfl
    have e2 : IntKind.i64.wrap ((i : Int) + 1) = ((i + 1 : Nat) : Int) := by rw [wrapI64 (by omega) (by omega)]; rfl
    have := hK (i + 1) (by omega) (by omega)
    rw [← e1, ← e2] at this
    exact this
  · refine br_no (tst_f ha) ?_
    have : i = m := by omega
    subst this
    conv => lhs; whnf
    refine br_go (tst_t rfl) ?_
    rfl
end Go.Proofs.YtbcfagackcnpkaaDoor.Ev
/- Numbers of fixed width, read by the program. -/
namespace Go.Proofs.YtbcfagackcnpkaaDoor.Ev
open Go Go.RowKit
set_option linter.unusedVariables false
set_option maxRecDepth 100000
theorem shl8 {x : Int} {i : Nat} (hi : i ≤ 7) (hx : 0 ≤ x ∧ x < 256) : IntKind.u64.wrap (IntKind.u64.wrap x * 2 ^ min (IntKind.i64.wrap (8 * (i : Int))).toNat IntKind.u64.bits) = x * ((256 ^ i : Nat) : Int) := by
  rw [wrapI64 (by omega) (by omega), wrapU64_id hx.1 (by omega)]
  have e1 : min (8 * (i : Int)).toNat IntKind.u64.bits = 8 * i := by simp only [IntKind.bits]; omega
  have e2 : (2 : Int) ^ (8 * i) = ((256 ^ i : Nat) : Int) := by
    rw [Int.natCast_pow, show ((256 : Nat) : Int) = 2 ^ 8 from by decide, ← Int.pow_mul]
  rw [e1, e2, wrapU64_id]
  · exact Int.mul_nonneg hx.1 (Int.natCast_nonneg _)
  · have p : (256 : Nat) ^ i ≤ 256 ^ 7 := Nat.pow_le_pow_right (by decide) hi
    have p' : ((256 ^ i : Nat) : Int) ≤ 72057594037927936 := by
      have : (256 : Nat) ^ 7 = 72057594037927936 := by decide
      omega
    calc x * ((256 ^ i : Nat) : Int) ≤ 255 * ((256 ^ i : Nat) : Int) := Int.mul_le_mul_of_nonneg_right (by omega) (Int.natCast_nonneg _)
      _ < 18446744073709551616 := by omega
abbrev unfixedC : Ctx := ⟨rows, (fun | 0 => ([0, 6, 12, 13], [6]) | 1 => ([], [0, 6, 12, 13]) | _ => ([], []))⟩
theorem unfixed_ev (tab : Tab) (l : List Int) (hb : Bytes l) (m F : Nat) (hm : m ≤ 8) (hml : m ≤ l.length) (hF : m < F) : evFn unfixedC tab noCall F F48 [.d (.li (.it .u8)) l, .d (.it .i64) (m : Int)] [] (fun v S => exportF unfixedC F48.resultTypes.toList v S) = some (.tup [.d (.it .u64) (leVal (l.take m)), .d (.it .i64) 0]) := by
  conv => lhs; whnf
  refine br_no (tst_f (by omega)) ?_
  conv => lhs; whnf
  refine loop_rule (α := Nat) (fun i => i ≤ m) (fun i => m - i)
    (fun i => [.d (.li (.it .u8)) l, .bad, .bad, .bad, .bad, .bad, .d (.it .u64) (leVal (l.take i)), .bad, .bad, .bad, .bad, .bad, .d (.it .i64) (m : Int), .d (.it .i64) (i : Int), .bad, .bad, .bad, .bad, .bad, .bad, .bad, .bad, .bad, .bad, .bad, .bad, .bad, .bad]) (fun i => [.gone])
    (fun i => some (V.tup [.d (.it .u64) (leVal (l.take m)), .d (.it .i64) 0])) ?_ F 0 (Nat.zero_le _) (by omega)
  intro i K hi hK
  conv => lhs; whnf
  by_cases ha : (i : Int) < (m : Int)
  · refine br_go (tst_t ha) ?_
    conv => lhs; whnf
    refine br_go (band (tst_t (show (0 : Int) ≤ (i : Int) by omega)) (tst_t (show (i : Int) < ((List.length l : Nat) : Int) by omega))) ?_
    conv => lhs; whnf
    refine br_go (tst_t (by rw [wrapI64 (by omega) (by omega)]; omega)) ?_
    conv => lhs; whnf
    have hx := rd_bytes hb (i : Int)
    have hr := leVal_range (hb.take i)
    have hlen : (l.take i).length = i := by rw [List.length_take]; omega
    rw [hlen] at hr
    have p : (256 : Nat) ^ i ≤ 256 ^ 7 := Nat.pow_le_pow_right (by decide) (by omega)
    have p' : ((256 ^ i : Nat) : Int) ≤ 72057594037927936 := by
      have : (256 : Nat) ^ 7 = 72057594037927936 := by decide
      omega
    have e1 : bits .or .u64 (leVal (l.take i)) (IntKind.u64.wrap (IntKind.u64.wrap (rd l (i : Int)) * 2 ^ min (IntKind.i64.wrap (8 * (i : Int))).toNat IntKind.u64.bits)) = leVal (l.take (i + 1)) := by
      rw [shl8 (by omega) hx, bits_or64 (by omega) hr ⟨hx.1, ?_⟩, take_succ' (by omega), leVal_append, hlen]
      · simp [leVal, Int.mul_comm]
      · calc rd l (i : Int) * ((256 ^ i : Nat) : Int) ≤ 255 * ((256 ^ i : Nat) : Int) := Int.mul_le_mul_of_nonneg_right (by omega) (Int.natCast_nonneg _)
          _ < 18446744073709551616 := by omega
    have e2 : IntKind.i64.wrap ((i : Int) + 1) = ((i + 1 : Nat) : Int) := by rw [wrapI64 (by omega) (by omega)]; rfl
    have := hK (i + 1) (by omega) (by omega)
    rw [← e1, ← e2] at this
    exact this
  · refine br_no (tst_f ha) ?_
    have : i = m := by omega
    subst this
    rfl
end Go.Proofs.YtbcfagackcnpkaaDoor.Ev
/- Numbers of fixed width. -/
namespace Go.Proofs.YtbcfagackcnpkaaDoor.Ev
open Go Go.RowKit
set_option linter.unusedVariables false
set_option maxRecDepth 100000
set_option maxHeartbeats 8000000
theorem fixed_ok (T : Tab) : fixedSp.Ok T fixedC F39 := by
  rintro ⟨(n : Int), (m : Int), _⟩ hf hp
  have hp : (0 : Int) ≤ m ∧ (m : Int) ≤ 8 := by simpa only [fixedSp, Bool.and_eq_true, tst_iff] using hp
  have := fixed_ev T n (Int.toNat m) (Int.toNat m + 1) (Int.toNat_le.2 hp.2) (Nat.lt_succ_self _)
  rw [Int.toNat_of_nonneg hp.1] at this
  exact ⟨_, 0, this⟩
abbrev fixed4C : Ctx := ⟨rows, (fun  | _ => ([], []))⟩
theorem fixed4_ok (T : Tab) (h1 : T 39 = fixedSp.ent) : fixed4Sp.Ok T fixed4C F34 := by
  rw [on_top h1]
  rintro ⟨(n : Int), _⟩ hf _
  have := fits_u32.1 hf.1
  refine ⟨1, 0, ?_⟩
  conv => lhs; whnf
  try simp (maxSteps := 2000000) (disch := omega) only [nI64, nU64, nU32, nU8, nSubL, nAddL, nAdd, nSub, nDiv, nMod, nZ, nLit, row_3, row_4, row_5, row_16, row_22, row_85, Ty.den, dflt_it, dflt_li, dflt_kv, Int.toNat_natCast, List.take_length, List.drop_zero]
  refine br_go ?_ ?_
  focus (((repeat' first | exact rfl | exact ordB_st rfl | exact ordB_of rfl | apply band | apply tst_t | apply nt_t)  <;> (try dsimp only [Ty.den, dflt_kv]) <;> (try simp only [List.length_append, List.length_cons, List.length_nil, List.length_take, List.length_drop, List.length_replicate]) <;> (first | trivial | assumption | omega | (change (_ : Int) ≤ _; omega) | (change (_ : Int) < _; omega) | (change (_ : Nat) * 1 ≤ _; omega) | (change (_ : Nat) * 48 ≤ _; omega) | (change (_ : Nat) * 24 ≤ _; omega) | (change (_ : Nat) * 8 ≤ _; omega) | (change (_ : Nat) * 64 ≤ _; omega) | decide)); done)
  conv => lhs; whnf
  try simp (maxSteps := 2000000) (disch := omega) only [nI64, nU64, nU32, nU8, nSubL, nAddL, nAdd, nSub, nDiv, nMod, nZ, nLit, row_3, row_4, row_5, row_16, row_22, row_85, Ty.den, dflt_it, dflt_li, dflt_kv, Int.toNat_natCast, List.take_length, List.drop_zero]
  refine br_go ?_ ?_
  focus (((repeat' first | exact rfl | exact ordB_st rfl | exact ordB_of rfl | apply band | apply tst_t | apply nt_t)  <;> (try dsimp only [Ty.den, dflt_kv]) <;> (try simp only [List.length_append, List.length_cons, List.length_nil, List.length_take, List.length_drop, List.length_replicate]) <;> (first | trivial | assumption | omega | (change (_ : Int) ≤ _; omega) | (change (_ : Int) < _; omega) | (change (_ : Nat) * 1 ≤ _; omega) | (change (_ : Nat) * 48 ≤ _; omega) | (change (_ : Nat) * 24 ≤ _; omega) | (change (_ : Nat) * 8 ≤ _; omega) | (change (_ : Nat) * 64 ≤ _; omega) | decide)); done)
  conv => lhs; whnf
  try simp (maxSteps := 2000000) (disch := omega) only [nI64, nU64, nU32, nU8, nSubL, nAddL, nAdd, nSub, nDiv, nMod, nZ, nLit, row_3, row_4, row_5, row_16, row_22, row_85, Ty.den, dflt_it, dflt_li, dflt_kv, Int.toNat_natCast, List.take_length, List.drop_zero]
  rfl
end Go.Proofs.YtbcfagackcnpkaaDoor.Ev
/- Keys and their parts, by the program. -/
namespace Go.Proofs.YtbcfagackcnpkaaDoor.Ev
open Go Go.RowKit
set_option linter.unusedVariables false
set_option linter.unusedSimpArgs false
set_option maxRecDepth 100000
set_option maxHeartbeats 8000000
theorem bytes_of {l : List Int} (h : Fits byl l) : Bytes l := fun x hx => by have := h.2 x hx; have := fits_u8.1 this; omega
theorem unfixed_ok (T : Tab) : unfixedSp.Ok T unfixedC F48 := by
  rintro ⟨(l : List Int), (m : Int), _⟩ hf hp
  have hp : (0 : Int) ≤ m ∧ (m : Int) ≤ 8 := by simpa only [unfixedSp, Bool.and_eq_true, tst_iff] using hp
  have hb := bytes_of hf.1
  by_cases h : l.length < Int.toNat m
  · have e : unfixedS l (Int.toNat m) = (0, 20) := if_pos h
    refine ⟨1, 0, ?_⟩
    show _ = some (unfixedSp.res (l, m, ()))
    simp only [unfixedSp, e]
    show evFn _ _ _ _ _ [.d byl l, .d i64 m] [] _ = _
    conv => lhs; whnf
    try simp (maxSteps := 2000000) (disch := omega) only [nI64, nU64, nU32, nU8, nSubL, nAddL, nAdd, nSub, nDiv, nMod, nZ, nLit, row_3, row_4, row_5, row_16, row_22, row_85, Ty.den, dflt_it, dflt_li, dflt_kv, Int.toNat_natCast, List.take_length, List.drop_zero]
    refine br_go (tst_t ?_) ?_
    · show ((List.length l : Nat) : Int) < m; omega
    rfl
  · have := unfixed_ev T l hb (Int.toNat m) (Int.toNat m + 1) (Int.toNat_le.2 hp.2) (by omega) (Nat.lt_succ_self _)
    rw [Int.toNat_of_nonneg hp.1] at this
    have e : unfixedS l (Int.toNat m) = (leVal (l.take (Int.toNat m)), 0) := if_neg h
    refine ⟨Int.toNat m + 1, 0, ?_⟩
    show _ = some (unfixedSp.res (l, m, ()))
    simp only [unfixedSp, e]
    exact this
abbrev unfixed4C : Ctx := ⟨rows, (fun  | _ => ([], []))⟩
theorem unfixedS_range {l : List Int} (hb : Bytes l) (n : Nat) : 0 ≤ (unfixedS l n).1 ∧ (unfixedS l n).1 < ((256 ^ n : Nat) : Int) := by
  unfold unfixedS
  split
  · have : 0 < 256 ^ n := Nat.pow_pos (by omega)
    constructor
    · show (0 : Int) ≤ 0; omega
    · show (0 : Int) < _; omega
  · have := leVal_range (hb.take n)
    rw [List.length_take, Nat.min_eq_left (by omega)] at this
    exact this
theorem unfixed4_ok (T : Tab) (h1 : T 48 = unfixedSp.ent) : unfixed4Sp.Ok T unfixed4C F38 := by
  rw [on_top h1]
  rintro ⟨(l : List Int), _⟩ hf _
  have := unfixedS_range (bytes_of hf.1) 4
  obtain ⟨F, hF⟩ : ∃ F : Nat, F = 1 := ⟨_, rfl⟩
  refine ⟨F, 0, ?_⟩
  show evFn _ _ _ _ _ [.d byl l] [] _ = some (.tup [.d u32 (unfixedS l 4).1, .d i64 (unfixedS l 4).2] : V)
  conv => lhs; whnf
  try simp (maxSteps := 2000000) (disch := omega) only [nI64, nU64, nU32, nU8, nSubL, nAddL, nAdd, nSub, nDiv, nMod, nZ, nLit, row_3, row_4, row_5, row_16, row_22, row_85, Ty.den, dflt_it, dflt_li, dflt_kv, Int.toNat_natCast, List.take_length, List.drop_zero]
  refine br_go ?_ ?_
  focus (((repeat' first | exact rfl | exact ordB_st rfl | exact ordB_of rfl | apply band | apply tst_t | apply nt_t)  <;> (try dsimp only [Ty.den, dflt_kv]) <;> (try simp only [List.length_append, List.length_cons, List.length_nil, List.length_take, List.length_drop, List.length_replicate]) <;> (first | trivial | assumption | omega | (change (_ : Int) ≤ _; omega) | (change (_ : Int) < _; omega) | (change (_ : Nat) * 1 ≤ _; omega) | (change (_ : Nat) * 48 ≤ _; omega) | (change (_ : Nat) * 24 ≤ _; omega) | (change (_ : Nat) * 8 ≤ _; omega) | (change (_ : Nat) * 64 ≤ _; omega) | decide)); done)
  conv => lhs; whnf
  try simp (maxSteps := 2000000) (disch := omega) only [nI64, nU64, nU32, nU8, nSubL, nAddL, nAdd, nSub, nDiv, nMod, nZ, nLit, row_3, row_4, row_5, row_16, row_22, row_85, Ty.den, dflt_it, dflt_li, dflt_kv, Int.toNat_natCast, List.take_length, List.drop_zero]
  have e : IntKind.u32.wrap (unfixedS l 4).1 = (unfixedS l 4).1 := by
    rw [wrapU32]
    have e : (256 : Nat) ^ 4 = 4294967296 := by decide
    dsimp only at this
    omega
  have e2 : some (V.tup [.d u32 (IntKind.u32.wrap (unfixedS l 4).1), .d i64 (unfixedS l 4).2]) = some (V.tup [.d u32 (unfixedS l 4).1, .d i64 (unfixedS l 4).2]) := by rw [e]
  exact e2
end Go.Proofs.YtbcfagackcnpkaaDoor.Ev
/- The sum CRC-32C, by the program and by the document: one fold over the bytes. -/
namespace Go.Proofs.YtbcfagackcnpkaaDoor.Ev
open Go Go.RowKit
set_option linter.unusedVariables false
set_option linter.unusedSimpArgs false
set_option maxRecDepth 100000
set_option maxHeartbeats 8000000
def cpoly : BitVec 32 := 2197175160#32
/-- one bit's cstep -/
def cstep (b : BitVec 32) : BitVec 32 := (b >>> 1) ^^^ (if b.getLsbD 0 then cpoly else 0#32)
def csteps : Nat → BitVec 32 → BitVec 32
  | 0, b => b
  | n + 1, b => csteps n (cstep b)
/-- all bytes -/
def crcF (c : BitVec 32) : List Int → BitVec 32
  | [] => c
  | x :: l => crcF (csteps 8 (c ^^^ BitVec.ofInt 32 x)) l
def crc (l : List Int) : BitVec 32 := BitVec.allOnes 32 ^^^ crcF (BitVec.allOnes 32) l

theorem cstep_xor (a b : BitVec 32) : cstep (a ^^^ b) = cstep a ^^^ cstep b := by
  unfold cstep
  rw [BitVec.ushiftRight_xor_distrib, BitVec.getLsbD_xor]
  have e : ∀ p q r : BitVec 32, (p ^^^ r) ^^^ (q ^^^ r) = p ^^^ q := by
    intro p q r
    refine BitVec.eq_of_getLsbD_eq fun i _ => ?_
    simp only [BitVec.getLsbD_xor]
    cases p.getLsbD i <;> cases q.getLsbD i <;> cases r.getLsbD i <;> rfl
  cases a.getLsbD 0 <;> cases b.getLsbD 0 <;> simp [e] <;> ac_rfl
theorem csteps_xor (n : Nat) (a b : BitVec 32) : csteps n (a ^^^ b) = csteps n a ^^^ csteps n b := by
  induction n generalizing a b with
  | zero => rfl
  | succ n ih => simp only [csteps, cstep_xor, ih]
theorem cstep_inj {a b : BitVec 32} (h : cstep a = cstep b) : a = b := by
  have top : ∀ x : BitVec 32, (cstep x).getLsbD 31 = x.getLsbD 0 := by
    intro x
    unfold cstep
    rw [BitVec.getLsbD_xor, BitVec.getLsbD_ushiftRight]
    cases x.getLsbD 0 <;> simp [cpoly]
  have h0 : a.getLsbD 0 = b.getLsbD 0 := by rw [← top a, ← top b, h]
  have hs : a >>> 1 = b >>> 1 := by
    unfold cstep at h
    rw [h0] at h
    have := congrArg (· ^^^ (if b.getLsbD 0 then cpoly else 0#32)) h
    simpa [BitVec.xor_assoc] using this
  refine BitVec.eq_of_getLsbD_eq fun i hi => ?_
  cases i with
  | zero => exact h0
  | succ i =>
    have := congrArg (·.getLsbD i) hs
    simpa [BitVec.getLsbD_ushiftRight, Nat.add_comm] using this
theorem csteps_inj {n : Nat} {a b : BitVec 32} (h : csteps n a = csteps n b) : a = b := by
  induction n generalizing a b with
  | zero => exact h
  | succ n ih => exact cstep_inj (ih h)
theorem crcF_inj {l : List Int} {a b : BitVec 32} (h : crcF a l = crcF b l) : a = b := by
  induction l generalizing a b with
  | nil => exact h
  | cons x l ih =>
    have := csteps_inj (ih h)
    have := congrArg (· ^^^ BitVec.ofInt 32 x) this
    simpa [BitVec.xor_assoc] using this
theorem crcF_append (c : BitVec 32) (a b : List Int) : crcF c (a ++ b) = crcF (crcF c a) b := by
  induction a generalizing c with
  | nil => rfl
  | cons x l ih => exact ih _

theorem step_prog (x : BitVec 32) : Go.bits .xor .u32 ((x.toNat : Int) / 2) (Go.bits .and .u32 2197175160 ((-(Go.bits .and .u32 (x.toNat : Int) 1)) % 4294967296)) = ((cstep x).toNat : Int) := by
  rw [bits_xor32, bits_and32, bits_and32]
  have e1 : BitVec.ofInt 32 ((x.toNat : Int) / 2) = x >>> 1 := by
    have : ((x.toNat : Int) / (2 : Int)) = ((x >>> 1).toNat : Int) := by
      rw [BitVec.toNat_ushiftRight, Nat.shiftRight_eq_div_pow]; omega
    rw [this, ofInt_toNat]
  have e2 : BitVec.ofInt 32 (x.toNat : Int) &&& BitVec.ofInt 32 1 = if x.getLsbD 0 then 1#32 else 0#32 := by
    rw [ofInt_toNat]
    refine BitVec.eq_of_getLsbD_eq fun i hi => ?_
    have : BitVec.ofInt 32 1 = 1#32 := by decide
    rw [this]
    cases i with
    | zero => cases h : x.getLsbD 0 <;> simp only [BitVec.getLsbD_and, h] <;> decide
    | succ i => cases h : x.getLsbD 0 <;> simp [BitVec.getLsbD_one]
  rw [e1, e2]
  congr 2
  unfold cstep
  congr 1
  cases x.getLsbD 0 <;> decide
theorem tdiv_nat (n : Nat) : Int.tdiv (n : Int) 2 = ((n / 2 : Nat) : Int) := by
  rw [Int.tdiv_eq_ediv_of_nonneg (Int.natCast_nonneg _)]; omega
theorem tmod_nat (n : Nat) : Int.tmod (n : Int) 2 = ((n % 2 : Nat) : Int) := by
  rw [Int.tmod_eq_emod_of_nonneg (Int.natCast_nonneg _)]; omega
theorem div2 (x : BitVec 32) : BitVec.ofInt 32 (((x.toNat / 2 : Nat) : Int) % 4294967296) = x >>> 1 := by
  have hx := x.isLt
  have : (((x.toNat / 2 : Nat) : Int) % (4294967296 : Int)) = ((x >>> 1).toNat : Int) := by
    rw [BitVec.toNat_ushiftRight, Nat.shiftRight_eq_div_pow]; omega
  rw [this, ofInt_toNat]
theorem lsb_true (x : BitVec 32) : x.getLsbD 0 = true ↔ x.toNat % 2 = 1 := by
  simp [BitVec.getLsbD, Nat.testBit_zero]
theorem step_ref1 {x : BitVec 32} (h : Int.tmod (x.toNat : Int) 2 = 1) : Go.bits .xor .u32 ((Int.tdiv (x.toNat : Int) 2) % 4294967296) 2197175160 = ((cstep x).toNat : Int) := by
  have hx := x.isLt
  rw [tmod_nat] at h
  rw [bits_xor32, tdiv_nat, div2]
  have hb : x.getLsbD 0 = true := by rw [lsb_true]; omega
  unfold cstep
  rw [hb, if_pos rfl]
  rfl
theorem step_ref0 {x : BitVec 32} (h : ¬ Int.tmod (x.toNat : Int) 2 = 1) : (Int.tdiv (x.toNat : Int) 2) % 4294967296 = ((cstep x).toNat : Int) := by
  have hx := x.isLt
  rw [tmod_nat] at h
  have hb : x.getLsbD 0 = false := by
    rw [← Bool.not_eq_true, lsb_true]; omega
  unfold cstep
  rw [hb, if_neg (by decide), BitVec.xor_zero, BitVec.toNat_ushiftRight, Nat.shiftRight_eq_div_pow, tdiv_nat]
  omega

theorem xor_byte {c : BitVec 32} {x : Int} (h : 0 ≤ x ∧ x < 256) : Go.bits .xor .u32 (c.toNat : Int) (x % 4294967296) = ((c ^^^ BitVec.ofInt 32 x).toNat : Int) := by
  rw [bits_xor32, ofInt_toNat, Int.emod_eq_of_lt h.1 (by omega)]


theorem crc_byte {l : List Int} (hb : Bytes l) {i : Nat} (hi : i < l.length) {c : BitVec 32} : Go.bits .xor .u32 (c.toNat : Int) (IntKind.u32.wrap (l.getD i 0)) = ((c ^^^ BitVec.ofInt 32 (rd l i)).toNat : Int) := by
  rw [wrapU32]
  exact xor_byte (rd_bytes hb i)
theorem crc_shr (x : BitVec 32) : ((x.toNat : Int)).fdiv (2 ^ min 1 IntKind.u32.bits) = (x.toNat : Int) / 2 := by
  have e1 : min 1 IntKind.u32.bits = 1 := by decide
  rw [e1]
  exact Int.fdiv_eq_ediv_of_nonneg _ (by omega)
theorem step_prog' (x : BitVec 32) : Go.bits .xor .u32 (((x.toNat : Int)).fdiv (2 ^ min 1 IntKind.u32.bits)) (Go.bits .and .u32 2197175160 (IntKind.u32.wrap (0 - (Go.bits .and .u32 (x.toNat : Int) 1)))) = ((cstep x).toNat : Int) := by
  rw [← step_prog x, crc_shr, wrapU32, Int.zero_sub]
theorem step_ref1' {x : BitVec 32} (h : (x.toNat : Int) % 2 = 1) : Go.bits .xor .u32 ((x.toNat : Int) / 2) 2197175160 = ((cstep x).toNat : Int) := by
  have hx := x.isLt
  have h2 : Int.tmod (x.toNat : Int) 2 = 1 := by rw [tmod_nat]; omega
  rw [← step_ref1 h2, tdiv_nat, Int.emod_eq_of_lt (by omega) (by omega)]
  congr 1
theorem step_ref0' {x : BitVec 32} (h : ¬ (x.toNat : Int) % 2 = 1) : (x.toNat : Int) / 2 = ((cstep x).toNat : Int) := by
  have hx := x.isLt
  have h2 : ¬ Int.tmod (x.toNat : Int) 2 = 1 := by rw [tmod_nat]; omega
  rw [← step_ref0 h2, tdiv_nat, Int.emod_eq_of_lt (by omega) (by omega)]
  omega
def sumS (l : List Int) : Int := ((crc l).toNat : Int)
theorem sumS_lt (l : List Int) : 0 ≤ sumS l ∧ sumS l < 4294967296 := by
  unfold sumS
  have := (crc l).isLt
  omega
theorem crc_end {l : List Int} {i : Nat} {c : BitVec 32} (hi : l.length ≤ i) (h : crcF c (l.drop i) = crcF (BitVec.allOnes 32) l) : Go.bits .xor .u32 (if IntKind.u32.signed = true then -1 else IntKind.u32.max) (c.toNat : Int) = sumS l := by
  rw [List.drop_eq_nil_of_le hi] at h
  have h : c = crcF (BitVec.allOnes 32) l := h
  rw [h, bits_xor32, ofInt_toNat]
  rfl
def sumSp : Sp := ⟨[byl], fun _ => true, fun x => .d u32 (sumS x.1)⟩
abbrev sumC : Ctx := ⟨rows, (fun | 0 => ([3, 6, 7, 8], [3]) | 1 => ([], [3, 6, 7, 8]) | 2 => ([3, 6, 7, 8, 16], [3, 6, 7, 8]) | 3 => ([], [3, 6, 7, 8, 16]) | _ => ([], []))⟩
theorem sum_ok (T : Tab) : sumSp.Ok T sumC F35 := by
  rintro ⟨(l : List Int), _⟩ hf _
  have hl : l.length ≤ 140737488355328 := (fits_by.1 hf.1).1
  have hb : Bytes l := bytes_of hf.1
  obtain ⟨F, hF⟩ : ∃ F : Nat, F = l.length + 10 := ⟨_, rfl⟩
  refine ⟨F, 0, ?_⟩
  show evFn _ _ _ _ _ [vB l] [] _ = some (.d u32 (sumS l) : V)
  conv => lhs; whnf
  try simp (maxSteps := 2000000) (disch := omega) only [nI64, nU64, nU32, nU8, nSubL, nAddL, nAdd, nSub, nDiv, nMod, nZ, nLit, row_3, row_4, row_5, row_16, row_22, row_85, Ty.den, dflt_it, dflt_li, dflt_kv, Int.toNat_natCast, List.take_length, List.drop_zero]
  refine loop_rule (α := Nat × BitVec 32) (fun a => a.1 ≤ l.length ∧ crcF a.2 (l.drop a.1) = crcF (BitVec.allOnes 32) l) (fun a => l.length - a.1)
    (fun a => (V.bad :: V.bad :: V.bad :: vW (a.2.toNat : Int) :: V.bad :: V.bad :: vB l :: vI l.length :: vI a.1 :: V.bad :: V.bad :: V.bad :: V.bad :: V.bad :: V.bad :: V.bad :: V.bad :: V.bad :: V.bad :: V.bad :: V.bad :: V.bad :: V.bad :: V.bad :: V.bad :: V.bad :: V.bad :: V.bad :: V.bad :: []))
    (fun a => [.gone]) (fun a => some (V.d u32 (sumS l))) ?_ F (0, BitVec.allOnes 32) ⟨Nat.zero_le _, rfl⟩ (by show l.length - 0 < F; omega)
  rintro ⟨i, c⟩ K ⟨k1, k2⟩ hK
  simp only at k1 k2 hK ⊢
  conv => lhs; whnf
  try simp (maxSteps := 2000000) (disch := omega) only [nI64, nU64, nU32, nU8, nSubL, nAddL, nAdd, nSub, nDiv, nMod, nZ, nLit, row_3, row_4, row_5, row_16, row_22, row_85, Ty.den, dflt_it, dflt_li, dflt_kv, Int.toNat_natCast, List.take_length, List.drop_zero]
  by_cases hi : i < l.length
  · refine br_go (tst_t (by omega)) ?_
    conv => lhs; whnf
    try simp (maxSteps := 2000000) (disch := omega) only [nI64, nU64, nU32, nU8, nSubL, nAddL, nAdd, nSub, nDiv, nMod, nZ, nLit, row_3, row_4, row_5, row_16, row_22, row_85, Ty.den, dflt_it, dflt_li, dflt_kv, Int.toNat_natCast, List.take_length, List.drop_zero]
    repeat (refine br_go ?_ ?_; (focus (((repeat' first | exact rfl | exact ordB_st rfl | exact ordB_of rfl | apply band | apply tst_t | apply nt_t)  <;> (try dsimp only [Ty.den, dflt_kv]) <;> (try simp only [List.length_append, List.length_cons, List.length_nil, List.length_take, List.length_drop, List.length_replicate]) <;> (first | trivial | assumption | omega | (change (_ : Int) ≤ _; omega) | (change (_ : Int) < _; omega) | (change (_ : Nat) * 1 ≤ _; omega) | (change (_ : Nat) * 48 ≤ _; omega) | (change (_ : Nat) * 24 ≤ _; omega) | (change (_ : Nat) * 8 ≤ _; omega) | (change (_ : Nat) * 64 ≤ _; omega) | decide)); done)); (conv => lhs; whnf); (try simp (maxSteps := 2000000) (disch := omega) only [nI64, nU64, nU32, nU8, nSubL, nAddL, nAdd, nSub, nDiv, nMod, nZ, nLit, row_3, row_4, row_5, row_16, row_22, row_85, Ty.den, dflt_it, dflt_li, dflt_kv, Int.toNat_natCast, List.take_length, List.drop_zero]))
    rw [crc_byte hb hi]
    refine loop_rule (α := Nat × BitVec 32) (fun a => a.1 ≤ 8 ∧ csteps (8 - a.1) a.2 = csteps 8 (c ^^^ BitVec.ofInt 32 (rd l i))) (fun a => 8 - a.1)
      (fun a => (V.bad :: V.bad :: V.bad :: vW (a.2.toNat : Int) :: V.bad :: V.bad :: vB l :: vI l.length :: vI i :: V.bad :: V.bad :: V.bad :: V.bad :: V.bad :: V.bad :: V.bad :: vI a.1 :: V.bad :: V.bad :: V.bad :: V.bad :: V.bad :: V.bad :: V.bad :: V.bad :: V.bad :: V.bad :: V.bad :: V.bad :: []))
      (fun a => [.gone]) (fun a => some (V.d u32 (sumS l))) ?_ F (0, c ^^^ BitVec.ofInt 32 (rd l i)) ⟨Nat.zero_le _, rfl⟩ (by show 8 - 0 < F; omega)
    rintro ⟨j, d⟩ K2 ⟨k3, k4⟩ hK2
    simp only at k3 k4 hK2 ⊢
    conv => lhs; whnf
    try simp (maxSteps := 2000000) (disch := omega) only [nI64, nU64, nU32, nU8, nSubL, nAddL, nAdd, nSub, nDiv, nMod, nZ, nLit, row_3, row_4, row_5, row_16, row_22, row_85, Ty.den, dflt_it, dflt_li, dflt_kv, Int.toNat_natCast, List.take_length, List.drop_zero]
    by_cases hj : j < 8
    · refine br_go (tst_t (by omega)) ?_
      conv => lhs; whnf
      try simp (maxSteps := 2000000) (disch := omega) only [nI64, nU64, nU32, nU8, nSubL, nAddL, nAdd, nSub, nDiv, nMod, nZ, nLit, row_3, row_4, row_5, row_16, row_22, row_85, Ty.den, dflt_it, dflt_li, dflt_kv, Int.toNat_natCast, List.take_length, List.drop_zero]
      repeat (refine br_go ?_ ?_; (focus (((repeat' first | exact rfl | exact ordB_st rfl | exact ordB_of rfl | apply band | apply tst_t | apply nt_t)  <;> (try dsimp only [Ty.den, dflt_kv]) <;> (try simp only [List.length_append, List.length_cons, List.length_nil, List.length_take, List.length_drop, List.length_replicate]) <;> (first | trivial | assumption | omega | (change (_ : Int) ≤ _; omega) | (change (_ : Int) < _; omega) | (change (_ : Nat) * 1 ≤ _; omega) | (change (_ : Nat) * 48 ≤ _; omega) | (change (_ : Nat) * 24 ≤ _; omega) | (change (_ : Nat) * 8 ≤ _; omega) | (change (_ : Nat) * 64 ≤ _; omega) | decide)); done)); (conv => lhs; whnf); (try simp (maxSteps := 2000000) (disch := omega) only [nI64, nU64, nU32, nU8, nSubL, nAddL, nAdd, nSub, nDiv, nMod, nZ, nLit, row_3, row_4, row_5, row_16, row_22, row_85, Ty.den, dflt_it, dflt_li, dflt_kv, Int.toNat_natCast, List.take_length, List.drop_zero]))
      rw [step_prog']
      exact hK2 (j + 1, cstep d) ⟨by show j + 1 ≤ 8; omega, by rw [← k4, show 8 - j = (8 - (j + 1)) + 1 by omega]; rfl⟩ (by show 8 - (j + 1) < 8 - j; omega)
    · refine br_no (tst_f (by omega)) ?_
      conv => lhs; whnf
      try simp (maxSteps := 2000000) (disch := omega) only [nI64, nU64, nU32, nU8, nSubL, nAddL, nAdd, nSub, nDiv, nMod, nZ, nLit, row_3, row_4, row_5, row_16, row_22, row_85, Ty.den, dflt_it, dflt_li, dflt_kv, Int.toNat_natCast, List.take_length, List.drop_zero]
      repeat (refine br_go ?_ ?_; (focus (((repeat' first | exact rfl | exact ordB_st rfl | exact ordB_of rfl | apply band | apply tst_t | apply nt_t)  <;> (try dsimp only [Ty.den, dflt_kv]) <;> (try simp only [List.length_append, List.length_cons, List.length_nil, List.length_take, List.length_drop, List.length_replicate]) <;> (first | trivial | assumption | omega | (change (_ : Int) ≤ _; omega) | (change (_ : Int) < _; omega) | (change (_ : Nat) * 1 ≤ _; omega) | (change (_ : Nat) * 48 ≤ _; omega) | (change (_ : Nat) * 24 ≤ _; omega) | (change (_ : Nat) * 8 ≤ _; omega) | (change (_ : Nat) * 64 ≤ _; omega) | decide)); done)); (conv => lhs; whnf); (try simp (maxSteps := 2000000) (disch := omega) only [nI64, nU64, nU32, nU8, nSubL, nAddL, nAdd, nSub, nDiv, nMod, nZ, nLit, row_3, row_4, row_5, row_16, row_22, row_85, Ty.den, dflt_it, dflt_li, dflt_kv, Int.toNat_natCast, List.take_length, List.drop_zero]))
      have : j = 8 := by omega
      subst this
      have k5 : d = csteps 8 (c ^^^ BitVec.ofInt 32 (rd l i)) := k4
      exact hK (i + 1, d) ⟨by show i + 1 ≤ l.length; omega, by rw [← k2, drop_cons hi, crcF, k5]⟩ (by show l.length - (i + 1) < l.length - i; omega)
  · refine br_no (tst_f (by omega)) ?_
    conv => lhs; whnf
    try simp (maxSteps := 2000000) (disch := omega) only [nI64, nU64, nU32, nU8, nSubL, nAddL, nAdd, nSub, nDiv, nMod, nZ, nLit, row_3, row_4, row_5, row_16, row_22, row_85, Ty.den, dflt_it, dflt_li, dflt_kv, Int.toNat_natCast, List.take_length, List.drop_zero]
    rw [crc_end (by omega) k2]
abbrev rsumC : Ctx := ⟨rows, (fun | 0 => ([0, 3, 4], [3]) | 1 => ([], [0, 3, 4]) | 2 => ([0, 3, 4, 5], [0, 3, 4]) | 3 => ([], [0, 3, 4, 5]) | _ => ([], []))⟩
theorem rsum_ok (T : Tab) : sumSp.Ok T rsumC F33 := by
  rintro ⟨(l : List Int), _⟩ hf _
  have hl : l.length ≤ 140737488355328 := (fits_by.1 hf.1).1
  have hb : Bytes l := bytes_of hf.1
  obtain ⟨F, hF⟩ : ∃ F : Nat, F = l.length + 10 := ⟨_, rfl⟩
  refine ⟨F, 0, ?_⟩
  show evFn _ _ _ _ _ [vB l] [] _ = some (.d u32 (sumS l) : V)
  conv => lhs; whnf
  try simp (maxSteps := 2000000) (disch := omega) only [nI64, nU64, nU32, nU8, nSubL, nAddL, nAdd, nSub, nDiv, nMod, nZ, nLit, row_3, row_4, row_5, row_16, row_22, row_85, Ty.den, dflt_it, dflt_li, dflt_kv, Int.toNat_natCast, List.take_length, List.drop_zero]
  refine loop_rule (α := Nat × BitVec 32) (fun a => a.1 ≤ l.length ∧ crcF a.2 (l.drop a.1) = crcF (BitVec.allOnes 32) l) (fun a => l.length - a.1)
    (fun a => (vB l :: V.bad :: V.bad :: vW (a.2.toNat : Int) :: vI a.1 :: V.bad :: V.bad :: V.bad :: V.bad :: V.bad :: V.bad :: V.bad :: V.bad :: V.bad :: V.bad :: V.bad :: V.bad :: V.bad :: V.bad :: V.bad :: V.bad :: V.bad :: V.bad :: V.bad :: V.bad :: V.bad :: V.bad :: V.bad :: V.bad :: V.bad :: V.bad :: V.bad :: V.bad :: []))
    (fun a => []) (fun a => some (V.d u32 (sumS l))) ?_ F (0, BitVec.allOnes 32) ⟨Nat.zero_le _, rfl⟩ (by show l.length - 0 < F; omega)
  rintro ⟨i, c⟩ K ⟨k1, k2⟩ hK
  simp only at k1 k2 hK ⊢
  conv => lhs; whnf
  try simp (maxSteps := 2000000) (disch := omega) only [nI64, nU64, nU32, nU8, nSubL, nAddL, nAdd, nSub, nDiv, nMod, nZ, nLit, row_3, row_4, row_5, row_16, row_22, row_85, Ty.den, dflt_it, dflt_li, dflt_kv, Int.toNat_natCast, List.take_length, List.drop_zero]
  by_cases hi : i < l.length
  · refine br_go (tst_t (by omega)) ?_
    conv => lhs; whnf
    try simp (maxSteps := 2000000) (disch := omega) only [nI64, nU64, nU32, nU8, nSubL, nAddL, nAdd, nSub, nDiv, nMod, nZ, nLit, row_3, row_4, row_5, row_16, row_22, row_85, Ty.den, dflt_it, dflt_li, dflt_kv, Int.toNat_natCast, List.take_length, List.drop_zero]
    repeat (refine br_go ?_ ?_; (focus (((repeat' first | exact rfl | exact ordB_st rfl | exact ordB_of rfl | apply band | apply tst_t | apply nt_t)  <;> (try dsimp only [Ty.den, dflt_kv]) <;> (try simp only [List.length_append, List.length_cons, List.length_nil, List.length_take, List.length_drop, List.length_replicate]) <;> (first | trivial | assumption | omega | (change (_ : Int) ≤ _; omega) | (change (_ : Int) < _; omega) | (change (_ : Nat) * 1 ≤ _; omega) | (change (_ : Nat) * 48 ≤ _; omega) | (change (_ : Nat) * 24 ≤ _; omega) | (change (_ : Nat) * 8 ≤ _; omega) | (change (_ : Nat) * 64 ≤ _; omega) | decide)); done)); (conv => lhs; whnf); (try simp (maxSteps := 2000000) (disch := omega) only [nI64, nU64, nU32, nU8, nSubL, nAddL, nAdd, nSub, nDiv, nMod, nZ, nLit, row_3, row_4, row_5, row_16, row_22, row_85, Ty.den, dflt_it, dflt_li, dflt_kv, Int.toNat_natCast, List.take_length, List.drop_zero]))
    rw [crc_byte hb hi]
    refine loop_rule (α := Nat × BitVec 32) (fun a => a.1 ≤ 8 ∧ csteps (8 - a.1) a.2 = csteps 8 (c ^^^ BitVec.ofInt 32 (rd l i))) (fun a => 8 - a.1)
      (fun a => (vB l :: V.bad :: V.bad :: vW (a.2.toNat : Int) :: vI i :: vI a.1 :: V.bad :: V.bad :: V.bad :: V.bad :: V.bad :: V.bad :: V.bad :: V.bad :: V.bad :: V.bad :: V.bad :: V.bad :: V.bad :: V.bad :: V.bad :: V.bad :: V.bad :: V.bad :: V.bad :: V.bad :: V.bad :: V.bad :: V.bad :: V.bad :: V.bad :: V.bad :: V.bad :: []))
      (fun a => [.gone]) (fun a => some (V.d u32 (sumS l))) ?_ F (0, c ^^^ BitVec.ofInt 32 (rd l i)) ⟨Nat.zero_le _, rfl⟩ (by show 8 - 0 < F; omega)
    rintro ⟨j, d⟩ K2 ⟨k3, k4⟩ hK2
    simp only at k3 k4 hK2 ⊢
    conv => lhs; whnf
    try simp (maxSteps := 2000000) (disch := omega) only [nI64, nU64, nU32, nU8, nSubL, nAddL, nAdd, nSub, nDiv, nMod, nZ, nLit, row_3, row_4, row_5, row_16, row_22, row_85, Ty.den, dflt_it, dflt_li, dflt_kv, Int.toNat_natCast, List.take_length, List.drop_zero]
    by_cases hj : j < 8
    · refine br_go (tst_t (by omega)) ?_
      conv => lhs; whnf
      try simp (maxSteps := 2000000) (disch := omega) only [nI64, nU64, nU32, nU8, nSubL, nAddL, nAdd, nSub, nDiv, nMod, nZ, nLit, row_3, row_4, row_5, row_16, row_22, row_85, Ty.den, dflt_it, dflt_li, dflt_kv, Int.toNat_natCast, List.take_length, List.drop_zero]
      refine br_go ?_ ?_
      focus (((repeat' first | exact rfl | exact ordB_st rfl | exact ordB_of rfl | apply band | apply tst_t | apply nt_t)  <;> (try dsimp only [Ty.den, dflt_kv]) <;> (try simp only [List.length_append, List.length_cons, List.length_nil, List.length_take, List.length_drop, List.length_replicate]) <;> (first | trivial | assumption | omega | (change (_ : Int) ≤ _; omega) | (change (_ : Int) < _; omega) | (change (_ : Nat) * 1 ≤ _; omega) | (change (_ : Nat) * 48 ≤ _; omega) | (change (_ : Nat) * 24 ≤ _; omega) | (change (_ : Nat) * 8 ≤ _; omega) | (change (_ : Nat) * 64 ≤ _; omega) | decide)); done)
      conv => lhs; whnf
      try simp (maxSteps := 2000000) (disch := omega) only [nI64, nU64, nU32, nU8, nSubL, nAddL, nAdd, nSub, nDiv, nMod, nZ, nLit, row_3, row_4, row_5, row_16, row_22, row_85, Ty.den, dflt_it, dflt_li, dflt_kv, Int.toNat_natCast, List.take_length, List.drop_zero]
      by_cases hc : (d.toNat : Int) % 2 = 1
      · refine br_go (tst_t (hc)) ?_
        conv => lhs; whnf
        try simp (maxSteps := 2000000) (disch := omega) only [nI64, nU64, nU32, nU8, nSubL, nAddL, nAdd, nSub, nDiv, nMod, nZ, nLit, row_3, row_4, row_5, row_16, row_22, row_85, Ty.den, dflt_it, dflt_li, dflt_kv, Int.toNat_natCast, List.take_length, List.drop_zero]
        repeat (refine br_go ?_ ?_; (focus (((repeat' first | exact rfl | exact ordB_st rfl | exact ordB_of rfl | apply band | apply tst_t | apply nt_t)  <;> (try dsimp only [Ty.den, dflt_kv]) <;> (try simp only [List.length_append, List.length_cons, List.length_nil, List.length_take, List.length_drop, List.length_replicate]) <;> (first | trivial | assumption | omega | (change (_ : Int) ≤ _; omega) | (change (_ : Int) < _; omega) | (change (_ : Nat) * 1 ≤ _; omega) | (change (_ : Nat) * 48 ≤ _; omega) | (change (_ : Nat) * 24 ≤ _; omega) | (change (_ : Nat) * 8 ≤ _; omega) | (change (_ : Nat) * 64 ≤ _; omega) | decide)); done)); (conv => lhs; whnf); (try simp (maxSteps := 2000000) (disch := omega) only [nI64, nU64, nU32, nU8, nSubL, nAddL, nAdd, nSub, nDiv, nMod, nZ, nLit, row_3, row_4, row_5, row_16, row_22, row_85, Ty.den, dflt_it, dflt_li, dflt_kv, Int.toNat_natCast, List.take_length, List.drop_zero]))
        rw [step_ref1' hc]
        exact hK2 (j + 1, cstep d) ⟨by show j + 1 ≤ 8; omega, by rw [← k4, show 8 - j = (8 - (j + 1)) + 1 by omega]; rfl⟩ (by show 8 - (j + 1) < 8 - j; omega)
      · refine br_no (tst_f (hc)) ?_
        conv => lhs; whnf
        try simp (maxSteps := 2000000) (disch := omega) only [nI64, nU64, nU32, nU8, nSubL, nAddL, nAdd, nSub, nDiv, nMod, nZ, nLit, row_3, row_4, row_5, row_16, row_22, row_85, Ty.den, dflt_it, dflt_li, dflt_kv, Int.toNat_natCast, List.take_length, List.drop_zero]
        repeat (refine br_go ?_ ?_; (focus (((repeat' first | exact rfl | exact ordB_st rfl | exact ordB_of rfl | apply band | apply tst_t | apply nt_t)  <;> (try dsimp only [Ty.den, dflt_kv]) <;> (try simp only [List.length_append, List.length_cons, List.length_nil, List.length_take, List.length_drop, List.length_replicate]) <;> (first | trivial | assumption | omega | (change (_ : Int) ≤ _; omega) | (change (_ : Int) < _; omega) | (change (_ : Nat) * 1 ≤ _; omega) | (change (_ : Nat) * 48 ≤ _; omega) | (change (_ : Nat) * 24 ≤ _; omega) | (change (_ : Nat) * 8 ≤ _; omega) | (change (_ : Nat) * 64 ≤ _; omega) | decide)); done)); (conv => lhs; whnf); (try simp (maxSteps := 2000000) (disch := omega) only [nI64, nU64, nU32, nU8, nSubL, nAddL, nAdd, nSub, nDiv, nMod, nZ, nLit, row_3, row_4, row_5, row_16, row_22, row_85, Ty.den, dflt_it, dflt_li, dflt_kv, Int.toNat_natCast, List.take_length, List.drop_zero]))
        rw [step_ref0' hc]
        exact hK2 (j + 1, cstep d) ⟨by show j + 1 ≤ 8; omega, by rw [← k4, show 8 - j = (8 - (j + 1)) + 1 by omega]; rfl⟩ (by show 8 - (j + 1) < 8 - j; omega)
    · refine br_no (tst_f (by omega)) ?_
      conv => lhs; whnf
      try simp (maxSteps := 2000000) (disch := omega) only [nI64, nU64, nU32, nU8, nSubL, nAddL, nAdd, nSub, nDiv, nMod, nZ, nLit, row_3, row_4, row_5, row_16, row_22, row_85, Ty.den, dflt_it, dflt_li, dflt_kv, Int.toNat_natCast, List.take_length, List.drop_zero]
      repeat (refine br_go ?_ ?_; (focus (((repeat' first | exact rfl | exact ordB_st rfl | exact ordB_of rfl | apply band | apply tst_t | apply nt_t)  <;> (try dsimp only [Ty.den, dflt_kv]) <;> (try simp only [List.length_append, List.length_cons, List.length_nil, List.length_take, List.length_drop, List.length_replicate]) <;> (first | trivial | assumption | omega | (change (_ : Int) ≤ _; omega) | (change (_ : Int) < _; omega) | (change (_ : Nat) * 1 ≤ _; omega) | (change (_ : Nat) * 48 ≤ _; omega) | (change (_ : Nat) * 24 ≤ _; omega) | (change (_ : Nat) * 8 ≤ _; omega) | (change (_ : Nat) * 64 ≤ _; omega) | decide)); done)); (conv => lhs; whnf); (try simp (maxSteps := 2000000) (disch := omega) only [nI64, nU64, nU32, nU8, nSubL, nAddL, nAdd, nSub, nDiv, nMod, nZ, nLit, row_3, row_4, row_5, row_16, row_22, row_85, Ty.den, dflt_it, dflt_li, dflt_kv, Int.toNat_natCast, List.take_length, List.drop_zero]))
      have : j = 8 := by omega
      subst this
      have k5 : d = csteps 8 (c ^^^ BitVec.ofInt 32 (rd l i)) := k4
      exact hK (i + 1, d) ⟨by show i + 1 ≤ l.length; omega, by rw [← k2, drop_cons hi, crcF, k5]⟩ (by show l.length - (i + 1) < l.length - i; omega)
  · refine br_no (tst_f (by omega)) ?_
    conv => lhs; whnf
    try simp (maxSteps := 2000000) (disch := omega) only [nI64, nU64, nU32, nU8, nSubL, nAddL, nAdd, nSub, nDiv, nMod, nZ, nLit, row_3, row_4, row_5, row_16, row_22, row_85, Ty.den, dflt_it, dflt_li, dflt_kv, Int.toNat_natCast, List.take_length, List.drop_zero]
    rw [crc_end (by omega) k2]
end Go.Proofs.YtbcfagackcnpkaaDoor.Ev
/- Logs: what is laid down, and what is read of bytes, in plain data. -/
namespace Go.Proofs.YtbcfagackcnpkaaDoor.Ev
open Go Go.RowKit
set_option linter.unusedVariables false
set_option linter.unusedSimpArgs false
set_option maxRecDepth 100000
set_option maxHeartbeats 1000000
def room (at_ : Nat) : Nat := 64 - at_ % 64
theorem room_le (a : Nat) : 1 ≤ room a ∧ room a ≤ 64 := by unfold room; omega
def kindS (begins ends : Bool) : Int := match begins, ends with | true, true => 1 | true, false => 2 | false, false => 3 | false, true => 4
/-- a fragment's bytes -/
def fragS (k : Int) (d : List Int) : List Int := fixedL (sumS (k :: d)) 4 ++ ([((d.length % 256 : Nat) : Int), ((d.length / 256 % 256 : Nat) : Int), k] ++ d)
theorem fragS_len (k : Int) (d : List Int) : (fragS k d).length = 7 + d.length := by
  unfold fragS
  rw [List.length_append, fixedL_length, List.length_append]; simp; omega
/-- what lays a record down -/
def appA (a : Nat) (begins : Bool) (l : List Int) : List Int :=
  if room a < 7 then List.replicate (room a) 0 ++ appA (a + room a) begins l
  else if l.length ≤ room a - 7 then fragS (kindS begins true) l
  else fragS (kindS begins false) (l.take (room a - 7)) ++ appA (a + room a) false (l.drop (room a - 7))
termination_by 3 * l.length + (if room a < 7 then 2 else if room a = 7 then 1 else 0)
decreasing_by
  · have h1 : room (a + room a) = 64 := by unfold room at *; omega
    rename_i h0
    rw [h1, if_neg (by decide), if_neg (by decide), if_pos h0]
    omega
  · have h1 : room (a + room a) = 64 := by unfold room at *; omega
    rw [h1, List.length_drop, if_neg (by decide), if_neg (by decide)]
    split
    · omega
    · split <;> omega
theorem appA_pad {a : Nat} (b : Bool) (l : List Int) (h : room a < 7) : appA a b l = List.replicate (room a) 0 ++ appA (a + room a) b l := by
  rw [appA, if_pos h]
theorem appA_end {a : Nat} (b : Bool) {l : List Int} (h : ¬ room a < 7) (h2 : l.length ≤ room a - 7) : appA a b l = fragS (kindS b true) l := by
  rw [appA, if_neg h, if_pos h2]
theorem appA_go {a : Nat} (b : Bool) {l : List Int} (h : ¬ room a < 7) (h2 : ¬ l.length ≤ room a - 7) : appA a b l = fragS (kindS b false) (l.take (room a - 7)) ++ appA (a + room a) false (l.drop (room a - 7)) := by
  rw [appA, if_neg h, if_neg h2]
/-- the rule for all that is proved of it -/
theorem appA_ind {P : Nat → Bool → List Int → Prop}
    (h1 : ∀ a b l, room a < 7 → P (a + room a) b l → P a b l)
    (h2 : ∀ a b l, ¬ room a < 7 → l.length ≤ room a - 7 → P a b l)
    (h3 : ∀ a b l, ¬ room a < 7 → ¬ l.length ≤ room a - 7 → P (a + room a) false (l.drop (room a - 7)) → P a b l) (a : Nat) (b : Bool) (l : List Int) : P a b l := by
  induction a, b, l using appA.induct with
  | case1 a b l h ih => exact h1 a b l h ih
  | case2 a b l h h' => exact h2 a b l h h'
  | case3 a b l h h' ih => exact h3 a b l h h' ih
theorem appA_mod (a : Nat) (b : Bool) (l : List Int) : ∀ c : Nat, c % 64 = a % 64 → appA c b l = appA a b l := by
  induction a, b, l using appA_ind with
  | h1 a b l h ih =>
    intro c hc
    have hr : room c = room a := by unfold room; rw [hc]
    rw [appA_pad b l h, appA_pad b l (by rw [hr]; exact h), hr, ih (c + room a) (by omega)]
  | h2 a b l h h2 =>
    intro c hc
    have hr : room c = room a := by unfold room; rw [hc]
    rw [appA_end b h h2, appA_end b (by rw [hr]; exact h) (by rw [hr]; exact h2)]
  | h3 a b l h h2 ih =>
    intro c hc
    have hr : room c = room a := by unfold room; rw [hc]
    rw [appA_go b h h2, appA_go b (by rw [hr]; exact h) (by rw [hr]; exact h2), hr, ih (c + room a) (by omega)]
/-! what is read -/
def cutS (b : List Int) (i j : Nat) : List Int := (b.take j).drop i
/-- the fragment whose head stands at a place: kind, data, where it ends -/
def headS (b : List Int) (a : Nat) : Option (Int × List Int × Nat) :=
  if b.length < a + 7 then none
  else
    let n := (b.getD (a + 4) 0 + 256 * b.getD (a + 5) 0).toNat
    if room a - 7 < n ∨ b.length < a + 7 + n then none
    else if sumS (cutS b (a + 6) (a + 7 + n)) ≠ leVal (cutS b a (a + 4)) then none
    else some (b.getD (a + 6) 0, cutS b (a + 7) (a + 7 + n), a + 7 + n)
def nextS (b : List Int) (a : Nat) : Option (Int × List Int × Nat) :=
  if room a < 7 then
    if (cutS b a (a + room a)).all (· == 0) then headS b (a + room a) else none
  else headS b a
theorem headS_end {b : List Int} {a : Nat} {k : Int} {d : List Int} {e : Nat} (h : headS b a = some (k, d, e)) : a + 7 ≤ e ∧ e ≤ b.length ∧ d.length + a + 7 = e := by
  unfold headS at h
  simp only at h
  split at h
  · cases h
  · split at h
    · cases h
    · split at h
      · cases h
      · cases h
        rename_i h1 h2 h3
        unfold cutS
        rw [List.length_drop, List.length_take]
        omega
theorem nextS_end {b : List Int} {a : Nat} {k : Int} {d : List Int} {e : Nat} (h : nextS b a = some (k, d, e)) : a + 7 ≤ e ∧ e ≤ b.length := by
  unfold nextS at h
  split at h
  · split at h
    · have := headS_end h; omega
    · cases h
  · have := headS_end h; omega
/-- the record at a place: what was taken ahead of it, whether it is begun -/
def recS (b : List Int) (a : Nat) (begun : Bool) (out : List Int) : List Int × Nat × Bool :=
  match h : nextS b a with
  | none => ([], 0, false)
  | some (k, d, e) =>
    if 4194304 < (out ++ d).length then ([], 0, false)
    else if k = 2 then (if begun = true ∨ e % 64 ≠ 0 then ([], 0, false) else recS b e true (out ++ d))
    else if k = 3 then (if begun = false ∨ e % 64 ≠ 0 then ([], 0, false) else recS b e begun (out ++ d))
    else if k = 1 then (out ++ d, e, !begun)
    else if k = 4 then (out ++ d, e, begun)
    else ([], 0, false)
termination_by b.length - a
decreasing_by all_goals (have := nextS_end h; omega)
theorem recS_none {b : List Int} {a : Nat} {g : Bool} {out : List Int} (h : nextS b a = none) : recS b a g out = ([], 0, false) := by
  rw [recS]; split
  · rfl
  · rename_i k d e h2; rw [h] at h2; cases h2
theorem recS_some {b : List Int} {a : Nat} {g : Bool} {out : List Int} {k : Int} {d : List Int} {e : Nat} (h : nextS b a = some (k, d, e)) :
    recS b a g out = if 4194304 < (out ++ d).length then ([], 0, false)
    else if k = 2 then (if g = true ∨ e % 64 ≠ 0 then ([], 0, false) else recS b e true (out ++ d))
    else if k = 3 then (if g = false ∨ e % 64 ≠ 0 then ([], 0, false) else recS b e g (out ++ d))
    else if k = 1 then (out ++ d, e, !g)
    else if k = 4 then (out ++ d, e, g)
    else ([], 0, false) := by
  rw [recS]; split
  · rename_i h2; rw [h] at h2; cases h2
  · rename_i k' d' e' h2; rw [h] at h2; cases h2; rfl
theorem recS_end (b : List Int) : ∀ (n a : Nat) (g : Bool) (out : List Int), b.length - a ≤ n → (recS b a g out).2.2 = true → a + 7 ≤ (recS b a g out).2.1 ∧ (recS b a g out).2.1 ≤ b.length
  | n, a, g, out, hn, h => by
    cases hx : nextS b a with
    | none => rw [recS_none hx] at h; cases h
    | some x =>
      obtain ⟨k, d, e⟩ := x
      have he := nextS_end hx
      rw [recS_some hx] at h ⊢
      split at h
      · cases h
      · rename_i q1
        rw [if_neg q1]
        split at h
        · rename_i q2
          rw [if_pos q2]
          split at h
          · cases h
          · rename_i q3
            rw [if_neg q3]
            cases n with
            | zero => omega
            | succ n => have := recS_end b n e true (out ++ d) (by omega) h; omega
        · rename_i q2
          rw [if_neg q2]
          split at h
          · rename_i q3
            rw [if_pos q3]
            split at h
            · cases h
            · rename_i q4
              rw [if_neg q4]
              cases n with
              | zero => omega
              | succ n => have := recS_end b n e g (out ++ d) (by omega) h; omega
          · rename_i q3
            rw [if_neg q3]
            split at h
            · rename_i q4; rw [if_pos q4]; exact he
            · rename_i q4
              rw [if_neg q4]
              split at h
              · rename_i q5; rw [if_pos q5]; exact he
              · cases h
/-- all records, and where they end -/
def readS (b : List Int) (a : Nat) : List (List Int) × Nat :=
  if h : (recS b a false []).2.2 = true then
    let r := readS b (recS b a false []).2.1
    ((recS b a false []).1 :: r.1, r.2)
  else ([], a)
termination_by b.length - a
decreasing_by have := recS_end b _ a false [] (Nat.le_refl _) h; omega
end Go.Proofs.YtbcfagackcnpkaaDoor.Ev
/- Entries: held against one another, copied, rising. -/
namespace Go.Proofs.YtbcfagackcnpkaaDoor.Ev
open Go Go.RowKit
set_option linter.unusedVariables false
noncomputable section
def hbytesSp : Sp := ⟨[byl, byl], fun _ => true, fun x => vT ((x.1 : List Int) = x.2.1)⟩
def kvsSp : Sp := ⟨[kvl, kvl], fun _ => true, fun x => vT ((x.1 : List KV) = x.2.1)⟩
def copyPre (l : List KV) : Bool := tst (l.length ≤ 1048576)
def copySp : Sp := ⟨[kvl], fun x => copyPre x.1, fun x => .own 0 kv x.1⟩
def total (l : List KV) : Nat := (l.map fun x => x.1.length + x.2.1.length).foldr (· + ·) 0
def aheadOK : Option (List Int) → List Int → Bool
  | none, _ => true
  | some q, k => decide (order q k < 0)
def risesFrom : Option (List Int) → List KV → Bool
  | _, [] => true
  | p, x :: l => decide ((split x.1).2.2.2 = 0) && (aheadOK p x.1 && risesFrom (some x.1) l)
theorem risesFrom_cons (p : Option (List Int)) (x : KV) (l : List KV) : risesFrom p (x :: l) = (decide ((split x.1).2.2.2 = 0) && (aheadOK p x.1 && risesFrom (some x.1) l)) := by cases p <;> rfl
def Rises (l : List KV) : Prop := risesFrom none l = true
instance (l : List KV) : Decidable (Rises l) := inferInstanceAs (Decidable (_ = _))
def risesSp : Sp := ⟨[kvl], fun _ => true, fun x => vT (Rises x.1)⟩
def behindSp : Sp := ⟨[byl, byl], fun _ => true, fun x => vT ((split x.2.1).2.2.2 = 0 ∧ (split x.1).2.2.2 = 0 ∧ order x.2.1 x.1 < 0)⟩
def few7 (l : List KV) : Prop := l.length ≤ 60 ∧ total l ≤ 5000
instance (l : List KV) : Decidable (few7 l) := inferInstanceAs (Decidable (_ ∧ _))
def fewSp : Sp := ⟨[kvl], fun _ => true, fun x => vT (few7 x.1)⟩
end
theorem getD_at {α : Type} {l : List α} {i : Nat} {d : α} (h : i < l.length) : l.getD i d = l[i] := by rw [List.getD_eq_getElem?_getD, List.getElem?_eq_getElem h]; rfl
theorem drop_at {α : Type} {l : List α} {i : Nat} {d : α} (h : i < l.length) : l.drop i = l.getD i d :: l.drop (i + 1) := by rw [getD_at h]; exact List.drop_eq_getElem_cons h
theorem take_at {α : Type} {l : List α} {i : Nat} {d : α} (h : i < l.length) : l.take (i + 1) = l.take i ++ [l.getD i d] := by rw [getD_at h]; exact List.take_succ_eq_append_getElem h
theorem total_cons (x : KV) (l : List KV) : total (x :: l) = x.1.length + x.2.1.length + total l := rfl
theorem fits_kvl {l : List KV} : Fits kvl l ↔ l.length ≤ 140737488355328 ∧ ∀ x ∈ l, Fits kv x := Iff.rfl
theorem getD_kv {l : List KV} {i : Nat} (h : Fits kvl l) (hi : i < l.length) : ((l.getD i kvd).1.length ≤ 140737488355328 ∧ Bytes (l.getD i kvd).1) ∧ (l.getD i kvd).2.1.length ≤ 140737488355328 ∧ Bytes (l.getD i kvd).2.1 := by
  rw [getD_at hi]
  have := h.2 _ (List.getElem_mem hi)
  have h1 : Fits byl (l[i]).1 := this.1
  have h2 : Fits byl (l[i]).2.1 := this.2.1
  exact ⟨⟨h1.1, fun x hx => by have := fits_u8.1 (h1.2 x hx); omega⟩, h2.1, fun x hx => by have := fits_u8.1 (h2.2 x hx); omega⟩
theorem getD_fits {t : Ty} {l : List t.den} {i : Nat} {d : t.den} (h : Fits (.li t) l) (hi : i < l.length) : Fits t (l.getD i d) := by rw [getD_at hi]; exact h.2 _ (List.getElem_mem hi)
theorem mxI {a b : Int} {h : Decidable True} : (@ite _ True h (if b > a then b else a) (if b < a then b else a)) = max a b := by
  rw [if_pos trivial]
  split <;> omega
theorem mnI {a b : Int} {h : Decidable (false = true)} : (@ite _ (false = true) h (if b > a then b else a) (if b < a then b else a)) = min a b := by
  rw [if_neg Bool.false_ne_true]
  split <;> omega
end Go.Proofs.YtbcfagackcnpkaaDoor.Ev
/- Logs: the program lays records down. -/
namespace Go.Proofs.YtbcfagackcnpkaaDoor.Ev
open Go Go.RowKit
set_option linter.unusedVariables false
set_option linter.unusedSimpArgs false
set_option maxRecDepth 100000
set_option maxHeartbeats 8000000
abbrev u8 : Ty := .it .u8
noncomputable def kindSp : Sp := ⟨[.bo, .bo], fun _ => true, fun x => .d u8 (kindS x.1 x.2.1)⟩
abbrev kindC : Ctx := ⟨rows, (fun | 0 => ([], []) | _ => ([], []))⟩
theorem kind_ok (T : Tab) : kindSp.Ok T kindC F28 := by
  rintro ⟨(a : Bool), (b : Bool), _⟩ hf _
  obtain ⟨F, hF⟩ : ∃ F : Nat, F = 1 := ⟨_, rfl⟩
  refine ⟨F, 0, ?_⟩
  show evFn _ _ _ _ _ [.d .bo a, .d .bo b] [] _ = some (.d u8 (kindS a b) : V)
  conv => lhs; whnf
  try simp (maxSteps := 2000000) (disch := omega) only [nI64, nU64, nU32, nU8, nSubL, nAddL, nAdd, nSub, nDiv, nMod, nZ, nLit, row_3, row_4, row_5, row_16, row_22, row_85, Ty.den, dflt_it, dflt_li, dflt_kv, Int.toNat_natCast, List.take_length, List.drop_zero]
  cases a <;> cases b <;> (conv => lhs; whnf) <;> rfl
theorem room_next' {a : Nat} : room (a + room a) = 64 := by unfold room; omega
theorem frag_eq (k : Int) (d : List Int) : fixedL (sumS ([k] ++ d)) 4 ++ [IntKind.u8.wrap (d.length : Int), IntKind.u8.wrap ((d.length : Int).fdiv (2 ^ min 8 IntKind.i64.bits)), k] ++ d = fragS k d := by
  have e1 : ((d.length : Int).fdiv (2 ^ min 8 IntKind.i64.bits)) = ((d.length / 256 : Nat) : Int) := by
    rw [show min 8 IntKind.i64.bits = 8 by decide, show ((2 : Int) ^ 8) = 256 by decide, Int.fdiv_eq_ediv_of_nonneg _ (by omega)]; omega
  have e2 : IntKind.u8.wrap (d.length : Int) = ((d.length % 256 : Nat) : Int) := by rw [wrapU8]; omega
  have e3 : IntKind.u8.wrap ((d.length / 256 : Nat) : Int) = ((d.length / 256 % 256 : Nat) : Int) := by rw [wrapU8]; omega
  rw [e1, e2, e3, List.append_assoc]; rfl
noncomputable def fragSp : Sp := ⟨[u8, byl], fun x => tst (List.length x.2.1 ≤ 4194304), fun x => .own 0 by8 (fragS x.1 x.2.1)⟩
abbrev fragC : Ctx := ⟨rows, (fun  | _ => ([], []))⟩
theorem frag_ok (T : Tab) (h1 : T 35 = sumSp.ent) (h2 : T 34 = fixed4Sp.ent) : fragSp.Ok T fragC F27 := by
  rw [on_top h1, on_top h2]
  rintro ⟨(k : Int), (d : List Int), _⟩ hf hp
  have hl : d.length ≤ 4194304 := tst_iff.1 hp
  obtain ⟨F, hF⟩ : ∃ F : Nat, F = 5 := ⟨_, rfl⟩
  refine ⟨F, 0, ?_⟩
  show evFn _ _ _ _ _ [.d u8 k, vB d] [] _ = some (vO 0 (fragS k d) : V)
  conv => lhs; whnf
  try simp (maxSteps := 2000000) (disch := omega) only [nI64, nU64, nU32, nU8, nSubL, nAddL, nAdd, nSub, nDiv, nMod, nZ, nLit, row_3, row_4, row_5, row_16, row_22, row_85, Ty.den, dflt_it, dflt_li, dflt_kv, Int.toNat_natCast, List.take_length, List.drop_zero]
  have hx : (fixedL (sumS ([k] ++ d)) 4).length = 4 := fixedL_length _ _
  repeat (refine br_go ?_ ?_; (focus (((repeat' first | exact rfl | exact ordB_st rfl | exact ordB_of rfl | apply band | apply tst_t | apply nt_t)  <;> (try dsimp only [Ty.den, dflt_kv]) <;> (try simp only [List.length_append, List.length_cons, List.length_nil, List.length_take, List.length_drop, List.length_replicate]) <;> (first | trivial | assumption | omega | (change (_ : Int) ≤ _; omega) | (change (_ : Int) < _; omega) | (change (_ : Nat) * 1 ≤ _; omega) | (change (_ : Nat) * 48 ≤ _; omega) | (change (_ : Nat) * 24 ≤ _; omega) | (change (_ : Nat) * 8 ≤ _; omega) | (change (_ : Nat) * 64 ≤ _; omega) | decide)); done)); (conv => lhs; whnf); (try simp (maxSteps := 2000000) (disch := omega) only [nI64, nU64, nU32, nU8, nSubL, nAddL, nAdd, nSub, nDiv, nMod, nZ, nLit, row_3, row_4, row_5, row_16, row_22, row_85, Ty.den, dflt_it, dflt_li, dflt_kv, Int.toNat_natCast, List.take_length, List.drop_zero]))
  rw [frag_eq]
noncomputable def roomSp : Sp := ⟨[i64], fun x => tst (0 ≤ x.1), fun x => vI (room (Int.toNat x.1) : Nat)⟩
abbrev roomC : Ctx := ⟨rows, (fun  | _ => ([], []))⟩
theorem room_ok (T : Tab) : roomSp.Ok T roomC F26 := by
  rintro ⟨(a : Int), _⟩ hf hp
  have hl : 0 ≤ a := tst_iff.1 hp
  have hf := fits_i64.1 hf.1
  obtain ⟨n, rfl⟩ : ∃ n : Nat, a = n := ⟨a.toNat, by omega⟩
  obtain ⟨F, hF⟩ : ∃ F : Nat, F = 5 := ⟨_, rfl⟩
  refine ⟨F, 0, ?_⟩
  show evFn _ _ _ _ _ [vI n] [] _ = some (vI (room n : Nat) : V)
  conv => lhs; whnf
  try simp (maxSteps := 2000000) (disch := omega) only [nI64, nU64, nU32, nU8, nSubL, nAddL, nAdd, nSub, nDiv, nMod, nZ, nLit, row_3, row_4, row_5, row_16, row_22, row_85, Ty.den, dflt_it, dflt_li, dflt_kv, Int.toNat_natCast, List.take_length, List.drop_zero]
  repeat (refine br_go ?_ ?_; (focus (((repeat' first | exact rfl | exact ordB_st rfl | exact ordB_of rfl | apply band | apply tst_t | apply nt_t)  <;> (try dsimp only [Ty.den, dflt_kv]) <;> (try simp only [List.length_append, List.length_cons, List.length_nil, List.length_take, List.length_drop, List.length_replicate]) <;> (first | trivial | assumption | omega | (change (_ : Int) ≤ _; omega) | (change (_ : Int) < _; omega) | (change (_ : Nat) * 1 ≤ _; omega) | (change (_ : Nat) * 48 ≤ _; omega) | (change (_ : Nat) * 24 ≤ _; omega) | (change (_ : Nat) * 8 ≤ _; omega) | (change (_ : Nat) * 64 ≤ _; omega) | decide)); done)); (conv => lhs; whnf); (try simp (maxSteps := 2000000) (disch := omega) only [nI64, nU64, nU32, nU8, nSubL, nAddL, nAdd, nSub, nDiv, nMod, nZ, nLit, row_3, row_4, row_5, row_16, row_22, row_85, Ty.den, dflt_it, dflt_li, dflt_kv, Int.toNat_natCast, List.take_length, List.drop_zero]))
  rw [show ((room n : Nat) : Int) = 64 - (n : Int) % 64 by unfold room; omega]
theorem appA_le (a : Nat) (b : Bool) (l : List Int) : (appA a b l).length ≤ 14 * l.length + 7 + (if room a < 7 then 6 else if room a = 7 then 7 else 0) := by
  induction a, b, l using appA_ind with
  | h1 a b l h ih =>
    rw [appA_pad b l h, List.length_append, List.length_replicate, if_pos h]
    rw [room_next', if_neg (by decide), if_neg (by decide)] at ih
    omega
  | h2 a b l h h2 => rw [appA_end b h h2, fragS_len]; omega
  | h3 a b l h h2 ih =>
    rw [appA_go b h h2, List.length_append, fragS_len, List.length_take, if_neg h]
    rw [room_next', if_neg (by decide), if_neg (by decide), List.length_drop] at ih
    split <;> omega
/-- Append: the place is taken within a block -/
def apS (a : Int) (l : List Int) (E : Int) : List Int × Int := if 4194304 < l.length then ([], E) else (appA (max a 0 % 64).toNat true l, 0)
noncomputable def apSp : Sp := ⟨[i64, byl], fun _ => true, fun x => .tup [.own 0 by8 (apS x.1 x.2.1 50).1, vI (apS x.1 x.2.1 50).2]⟩
abbrev apC : Ctx := ⟨rows, (fun | 0 => ([0, 1, 6, 7, 8], [6]) | 1 => ([], [0, 1, 6, 7, 8]) | _ => ([], []))⟩
theorem wappend_ok (T : Tab) (h1 : T 26 = roomSp.ent) (h2 : T 28 = kindSp.ent) (h3 : T 27 = fragSp.ent) : apSp.Ok T apC F19 := by
  rw [on_top h1, on_top h2, on_top h3]
  rintro ⟨(a : Int), (l : List Int), _⟩ hf hp
  obtain ⟨F, hF⟩ : ∃ F : Nat, F = 3 * l.length + 10 := ⟨_, rfl⟩
  refine ⟨F, 0, ?_⟩
  show evFn _ _ _ _ _ [vI a, vB l] [] _ = some (.tup [vO 0 (apS a l 50).1, vI (apS a l 50).2] : V)
  conv => lhs; whnf
  try simp (maxSteps := 2000000) (disch := omega) only [nI64, nU64, nU32, nU8, nSubL, nAddL, nAdd, nSub, nDiv, nMod, nZ, nLit, row_3, row_4, row_5, row_16, row_22, row_85, Ty.den, dflt_it, dflt_li, dflt_kv, Int.toNat_natCast, List.take_length, List.drop_zero]
  unfold apS
  by_cases g1 : l.length > 4194304
  · rw [if_pos g1]
    refine br_go (tst_t (by omega)) ?_
    conv => lhs; whnf
    try simp (maxSteps := 2000000) (disch := omega) only [nI64, nU64, nU32, nU8, nSubL, nAddL, nAdd, nSub, nDiv, nMod, nZ, nLit, row_3, row_4, row_5, row_16, row_22, row_85, Ty.den, dflt_it, dflt_li, dflt_kv, Int.toNat_natCast, List.take_length, List.drop_zero]
    repeat (refine br_go ?_ ?_; (focus (((repeat' first | exact rfl | exact ordB_st rfl | exact ordB_of rfl | apply band | apply tst_t | apply nt_t)  <;> (try dsimp only [Ty.den, dflt_kv]) <;> (try simp only [List.length_append, List.length_cons, List.length_nil, List.length_take, List.length_drop, List.length_replicate]) <;> (first | trivial | assumption | omega | (change (_ : Int) ≤ _; omega) | (change (_ : Int) < _; omega) | (change (_ : Nat) * 1 ≤ _; omega) | (change (_ : Nat) * 48 ≤ _; omega) | (change (_ : Nat) * 24 ≤ _; omega) | (change (_ : Nat) * 8 ≤ _; omega) | (change (_ : Nat) * 64 ≤ _; omega) | decide)); done)); (conv => lhs; whnf); (try simp (maxSteps := 2000000) (disch := omega) only [nI64, nU64, nU32, nU8, nSubL, nAddL, nAdd, nSub, nDiv, nMod, nZ, nLit, row_3, row_4, row_5, row_16, row_22, row_85, Ty.den, dflt_it, dflt_li, dflt_kv, Int.toNat_natCast, List.take_length, List.drop_zero]))
  · rw [if_neg g1]
    refine br_no (tst_f (by omega)) ?_
    conv => lhs; whnf
    try simp (maxSteps := 2000000) (disch := omega) only [nI64, nU64, nU32, nU8, nSubL, nAddL, nAdd, nSub, nDiv, nMod, nZ, nLit, row_3, row_4, row_5, row_16, row_22, row_85, Ty.den, dflt_it, dflt_li, dflt_kv, Int.toNat_natCast, List.take_length, List.drop_zero]
    repeat (refine br_go ?_ ?_; (focus (((repeat' first | exact rfl | exact ordB_st rfl | exact ordB_of rfl | apply band | apply tst_t | apply nt_t)  <;> (try dsimp only [Ty.den, dflt_kv]) <;> (try simp only [List.length_append, List.length_cons, List.length_nil, List.length_take, List.length_drop, List.length_replicate]) <;> (first | trivial | assumption | omega | (change (_ : Int) ≤ _; omega) | (change (_ : Int) < _; omega) | (change (_ : Nat) * 1 ≤ _; omega) | (change (_ : Nat) * 48 ≤ _; omega) | (change (_ : Nat) * 24 ≤ _; omega) | (change (_ : Nat) * 8 ≤ _; omega) | (change (_ : Nat) * 64 ≤ _; omega) | decide)); done)); (conv => lhs; whnf); (try simp (maxSteps := 2000000) (disch := omega) only [nI64, nU64, nU32, nU8, nSubL, nAddL, nAdd, nSub, nDiv, nMod, nZ, nLit, row_3, row_4, row_5, row_16, row_22, row_85, Ty.den, dflt_it, dflt_li, dflt_kv, Int.toNat_natCast, List.take_length, List.drop_zero]))
    obtain ⟨a0, ea⟩ : ∃ a0 : Nat, max a 0 % 64 = (a0 : Int) := ⟨(max a 0 % 64).toNat, by omega⟩
    try simp (maxSteps := 2000000) (disch := omega) only [nI64, nU64, nU32, nU8, nSubL, nAddL, nAdd, nSub, nDiv, nMod, nZ, nLit, row_3, row_4, row_5, row_16, row_22, row_85, Ty.den, dflt_it, dflt_li, dflt_kv, Int.toNat_natCast, List.take_length, List.drop_zero, mxI, ea]
    have hfl : (appA a0 true l).length ≤ 14 * l.length + 14 := by
      have := appA_le a0 true l
      split at this
      · omega
      · split at this <;> omega
    have ha0 : a0 < 64 := by omega
    generalize hfu : appA a0 true l = fu at *
    refine loop_rule (α := List Int × List Int × Bool × Bool) (fun s => (s.2.2.2 = true → s.1 = fu) ∧ (s.2.2.2 = false → s.1 ++ appA (a0 + s.1.length) s.2.2.1 s.2.1 = fu) ∧ s.2.1.length ≤ l.length)
      (fun s => if s.2.2.2 then 0 else 1 + 3 * s.2.1.length + (if room (a0 + s.1.length) < 7 then 2 else if room (a0 + s.1.length) = 7 then 1 else 0))
      (fun s => (vI a0 :: vB s.2.1 :: V.bad :: V.bad :: V.bad :: V.bad :: vO 3 s.1 :: V.d .bo s.2.2.1 :: V.d .bo s.2.2.2 :: V.bad :: V.bad :: V.bad :: V.bad :: V.bad :: V.bad :: V.bad :: V.bad :: V.bad :: V.bad :: V.bad :: V.bad :: V.bad :: V.bad :: V.bad :: V.bad :: V.bad :: V.bad :: V.bad :: V.bad :: V.bad :: V.bad :: V.bad :: V.bad :: V.bad :: V.bad :: V.bad :: V.bad :: V.bad :: V.bad :: V.bad :: V.bad :: V.bad :: V.bad :: V.bad :: V.bad :: V.bad :: V.bad :: V.bad :: V.bad :: V.bad :: V.bad :: []))
      (fun s => [.fam 0, .gone, .gone, .fam s.1.length])
      (fun s => some (V.tup [vO 0 fu, vI 0])) ?_ F ([], l, true, false) ⟨fun h => Bool.noConfusion h, fun _ => by rw [← hfu]; rfl, Nat.le_refl _⟩ (by simp only [Bool.false_eq_true, if_false]; split; omega; split <;> omega)
    rintro ⟨o, r, bg, en⟩ K ⟨k1, k2, k3⟩ hK
    simp only at k1 k2 k3 hK ⊢
    conv => lhs; whnf
    try simp (maxSteps := 2000000) (disch := omega) only [nI64, nU64, nU32, nU8, nSubL, nAddL, nAdd, nSub, nDiv, nMod, nZ, nLit, row_3, row_4, row_5, row_16, row_22, row_85, Ty.den, dflt_it, dflt_li, dflt_kv, Int.toNat_natCast, List.take_length, List.drop_zero]
    cases en with
    | true =>
      conv => lhs; whnf
      try simp (maxSteps := 2000000) (disch := omega) only [nI64, nU64, nU32, nU8, nSubL, nAddL, nAdd, nSub, nDiv, nMod, nZ, nLit, row_3, row_4, row_5, row_16, row_22, row_85, Ty.den, dflt_it, dflt_li, dflt_kv, Int.toNat_natCast, List.take_length, List.drop_zero]
      repeat (refine br_go ?_ ?_; (focus (((repeat' first | exact rfl | exact ordB_st rfl | exact ordB_of rfl | apply band | apply tst_t | apply nt_t)  <;> (try dsimp only [Ty.den, dflt_kv]) <;> (try simp only [List.length_append, List.length_cons, List.length_nil, List.length_take, List.length_drop, List.length_replicate]) <;> (first | trivial | assumption | omega | (change (_ : Int) ≤ _; omega) | (change (_ : Int) < _; omega) | (change (_ : Nat) * 1 ≤ _; omega) | (change (_ : Nat) * 48 ≤ _; omega) | (change (_ : Nat) * 24 ≤ _; omega) | (change (_ : Nat) * 8 ≤ _; omega) | (change (_ : Nat) * 64 ≤ _; omega) | decide)); done)); (conv => lhs; whnf); (try simp (maxSteps := 2000000) (disch := omega) only [nI64, nU64, nU32, nU8, nSubL, nAddL, nAdd, nSub, nDiv, nMod, nZ, nLit, row_3, row_4, row_5, row_16, row_22, row_85, Ty.den, dflt_it, dflt_li, dflt_kv, Int.toNat_natCast, List.take_length, List.drop_zero]))
      rw [k1 rfl]
    | false =>
      have k2 := k2 rfl
      have hol : o.length + (appA (a0 + o.length) bg r).length = fu.length := by rw [← k2, List.length_append]
      conv => lhs; whnf
      try simp (maxSteps := 2000000) (disch := omega) only [nI64, nU64, nU32, nU8, nSubL, nAddL, nAdd, nSub, nDiv, nMod, nZ, nLit, row_3, row_4, row_5, row_16, row_22, row_85, Ty.den, dflt_it, dflt_li, dflt_kv, Int.toNat_natCast, List.take_length, List.drop_zero]
      repeat (refine br_go ?_ ?_; (focus (((repeat' first | exact rfl | exact ordB_st rfl | exact ordB_of rfl | apply band | apply tst_t | apply nt_t)  <;> (try dsimp only [Ty.den, dflt_kv]) <;> (try simp only [List.length_append, List.length_cons, List.length_nil, List.length_take, List.length_drop, List.length_replicate]) <;> (first | trivial | assumption | omega | (change (_ : Int) ≤ _; omega) | (change (_ : Int) < _; omega) | (change (_ : Nat) * 1 ≤ _; omega) | (change (_ : Nat) * 48 ≤ _; omega) | (change (_ : Nat) * 24 ≤ _; omega) | (change (_ : Nat) * 8 ≤ _; omega) | (change (_ : Nat) * 64 ≤ _; omega) | decide)); done)); (conv => lhs; whnf); (try simp (maxSteps := 2000000) (disch := omega) only [nI64, nU64, nU32, nU8, nSubL, nAddL, nAdd, nSub, nDiv, nMod, nZ, nLit, row_3, row_4, row_5, row_16, row_22, row_85, Ty.den, dflt_it, dflt_li, dflt_kv, Int.toNat_natCast, List.take_length, List.drop_zero]))
      have hr := room_le (a0 + o.length)
      by_cases h7 : room (a0 + o.length) < 7
      · refine br_go (tst_t (by omega)) ?_
        conv => lhs; whnf
        try simp (maxSteps := 2000000) (disch := omega) only [nI64, nU64, nU32, nU8, nSubL, nAddL, nAdd, nSub, nDiv, nMod, nZ, nLit, row_3, row_4, row_5, row_16, row_22, row_85, Ty.den, dflt_it, dflt_li, dflt_kv, Int.toNat_natCast, List.take_length, List.drop_zero]
        repeat (refine br_go ?_ ?_; (focus (((repeat' first | exact rfl | exact ordB_st rfl | exact ordB_of rfl | apply band | apply tst_t | apply nt_t)  <;> (try dsimp only [Ty.den, dflt_kv]) <;> (try simp only [List.length_append, List.length_cons, List.length_nil, List.length_take, List.length_drop, List.length_replicate]) <;> (first | trivial | assumption | omega | (change (_ : Int) ≤ _; omega) | (change (_ : Int) < _; omega) | (change (_ : Nat) * 1 ≤ _; omega) | (change (_ : Nat) * 48 ≤ _; omega) | (change (_ : Nat) * 24 ≤ _; omega) | (change (_ : Nat) * 8 ≤ _; omega) | (change (_ : Nat) * 64 ≤ _; omega) | decide)); done)); (conv => lhs; whnf); (try simp (maxSteps := 2000000) (disch := omega) only [nI64, nU64, nU32, nU8, nSubL, nAddL, nAdd, nSub, nDiv, nMod, nZ, nLit, row_3, row_4, row_5, row_16, row_22, row_85, Ty.den, dflt_it, dflt_li, dflt_kv, Int.toNat_natCast, List.take_length, List.drop_zero]))
        have hpd := appA_pad bg r h7
        rw [hpd, ← List.append_assoc] at k2
        refine hK (o ++ List.replicate (room (a0 + o.length)) 0, r, bg, false) ⟨fun h => Bool.noConfusion h, fun _ => by rw [← k2, List.length_append, List.length_replicate, Nat.add_assoc], k3⟩ ?_
        simp only [Bool.false_eq_true, if_false]
        rw [if_pos h7, List.length_append, List.length_replicate, ← Nat.add_assoc, room_next', if_neg (by decide), if_neg (by decide)]
        omega
      · refine br_no (tst_f (by omega)) ?_
        conv => lhs; whnf
        try simp (maxSteps := 2000000) (disch := omega) only [nI64, nU64, nU32, nU8, nSubL, nAddL, nAdd, nSub, nDiv, nMod, nZ, nLit, row_3, row_4, row_5, row_16, row_22, row_85, Ty.den, dflt_it, dflt_li, dflt_kv, Int.toNat_natCast, List.take_length, List.drop_zero]
        repeat (refine br_go ?_ ?_; (focus (((repeat' first | exact rfl | exact ordB_st rfl | exact ordB_of rfl | apply band | apply tst_t | apply nt_t)  <;> (try dsimp only [Ty.den, dflt_kv]) <;> (try simp only [List.length_append, List.length_cons, List.length_nil, List.length_take, List.length_drop, List.length_replicate]) <;> (first | trivial | assumption | omega | (change (_ : Int) ≤ _; omega) | (change (_ : Int) < _; omega) | (change (_ : Nat) * 1 ≤ _; omega) | (change (_ : Nat) * 48 ≤ _; omega) | (change (_ : Nat) * 24 ≤ _; omega) | (change (_ : Nat) * 8 ≤ _; omega) | (change (_ : Nat) * 64 ≤ _; omega) | decide)); done)); (conv => lhs; whnf); (try simp (maxSteps := 2000000) (disch := omega) only [nI64, nU64, nU32, nU8, nSubL, nAddL, nAdd, nSub, nDiv, nMod, nZ, nLit, row_3, row_4, row_5, row_16, row_22, row_85, Ty.den, dflt_it, dflt_li, dflt_kv, Int.toNat_natCast, List.take_length, List.drop_zero]))
        try simp (maxSteps := 2000000) (disch := omega) only [nI64, nU64, nU32, nU8, nSubL, nAddL, nAdd, nSub, nDiv, nMod, nZ, nLit, row_3, row_4, row_5, row_16, row_22, row_85, Ty.den, dflt_it, dflt_li, dflt_kv, Int.toNat_natCast, List.take_length, List.drop_zero, mnI]
        by_cases h8 : r.length ≤ room (a0 + o.length) - 7
        · have em : min ((room (a0 + o.length) : Int) - 7) (r.length : Int) = (r.length : Int) := by omega
          try simp (maxSteps := 2000000) (disch := omega) only [nI64, nU64, nU32, nU8, nSubL, nAddL, nAdd, nSub, nDiv, nMod, nZ, nLit, row_3, row_4, row_5, row_16, row_22, row_85, Ty.den, dflt_it, dflt_li, dflt_kv, Int.toNat_natCast, List.take_length, List.drop_zero, em]
          repeat (refine br_go ?_ ?_; (focus (((repeat' first | exact rfl | exact ordB_st rfl | exact ordB_of rfl | apply band | apply tst_t | apply nt_t)  <;> (try dsimp only [Ty.den, dflt_kv]) <;> (try simp only [List.length_append, List.length_cons, List.length_nil, List.length_take, List.length_drop, List.length_replicate]) <;> (first | trivial | assumption | omega | (change (_ : Int) ≤ _; omega) | (change (_ : Int) < _; omega) | (change (_ : Nat) * 1 ≤ _; omega) | (change (_ : Nat) * 48 ≤ _; omega) | (change (_ : Nat) * 24 ≤ _; omega) | (change (_ : Nat) * 8 ≤ _; omega) | (change (_ : Nat) * 64 ≤ _; omega) | decide)); done)); (conv => lhs; whnf); (try simp (maxSteps := 2000000) (disch := omega) only [nI64, nU64, nU32, nU8, nSubL, nAddL, nAdd, nSub, nDiv, nMod, nZ, nLit, row_3, row_4, row_5, row_16, row_22, row_85, Ty.den, dflt_it, dflt_li, dflt_kv, Int.toNat_natCast, List.take_length, List.drop_zero]))
          try simp (maxSteps := 2000000) (disch := omega) only [nI64, nU64, nU32, nU8, nSubL, nAddL, nAdd, nSub, nDiv, nMod, nZ, nLit, row_3, row_4, row_5, row_16, row_22, row_85, Ty.den, dflt_it, dflt_li, dflt_kv, Int.toNat_natCast, List.take_length, List.drop_zero, fragS_len, tst_t trivial]
          have hpd := appA_end bg h7 h8
          rw [hpd] at k2
          rw [hpd, fragS_len] at hol
          repeat (refine br_go ?_ ?_; (focus (((repeat' first | exact rfl | exact ordB_st rfl | exact ordB_of rfl | apply band | apply tst_t | apply nt_t)  <;> (try dsimp only [Ty.den, dflt_kv]) <;> (try simp only [List.length_append, List.length_cons, List.length_nil, List.length_take, List.length_drop, List.length_replicate]) <;> (first | trivial | assumption | omega | (change (_ : Int) ≤ _; omega) | (change (_ : Int) < _; omega) | (change (_ : Nat) * 1 ≤ _; omega) | (change (_ : Nat) * 48 ≤ _; omega) | (change (_ : Nat) * 24 ≤ _; omega) | (change (_ : Nat) * 8 ≤ _; omega) | (change (_ : Nat) * 64 ≤ _; omega) | decide)); done)); (conv => lhs; whnf); (try simp (maxSteps := 2000000) (disch := omega) only [nI64, nU64, nU32, nU8, nSubL, nAddL, nAdd, nSub, nDiv, nMod, nZ, nLit, row_3, row_4, row_5, row_16, row_22, row_85, Ty.den, dflt_it, dflt_li, dflt_kv, Int.toNat_natCast, List.take_length, List.drop_zero]))
          refine hK (o ++ fragS (kindS bg true) r, List.drop r.length r, false, true) ⟨fun _ => k2, fun h => Bool.noConfusion h, by show (List.drop r.length r).length ≤ l.length; rw [List.length_drop]; omega⟩ ?_
          simp only [Bool.false_eq_true, if_false, if_true]
          omega
        · have em : min ((room (a0 + o.length) : Int) - 7) (r.length : Int) = ((room (a0 + o.length) - 7 : Nat) : Int) := by omega
          try simp (maxSteps := 2000000) (disch := omega) only [nI64, nU64, nU32, nU8, nSubL, nAddL, nAdd, nSub, nDiv, nMod, nZ, nLit, row_3, row_4, row_5, row_16, row_22, row_85, Ty.den, dflt_it, dflt_li, dflt_kv, Int.toNat_natCast, List.take_length, List.drop_zero, em]
          repeat (refine br_go ?_ ?_; (focus (((repeat' first | exact rfl | exact ordB_st rfl | exact ordB_of rfl | apply band | apply tst_t | apply nt_t)  <;> (try dsimp only [Ty.den, dflt_kv]) <;> (try simp only [List.length_append, List.length_cons, List.length_nil, List.length_take, List.length_drop, List.length_replicate]) <;> (first | trivial | assumption | omega | (change (_ : Int) ≤ _; omega) | (change (_ : Int) < _; omega) | (change (_ : Nat) * 1 ≤ _; omega) | (change (_ : Nat) * 48 ≤ _; omega) | (change (_ : Nat) * 24 ≤ _; omega) | (change (_ : Nat) * 8 ≤ _; omega) | (change (_ : Nat) * 64 ≤ _; omega) | decide)); done)); (conv => lhs; whnf); (try simp (maxSteps := 2000000) (disch := omega) only [nI64, nU64, nU32, nU8, nSubL, nAddL, nAdd, nSub, nDiv, nMod, nZ, nLit, row_3, row_4, row_5, row_16, row_22, row_85, Ty.den, dflt_it, dflt_li, dflt_kv, Int.toNat_natCast, List.take_length, List.drop_zero]))
          have htl : (List.take (room (a0 + o.length) - 7) r).length = room (a0 + o.length) - 7 := by rw [List.length_take]; omega
          have hpd := appA_go bg h7 h8
          rw [hpd, ← List.append_assoc] at k2
          rw [hpd, List.length_append, fragS_len, htl] at hol
          have ef : tst (((room (a0 + o.length) - 7 : Nat) : Int) = (r.length : Int)) = false := tst_f (by omega)
          try simp (maxSteps := 2000000) (disch := omega) only [nI64, nU64, nU32, nU8, nSubL, nAddL, nAdd, nSub, nDiv, nMod, nZ, nLit, row_3, row_4, row_5, row_16, row_22, row_85, Ty.den, dflt_it, dflt_li, dflt_kv, Int.toNat_natCast, List.take_length, List.drop_zero, fragS_len, htl, ef]
          repeat (refine br_go ?_ ?_; (focus (((repeat' first | exact rfl | exact ordB_st rfl | exact ordB_of rfl | apply band | apply tst_t | apply nt_t)  <;> (try dsimp only [Ty.den, dflt_kv]) <;> (try simp only [List.length_append, List.length_cons, List.length_nil, List.length_take, List.length_drop, List.length_replicate]) <;> (first | trivial | assumption | omega | (change (_ : Int) ≤ _; omega) | (change (_ : Int) < _; omega) | (change (_ : Nat) * 1 ≤ _; omega) | (change (_ : Nat) * 48 ≤ _; omega) | (change (_ : Nat) * 24 ≤ _; omega) | (change (_ : Nat) * 8 ≤ _; omega) | (change (_ : Nat) * 64 ≤ _; omega) | decide)); done)); (conv => lhs; whnf); (try simp (maxSteps := 2000000) (disch := omega) only [nI64, nU64, nU32, nU8, nSubL, nAddL, nAdd, nSub, nDiv, nMod, nZ, nLit, row_3, row_4, row_5, row_16, row_22, row_85, Ty.den, dflt_it, dflt_li, dflt_kv, Int.toNat_natCast, List.take_length, List.drop_zero]))
          have hp' : o.length + (7 + (room (a0 + o.length) - 7)) = o.length + room (a0 + o.length) := by omega
          refine hK (o ++ fragS (kindS bg false) (List.take (room (a0 + o.length) - 7) r), List.drop (room (a0 + o.length) - 7) r, false, false) ⟨fun h => Bool.noConfusion h, fun _ => by rw [← k2, List.length_append, fragS_len, htl, hp', Nat.add_assoc], by show (List.drop _ r).length ≤ l.length; rw [List.length_drop]; omega⟩ ?_
          simp only [Bool.false_eq_true, if_false]
          rw [List.length_append, fragS_len, htl, hp', ← Nat.add_assoc, room_next', if_neg (by decide), if_neg (by decide), List.length_drop, if_neg h7]
          split <;> omega
end Go.Proofs.YtbcfagackcnpkaaDoor.Ev
/- Logs: the program reads records. -/
namespace Go.Proofs.YtbcfagackcnpkaaDoor.Ev
open Go Go.RowKit
set_option linter.unusedVariables false
set_option linter.unusedSimpArgs false
set_option maxRecDepth 100000
set_option maxHeartbeats 8000000
def trimL (c : Int) (s : List Int) : List Int := s.dropWhile (· == c)
def trimR (c : Int) (s : List Int) : List Int := (s.reverse.dropWhile (· == c)).reverse
theorem trimR_go {c : Int} {s : List Int} (h : 0 < s.length) (h2 : s.getD (s.length - 1) 0 = c) : trimR c (s.take (s.length - 1)) = trimR c s := by
  have e : s = s.take (s.length - 1) ++ [s.getD (s.length - 1) 0] := by
    have := take_at (d := (0 : Int)) (l := s) (i := s.length - 1) (by omega)
    rw [show s.length - 1 + 1 = s.length by omega, List.take_length] at this
    exact this
  have : trimR c s = trimR c (s.take (s.length - 1) ++ [s.getD (s.length - 1) 0]) := congrArg _ e
  rw [this, h2]
  unfold trimR
  rw [List.reverse_append]
  simp
theorem trimR_no {c : Int} {s : List Int} (h : ¬ (0 < s.length ∧ s.getD (s.length - 1) 0 = c)) : trimR c s = s := by
  rcases Nat.eq_zero_or_pos s.length with h0 | h0
  · rw [List.length_eq_zero_iff.1 h0]; rfl
  · have e : s = s.take (s.length - 1) ++ [s.getD (s.length - 1) 0] := by
      have := take_at (d := (0 : Int)) (l := s) (i := s.length - 1) (by omega)
      rw [show s.length - 1 + 1 = s.length by omega, List.take_length] at this
      exact this
    have hne : ¬ s.getD (s.length - 1) 0 = c := fun hx => h ⟨h0, hx⟩
    generalize s.getD (s.length - 1) 0 = x at *
    rw [e]
    unfold trimR
    rw [List.reverse_append]
    simp [hne]
theorem trimL_go {c : Int} {s : List Int} (h : 0 < s.length) (h2 : s.getD 0 0 = c) : trimL c (s.drop 1) = trimL c s := by
  cases s with
  | nil => simp at h
  | cons x s => simp at h2; simp [trimL, h2]
theorem trimL_no {c : Int} {s : List Int} (h : ¬ (0 < s.length ∧ s.getD 0 0 = c)) : trimL c s = s := by
  cases s with
  | nil => rfl
  | cons x s =>
    have : ¬ x = c := fun hx => h ⟨by simp, by simpa using hx⟩
    simp [trimL, this]
theorem trim_nil (s : List Int) : (trimL 0 (trimR 0 s)).length = 0 ↔ s.all (· == 0) = true := by
  have dw : ∀ l : List Int, l.dropWhile (· == 0) = [] ↔ l.all (· == 0) = true := by
    intro l
    induction l with
    | nil => simp
    | cons x l ih => by_cases hx : x = 0 <;> simp [hx, ih]
  have hall : ∀ l : List Int, (l.reverse.all (· == 0)) = l.all (· == 0) := fun l => by rw [List.all_reverse]
  rw [List.length_eq_zero_iff]
  unfold trimL trimR
  rw [dw, hall]
  constructor
  · intro h
    have : s.reverse.all (· == 0) = true := by
      have hs : s.reverse = s.reverse.takeWhile (· == 0) ++ s.reverse.dropWhile (· == 0) := (List.takeWhile_append_dropWhile).symm
      rw [hs, List.all_append, h, Bool.and_true]
      exact List.all_takeWhile
    rwa [hall] at this
  · intro h
    rw [← hall] at h
    rw [(dw _).2 h]
    rfl
noncomputable def trimRSp : Sp := ⟨[byl, u8], fun _ => true, fun x => vB (trimR x.2.1 x.1)⟩
noncomputable def trimLSp : Sp := ⟨[byl, u8], fun _ => true, fun x => vB (trimL x.2.1 x.1)⟩
abbrev trimRC : Ctx := ⟨rows, (fun | 0 => ([0, 1], [0]) | 1 => ([], [0, 1]) | _ => ([], []))⟩
theorem trimR_ok (T : Tab) : trimRSp.OkW T trimRC F42 := by
  rintro ⟨(l : List Int), (c : Int), _⟩ hf _
  have hl : l.length ≤ 140737488355328 := (fits_by.1 hf.1).1
  obtain ⟨F, hF⟩ : ∃ F : Nat, F = l.length + 5 := ⟨_, rfl⟩
  refine ⟨F, 0, ?_⟩
  show evFn _ _ _ _ _ [vB l, .d u8 c] [] _ = some (vB (trimR c l) : V)
  conv => lhs; whnf
  try simp (maxSteps := 2000000) (disch := omega) only [nI64, nU64, nU32, nU8, nSubL, nAddL, nAdd, nSub, nDiv, nMod, nZ, nLit, row_3, row_4, row_5, row_16, row_22, row_85, Ty.den, dflt_it, dflt_li, dflt_kv, Int.toNat_natCast, List.take_length, List.drop_zero]
  refine loop_rule (α := List Int) (fun s => s.length ≤ 140737488355328 ∧ trimR c s = trimR c l) (fun s => s.length)
    (fun s => (vB s :: V.d u8 c :: V.bad :: V.bad :: V.bad :: V.bad :: V.bad :: V.bad :: V.bad :: V.bad :: V.bad :: V.bad :: V.bad :: V.bad :: V.bad :: V.bad :: V.bad :: V.bad :: V.bad :: V.bad :: V.bad :: V.bad :: V.bad :: V.bad :: []))
    (fun s => [.fam 0]) (fun s => some (vB (trimR c l))) ?_ F l ⟨hl, rfl⟩ (by omega)
  rintro s K ⟨k1, k2⟩ hK
  conv => lhs; whnf
  try simp (maxSteps := 2000000) (disch := omega) only [nI64, nU64, nU32, nU8, nSubL, nAddL, nAdd, nSub, nDiv, nMod, nZ, nLit, row_3, row_4, row_5, row_16, row_22, row_85, Ty.den, dflt_it, dflt_li, dflt_kv, Int.toNat_natCast, List.take_length, List.drop_zero]
  by_cases h0 : s.length > 0
  · refine br_go (tst_t (by omega)) ?_
    conv => lhs; whnf
    try simp (maxSteps := 2000000) (disch := omega) only [nI64, nU64, nU32, nU8, nSubL, nAddL, nAdd, nSub, nDiv, nMod, nZ, nLit, row_3, row_4, row_5, row_16, row_22, row_85, Ty.den, dflt_it, dflt_li, dflt_kv, Int.toNat_natCast, List.take_length, List.drop_zero]
    repeat (refine br_go ?_ ?_; (focus (((repeat' first | exact rfl | exact ordB_st rfl | exact ordB_of rfl | apply band | apply tst_t | apply nt_t)  <;> (try dsimp only [Ty.den, dflt_kv]) <;> (try simp only [List.length_append, List.length_cons, List.length_nil, List.length_take, List.length_drop, List.length_replicate]) <;> (first | trivial | assumption | omega | (change (_ : Int) ≤ _; omega) | (change (_ : Int) < _; omega) | (change (_ : Nat) * 1 ≤ _; omega) | (change (_ : Nat) * 48 ≤ _; omega) | (change (_ : Nat) * 24 ≤ _; omega) | (change (_ : Nat) * 8 ≤ _; omega) | (change (_ : Nat) * 64 ≤ _; omega) | decide)); done)); (conv => lhs; whnf); (try simp (maxSteps := 2000000) (disch := omega) only [nI64, nU64, nU32, nU8, nSubL, nAddL, nAdd, nSub, nDiv, nMod, nZ, nLit, row_3, row_4, row_5, row_16, row_22, row_85, Ty.den, dflt_it, dflt_li, dflt_kv, Int.toNat_natCast, List.take_length, List.drop_zero]))
    by_cases h1 : s.getD (s.length - 1) 0 = c
    · refine br_go (tst_t (h1)) ?_
      conv => lhs; whnf
      try simp (maxSteps := 2000000) (disch := omega) only [nI64, nU64, nU32, nU8, nSubL, nAddL, nAdd, nSub, nDiv, nMod, nZ, nLit, row_3, row_4, row_5, row_16, row_22, row_85, Ty.den, dflt_it, dflt_li, dflt_kv, Int.toNat_natCast, List.take_length, List.drop_zero]
      repeat (refine br_go ?_ ?_; (focus (((repeat' first | exact rfl | exact ordB_st rfl | exact ordB_of rfl | apply band | apply tst_t | apply nt_t)  <;> (try dsimp only [Ty.den, dflt_kv]) <;> (try simp only [List.length_append, List.length_cons, List.length_nil, List.length_take, List.length_drop, List.length_replicate]) <;> (first | trivial | assumption | omega | (change (_ : Int) ≤ _; omega) | (change (_ : Int) < _; omega) | (change (_ : Nat) * 1 ≤ _; omega) | (change (_ : Nat) * 48 ≤ _; omega) | (change (_ : Nat) * 24 ≤ _; omega) | (change (_ : Nat) * 8 ≤ _; omega) | (change (_ : Nat) * 64 ≤ _; omega) | decide)); done)); (conv => lhs; whnf); (try simp (maxSteps := 2000000) (disch := omega) only [nI64, nU64, nU32, nU8, nSubL, nAddL, nAdd, nSub, nDiv, nMod, nZ, nLit, row_3, row_4, row_5, row_16, row_22, row_85, Ty.den, dflt_it, dflt_li, dflt_kv, Int.toNat_natCast, List.take_length, List.drop_zero]))
      exact hK (s.take (s.length - 1)) ⟨by rw [List.length_take]; omega, by rw [trimR_go h0 h1, k2]⟩ (by rw [List.length_take]; omega)
    · refine br_no (tst_f (h1)) ?_
      conv => lhs; whnf
      try simp (maxSteps := 2000000) (disch := omega) only [nI64, nU64, nU32, nU8, nSubL, nAddL, nAdd, nSub, nDiv, nMod, nZ, nLit, row_3, row_4, row_5, row_16, row_22, row_85, Ty.den, dflt_it, dflt_li, dflt_kv, Int.toNat_natCast, List.take_length, List.drop_zero]
      repeat (refine br_go ?_ ?_; (focus (((repeat' first | exact rfl | exact ordB_st rfl | exact ordB_of rfl | apply band | apply tst_t | apply nt_t)  <;> (try dsimp only [Ty.den, dflt_kv]) <;> (try simp only [List.length_append, List.length_cons, List.length_nil, List.length_take, List.length_drop, List.length_replicate]) <;> (first | trivial | assumption | omega | (change (_ : Int) ≤ _; omega) | (change (_ : Int) < _; omega) | (change (_ : Nat) * 1 ≤ _; omega) | (change (_ : Nat) * 48 ≤ _; omega) | (change (_ : Nat) * 24 ≤ _; omega) | (change (_ : Nat) * 8 ≤ _; omega) | (change (_ : Nat) * 64 ≤ _; omega) | decide)); done)); (conv => lhs; whnf); (try simp (maxSteps := 2000000) (disch := omega) only [nI64, nU64, nU32, nU8, nSubL, nAddL, nAdd, nSub, nDiv, nMod, nZ, nLit, row_3, row_4, row_5, row_16, row_22, row_85, Ty.den, dflt_it, dflt_li, dflt_kv, Int.toNat_natCast, List.take_length, List.drop_zero]))
      rw [← k2, trimR_no (fun h => h1 h.2)]
  · refine br_no (tst_f (by omega)) ?_
    conv => lhs; whnf
    try simp (maxSteps := 2000000) (disch := omega) only [nI64, nU64, nU32, nU8, nSubL, nAddL, nAdd, nSub, nDiv, nMod, nZ, nLit, row_3, row_4, row_5, row_16, row_22, row_85, Ty.den, dflt_it, dflt_li, dflt_kv, Int.toNat_natCast, List.take_length, List.drop_zero]
    repeat (refine br_go ?_ ?_; (focus (((repeat' first | exact rfl | exact ordB_st rfl | exact ordB_of rfl | apply band | apply tst_t | apply nt_t)  <;> (try dsimp only [Ty.den, dflt_kv]) <;> (try simp only [List.length_append, List.length_cons, List.length_nil, List.length_take, List.length_drop, List.length_replicate]) <;> (first | trivial | assumption | omega | (change (_ : Int) ≤ _; omega) | (change (_ : Int) < _; omega) | (change (_ : Nat) * 1 ≤ _; omega) | (change (_ : Nat) * 48 ≤ _; omega) | (change (_ : Nat) * 24 ≤ _; omega) | (change (_ : Nat) * 8 ≤ _; omega) | (change (_ : Nat) * 64 ≤ _; omega) | decide)); done)); (conv => lhs; whnf); (try simp (maxSteps := 2000000) (disch := omega) only [nI64, nU64, nU32, nU8, nSubL, nAddL, nAdd, nSub, nDiv, nMod, nZ, nLit, row_3, row_4, row_5, row_16, row_22, row_85, Ty.den, dflt_it, dflt_li, dflt_kv, Int.toNat_natCast, List.take_length, List.drop_zero]))
    rw [← k2, trimR_no (fun h => h0 h.1)]
abbrev trimLC : Ctx := ⟨rows, (fun | 0 => ([0, 1], [0]) | 1 => ([], [0, 1]) | _ => ([], []))⟩
theorem trimL_ok (T : Tab) : trimLSp.OkW T trimLC F41 := by
  rintro ⟨(l : List Int), (c : Int), _⟩ hf _
  have hl : l.length ≤ 140737488355328 := (fits_by.1 hf.1).1
  obtain ⟨F, hF⟩ : ∃ F : Nat, F = l.length + 5 := ⟨_, rfl⟩
  refine ⟨F, 0, ?_⟩
  show evFn _ _ _ _ _ [vB l, .d u8 c] [] _ = some (vB (trimL c l) : V)
  conv => lhs; whnf
  try simp (maxSteps := 2000000) (disch := omega) only [nI64, nU64, nU32, nU8, nSubL, nAddL, nAdd, nSub, nDiv, nMod, nZ, nLit, row_3, row_4, row_5, row_16, row_22, row_85, Ty.den, dflt_it, dflt_li, dflt_kv, Int.toNat_natCast, List.take_length, List.drop_zero]
  refine loop_rule (α := List Int) (fun s => s.length ≤ 140737488355328 ∧ trimL c s = trimL c l) (fun s => s.length)
    (fun s => (vB s :: V.d u8 c :: V.bad :: V.bad :: V.bad :: V.bad :: V.bad :: V.bad :: V.bad :: V.bad :: V.bad :: V.bad :: V.bad :: V.bad :: V.bad :: V.bad :: V.bad :: V.bad :: V.bad :: V.bad :: V.bad :: []))
    (fun s => [.fam 0]) (fun s => some (vB (trimL c l))) ?_ F l ⟨hl, rfl⟩ (by omega)
  rintro s K ⟨k1, k2⟩ hK
  conv => lhs; whnf
  try simp (maxSteps := 2000000) (disch := omega) only [nI64, nU64, nU32, nU8, nSubL, nAddL, nAdd, nSub, nDiv, nMod, nZ, nLit, row_3, row_4, row_5, row_16, row_22, row_85, Ty.den, dflt_it, dflt_li, dflt_kv, Int.toNat_natCast, List.take_length, List.drop_zero]
  by_cases h0 : s.length > 0
  · refine br_go (tst_t (by omega)) ?_
    conv => lhs; whnf
    try simp (maxSteps := 2000000) (disch := omega) only [nI64, nU64, nU32, nU8, nSubL, nAddL, nAdd, nSub, nDiv, nMod, nZ, nLit, row_3, row_4, row_5, row_16, row_22, row_85, Ty.den, dflt_it, dflt_li, dflt_kv, Int.toNat_natCast, List.take_length, List.drop_zero]
    repeat (refine br_go ?_ ?_; (focus (((repeat' first | exact rfl | exact ordB_st rfl | exact ordB_of rfl | apply band | apply tst_t | apply nt_t)  <;> (try dsimp only [Ty.den, dflt_kv]) <;> (try simp only [List.length_append, List.length_cons, List.length_nil, List.length_take, List.length_drop, List.length_replicate]) <;> (first | trivial | assumption | omega | (change (_ : Int) ≤ _; omega) | (change (_ : Int) < _; omega) | (change (_ : Nat) * 1 ≤ _; omega) | (change (_ : Nat) * 48 ≤ _; omega) | (change (_ : Nat) * 24 ≤ _; omega) | (change (_ : Nat) * 8 ≤ _; omega) | (change (_ : Nat) * 64 ≤ _; omega) | decide)); done)); (conv => lhs; whnf); (try simp (maxSteps := 2000000) (disch := omega) only [nI64, nU64, nU32, nU8, nSubL, nAddL, nAdd, nSub, nDiv, nMod, nZ, nLit, row_3, row_4, row_5, row_16, row_22, row_85, Ty.den, dflt_it, dflt_li, dflt_kv, Int.toNat_natCast, List.take_length, List.drop_zero]))
    by_cases h1 : s.getD 0 0 = c
    · refine br_go (tst_t (h1)) ?_
      conv => lhs; whnf
      try simp (maxSteps := 2000000) (disch := omega) only [nI64, nU64, nU32, nU8, nSubL, nAddL, nAdd, nSub, nDiv, nMod, nZ, nLit, row_3, row_4, row_5, row_16, row_22, row_85, Ty.den, dflt_it, dflt_li, dflt_kv, Int.toNat_natCast, List.take_length, List.drop_zero]
      repeat (refine br_go ?_ ?_; (focus (((repeat' first | exact rfl | exact ordB_st rfl | exact ordB_of rfl | apply band | apply tst_t | apply nt_t)  <;> (try dsimp only [Ty.den, dflt_kv]) <;> (try simp only [List.length_append, List.length_cons, List.length_nil, List.length_take, List.length_drop, List.length_replicate]) <;> (first | trivial | assumption | omega | (change (_ : Int) ≤ _; omega) | (change (_ : Int) < _; omega) | (change (_ : Nat) * 1 ≤ _; omega) | (change (_ : Nat) * 48 ≤ _; omega) | (change (_ : Nat) * 24 ≤ _; omega) | (change (_ : Nat) * 8 ≤ _; omega) | (change (_ : Nat) * 64 ≤ _; omega) | decide)); done)); (conv => lhs; whnf); (try simp (maxSteps := 2000000) (disch := omega) only [nI64, nU64, nU32, nU8, nSubL, nAddL, nAdd, nSub, nDiv, nMod, nZ, nLit, row_3, row_4, row_5, row_16, row_22, row_85, Ty.den, dflt_it, dflt_li, dflt_kv, Int.toNat_natCast, List.take_length, List.drop_zero]))
      exact hK (s.drop 1) ⟨by rw [List.length_drop]; omega, by rw [trimL_go h0 h1, k2]⟩ (by rw [List.length_drop]; omega)
    · refine br_no (tst_f (h1)) ?_
      conv => lhs; whnf
      try simp (maxSteps := 2000000) (disch := omega) only [nI64, nU64, nU32, nU8, nSubL, nAddL, nAdd, nSub, nDiv, nMod, nZ, nLit, row_3, row_4, row_5, row_16, row_22, row_85, Ty.den, dflt_it, dflt_li, dflt_kv, Int.toNat_natCast, List.take_length, List.drop_zero]
      refine br_no (tst_f (by omega)) ?_
      conv => lhs; whnf
      try simp (maxSteps := 2000000) (disch := omega) only [nI64, nU64, nU32, nU8, nSubL, nAddL, nAdd, nSub, nDiv, nMod, nZ, nLit, row_3, row_4, row_5, row_16, row_22, row_85, Ty.den, dflt_it, dflt_li, dflt_kv, Int.toNat_natCast, List.take_length, List.drop_zero]
      repeat (refine br_go ?_ ?_; (focus (((repeat' first | exact rfl | exact ordB_st rfl | exact ordB_of rfl | apply band | apply tst_t | apply nt_t)  <;> (try dsimp only [Ty.den, dflt_kv]) <;> (try simp only [List.length_append, List.length_cons, List.length_nil, List.length_take, List.length_drop, List.length_replicate]) <;> (first | trivial | assumption | omega | (change (_ : Int) ≤ _; omega) | (change (_ : Int) < _; omega) | (change (_ : Nat) * 1 ≤ _; omega) | (change (_ : Nat) * 48 ≤ _; omega) | (change (_ : Nat) * 24 ≤ _; omega) | (change (_ : Nat) * 8 ≤ _; omega) | (change (_ : Nat) * 64 ≤ _; omega) | decide)); done)); (conv => lhs; whnf); (try simp (maxSteps := 2000000) (disch := omega) only [nI64, nU64, nU32, nU8, nSubL, nAddL, nAdd, nSub, nDiv, nMod, nZ, nLit, row_3, row_4, row_5, row_16, row_22, row_85, Ty.den, dflt_it, dflt_li, dflt_kv, Int.toNat_natCast, List.take_length, List.drop_zero]))
      rw [← k2, trimL_no (fun h => h1 h.2)]
  · refine br_no (tst_f (by omega)) ?_
    conv => lhs; whnf
    try simp (maxSteps := 2000000) (disch := omega) only [nI64, nU64, nU32, nU8, nSubL, nAddL, nAdd, nSub, nDiv, nMod, nZ, nLit, row_3, row_4, row_5, row_16, row_22, row_85, Ty.den, dflt_it, dflt_li, dflt_kv, Int.toNat_natCast, List.take_length, List.drop_zero]
    repeat (refine br_go ?_ ?_; (focus (((repeat' first | exact rfl | exact ordB_st rfl | exact ordB_of rfl | apply band | apply tst_t | apply nt_t)  <;> (try dsimp only [Ty.den, dflt_kv]) <;> (try simp only [List.length_append, List.length_cons, List.length_nil, List.length_take, List.length_drop, List.length_replicate]) <;> (first | trivial | assumption | omega | (change (_ : Int) ≤ _; omega) | (change (_ : Int) < _; omega) | (change (_ : Nat) * 1 ≤ _; omega) | (change (_ : Nat) * 48 ≤ _; omega) | (change (_ : Nat) * 24 ≤ _; omega) | (change (_ : Nat) * 8 ≤ _; omega) | (change (_ : Nat) * 64 ≤ _; omega) | decide)); done)); (conv => lhs; whnf); (try simp (maxSteps := 2000000) (disch := omega) only [nI64, nU64, nU32, nU8, nSubL, nAddL, nAdd, nSub, nDiv, nMod, nZ, nLit, row_3, row_4, row_5, row_16, row_22, row_85, Ty.den, dflt_it, dflt_li, dflt_kv, Int.toNat_natCast, List.take_length, List.drop_zero]))
    rw [← k2, trimL_no (fun h => h0 h.1), List.length_eq_zero_iff.1 (by omega : s.length = 0)]
abbrev pc : Ty := .co u8 (.co byl (.co .bo .ue))
abbrev PC : Type := Int × List Int × Bool × Unit
theorem or_len {x y : Int} (hx : 0 ≤ x ∧ x < 256) (hy : 0 ≤ y ∧ y < 256) : Go.bits .or .i64 (IntKind.i64.wrap x) (IntKind.i64.wrap (IntKind.i64.wrap y * 2 ^ min 8 IntKind.i64.bits)) = x + 256 * y := by
  obtain ⟨a, rfl⟩ : ∃ a : Nat, x = a := ⟨x.toNat, by omega⟩
  obtain ⟨b, rfl⟩ : ∃ b : Nat, y = b := ⟨y.toNat, by omega⟩
  rw [nI64 (n := (a : Int)) (by omega) (by omega), nI64 (n := (b : Int)) (by omega) (by omega), show ((b : Int) * 2 ^ min 8 IntKind.i64.bits) = ((256 * b : Nat) : Int) by rw [show min 8 IntKind.i64.bits = 8 by decide]; omega, nI64 (by omega) (by omega)]
  unfold Go.bits
  have e : (BitVec.ofInt IntKind.i64.bits (a : Int) ||| BitVec.ofInt IntKind.i64.bits ((256 * b : Nat) : Int)).toNat = a + 256 * b := by
    rw [BitVec.ofInt_natCast, BitVec.ofInt_natCast, BitVec.toNat_or, BitVec.toNat_ofNat, BitVec.toNat_ofNat, show IntKind.i64.bits = 64 by decide, Nat.mod_eq_of_lt (by omega), Nat.mod_eq_of_lt (by omega), Nat.or_comm, show 256 * b = b <<< 8 by rw [Nat.shiftLeft_eq]; omega, ← Nat.shiftLeft_add_eq_or_of_lt (by omega), Nat.add_comm]
  simp only [e]
  rw [nI64 (by omega) (by omega)]
  omega
theorem or_len' {x y : Int} (hx : 0 ≤ x ∧ x < 256) (hy : 0 ≤ y ∧ y < 256) : Go.bits .or .i64 x (IntKind.i64.wrap (y * 2 ^ min 8 IntKind.i64.bits)) = x + 256 * y := by
  have := or_len hx hy
  rwa [nI64 (n := x) (by omega) (by omega), nI64 (n := y) (by omega) (by omega)] at this
def nextR (b : List Int) (a : Nat) : PC × Int × Bool := match nextS b a with
  | none => ((0, [], false, ()), 0, false)
  | some (k, d, e) => ((k, d, decide (e % 64 = 0), ()), (e : Int), true)
theorem headS_long {b : List Int} {m n : Nat} (g2 : ¬ b.length < m + 7) (hn : b.getD (m + 4) 0 + 256 * b.getD (m + 5) 0 = (n : Int)) (h : room m - 7 < n ∨ b.length < m + 7 + n) : headS b m = none := by
  unfold headS
  rw [if_neg g2, hn, Int.toNat_natCast]
  exact if_pos h
theorem headS_go {b : List Int} {m n : Nat} (g2 : ¬ b.length < m + 7) (hn : b.getD (m + 4) 0 + 256 * b.getD (m + 5) 0 = (n : Int)) (h : ¬ room m - 7 < n) (h2 : ¬ b.length < m + 7 + n) : headS b m = if sumS (cutS b (m + 6) (m + 7 + n)) ≠ leVal (cutS b m (m + 4)) then none else some (b.getD (m + 6) 0, cutS b (m + 7) (m + 7 + n), m + 7 + n) := by
  unfold headS
  rw [if_neg g2, hn, Int.toNat_natCast]
  exact if_neg (by omega)
theorem nextR_none {b : List Int} {a : Nat} (h : nextS b a = none) : nextR b a = ((0, [], false, ()), 0, false) := by unfold nextR; rw [h]
theorem nextR_some {b : List Int} {a : Nat} {k : Int} {d : List Int} {e : Nat} (h : nextS b a = some (k, d, e)) : nextR b a = ((k, d, decide (e % 64 = 0), ()), (e : Int), true) := by unfold nextR; rw [h]
noncomputable def nextSp : Sp := ⟨[byl, i64], fun x => tst (0 ≤ x.2.1) && tst (x.2.1 ≤ (List.length x.1 : Int)) && tst (List.length x.1 ≤ 1099511627776), fun x => .tup [.d pc (nextR x.1 (Int.toNat x.2.1)).1, vI (nextR x.1 (Int.toNat x.2.1)).2.1, .d .bo (nextR x.1 (Int.toNat x.2.1)).2.2]⟩
abbrev nextC : Ctx := ⟨rows, (fun  | _ => ([], []))⟩
theorem next_ok (T : Tab) (h1 : T 26 = roomSp.ent) (h2 : T 42 = trimRSp.ent) (h3 : T 41 = trimLSp.ent) (h4 : T 38 = unfixed4Sp.ent) (h5 : T 35 = sumSp.ent) (h6 : T 37 = none) : nextSp.Ok T nextC F31 := by
  rw [on_top h1, on_top h2, on_top h3, on_top h4, on_top h5, off_top h6]
  rintro ⟨(b : List Int), (a : Int), _⟩ hf hp
  have hp : (0 ≤ a ∧ a ≤ (b.length : Int)) ∧ b.length ≤ 1099511627776 := by simpa only [nextSp, Bool.and_eq_true, tst_iff] using hp
  obtain ⟨⟨p1, p2⟩, p3⟩ := hp
  obtain ⟨m, rfl⟩ : ∃ m : Nat, a = m := ⟨a.toNat, by omega⟩
  obtain ⟨F, hF⟩ : ∃ F : Nat, F = 5 := ⟨_, rfl⟩
  refine ⟨F, 1, ?_⟩
  show evFn _ _ _ _ _ [vB b, vI m] [] _ = some (.tup [.d pc (nextR b m).1, vI (nextR b m).2.1, .d .bo (nextR b m).2.2] : V)
  conv => lhs; whnf
  try simp (maxSteps := 2000000) (disch := omega) only [nI64, nU64, nU32, nU8, nSubL, nAddL, nAdd, nSub, nDiv, nMod, nZ, nLit, row_3, row_4, row_5, row_16, row_22, row_85, Ty.den, dflt_it, dflt_li, dflt_kv, Int.toNat_natCast, List.take_length, List.drop_zero]
  have hr := room_le m
  have hb : Bytes b := bytes_of hf.1
  repeat (refine br_go ?_ ?_; (focus (((repeat' first | exact rfl | exact ordB_st rfl | exact ordB_of rfl | apply band | apply tst_t | apply nt_t)  <;> (try dsimp only [Ty.den, dflt_kv]) <;> (try simp only [List.length_append, List.length_cons, List.length_nil, List.length_take, List.length_drop, List.length_replicate]) <;> (first | trivial | assumption | omega | (change (_ : Int) ≤ _; omega) | (change (_ : Int) < _; omega) | (change (_ : Nat) * 1 ≤ _; omega) | (change (_ : Nat) * 48 ≤ _; omega) | (change (_ : Nat) * 24 ≤ _; omega) | (change (_ : Nat) * 8 ≤ _; omega) | (change (_ : Nat) * 64 ≤ _; omega) | decide)); done)); (conv => lhs; whnf); (try simp (maxSteps := 2000000) (disch := omega) only [nI64, nU64, nU32, nU8, nSubL, nAddL, nAdd, nSub, nDiv, nMod, nZ, nLit, row_3, row_4, row_5, row_16, row_22, row_85, Ty.den, dflt_it, dflt_li, dflt_kv, Int.toNat_natCast, List.take_length, List.drop_zero]))
  by_cases g1 : room m < 7
  · refine br_go (tst_t (by omega)) ?_
    conv => lhs; whnf
    try simp (maxSteps := 2000000) (disch := omega) only [nI64, nU64, nU32, nU8, nSubL, nAddL, nAdd, nSub, nDiv, nMod, nZ, nLit, row_3, row_4, row_5, row_16, row_22, row_85, Ty.den, dflt_it, dflt_li, dflt_kv, Int.toNat_natCast, List.take_length, List.drop_zero]
    repeat (refine br_go ?_ ?_; (focus (((repeat' first | exact rfl | exact ordB_st rfl | exact ordB_of rfl | apply band | apply tst_t | apply nt_t)  <;> (try dsimp only [Ty.den, dflt_kv]) <;> (try simp only [List.length_append, List.length_cons, List.length_nil, List.length_take, List.length_drop, List.length_replicate]) <;> (first | trivial | assumption | omega | (change (_ : Int) ≤ _; omega) | (change (_ : Int) < _; omega) | (change (_ : Nat) * 1 ≤ _; omega) | (change (_ : Nat) * 48 ≤ _; omega) | (change (_ : Nat) * 24 ≤ _; omega) | (change (_ : Nat) * 8 ≤ _; omega) | (change (_ : Nat) * 64 ≤ _; omega) | decide)); done)); (conv => lhs; whnf); (try simp (maxSteps := 2000000) (disch := omega) only [nI64, nU64, nU32, nU8, nSubL, nAddL, nAdd, nSub, nDiv, nMod, nZ, nLit, row_3, row_4, row_5, row_16, row_22, row_85, Ty.den, dflt_it, dflt_li, dflt_kv, Int.toNat_natCast, List.take_length, List.drop_zero]))
    try simp (maxSteps := 2000000) (disch := omega) only [nI64, nU64, nU32, nU8, nSubL, nAddL, nAdd, nSub, nDiv, nMod, nZ, nLit, row_3, row_4, row_5, row_16, row_22, row_85, Ty.den, dflt_it, dflt_li, dflt_kv, Int.toNat_natCast, List.take_length, List.drop_zero, mnI]
    have ez : (min ((m : Int) + (room m : Int)) (b.length : Int)) = ((min (m + room m) b.length : Nat) : Int) := by omega
    try simp (maxSteps := 2000000) (disch := omega) only [nI64, nU64, nU32, nU8, nSubL, nAddL, nAdd, nSub, nDiv, nMod, nZ, nLit, row_3, row_4, row_5, row_16, row_22, row_85, Ty.den, dflt_it, dflt_li, dflt_kv, Int.toNat_natCast, List.take_length, List.drop_zero, ez]
    have ec : List.drop m (List.take (min (m + room m) b.length) b) = cutS b m (m + room m) := by
      unfold cutS
      rcases Nat.le_total (m + room m) b.length with h | h
      · rw [Nat.min_eq_left h]
      · rw [Nat.min_eq_right h, List.take_length, List.take_of_length_le h]
    repeat (refine br_go ?_ ?_; (focus (((repeat' first | exact rfl | exact ordB_st rfl | exact ordB_of rfl | apply band | apply tst_t | apply nt_t)  <;> (try dsimp only [Ty.den, dflt_kv]) <;> (try simp only [List.length_append, List.length_cons, List.length_nil, List.length_take, List.length_drop, List.length_replicate]) <;> (first | trivial | assumption | omega | (change (_ : Int) ≤ _; omega) | (change (_ : Int) < _; omega) | (change (_ : Nat) * 1 ≤ _; omega) | (change (_ : Nat) * 48 ≤ _; omega) | (change (_ : Nat) * 24 ≤ _; omega) | (change (_ : Nat) * 8 ≤ _; omega) | (change (_ : Nat) * 64 ≤ _; omega) | decide)); done)); (conv => lhs; whnf); (try simp (maxSteps := 2000000) (disch := omega) only [nI64, nU64, nU32, nU8, nSubL, nAddL, nAdd, nSub, nDiv, nMod, nZ, nLit, row_3, row_4, row_5, row_16, row_22, row_85, Ty.den, dflt_it, dflt_li, dflt_kv, Int.toNat_natCast, List.take_length, List.drop_zero]))
    try simp (maxSteps := 2000000) (disch := omega) only [nI64, nU64, nU32, nU8, nSubL, nAddL, nAdd, nSub, nDiv, nMod, nZ, nLit, row_3, row_4, row_5, row_16, row_22, row_85, Ty.den, dflt_it, dflt_li, dflt_kv, Int.toNat_natCast, List.take_length, List.drop_zero, ec]
    obtain ⟨A, hA⟩ : ∃ A : Nat, A = m + room m := ⟨_, rfl⟩
    have eA : (m : Int) + (room m : Int) = (A : Int) := by omega
    have hrA : room A = 64 := by rw [hA]; exact room_next'
    have ep : (cutS b m (m + room m)).all (· == 0) = true → nextS b m = headS b A := fun h => by unfold nextS; rw [if_pos g1, if_pos h, hA]
    have eq : ¬ (cutS b m (m + room m)).all (· == 0) = true → nextS b m = none := fun h => by unfold nextS; rw [if_pos g1, if_neg h]
    have hzl : (cutS b m (m + room m)).length ≤ 7 := by unfold cutS; rw [List.length_drop, List.length_take]; omega
    generalize cutS b m (m + room m) = z at *
    by_cases h0 : z.length = 0
    · have en := ep (by rw [List.length_eq_zero_iff.1 h0]; rfl)
      refine br_go (tst_t (by omega)) ?_
      conv => lhs; whnf
      try simp (maxSteps := 2000000) (disch := omega) only [nI64, nU64, nU32, nU8, nSubL, nAddL, nAdd, nSub, nDiv, nMod, nZ, nLit, row_3, row_4, row_5, row_16, row_22, row_85, Ty.den, dflt_it, dflt_li, dflt_kv, Int.toNat_natCast, List.take_length, List.drop_zero]
      repeat (refine br_go ?_ ?_; (focus (((repeat' first | exact rfl | exact ordB_st rfl | exact ordB_of rfl | apply band | apply tst_t | apply nt_t)  <;> (try dsimp only [Ty.den, dflt_kv]) <;> (try simp only [List.length_append, List.length_cons, List.length_nil, List.length_take, List.length_drop, List.length_replicate]) <;> (first | trivial | assumption | omega | (change (_ : Int) ≤ _; omega) | (change (_ : Int) < _; omega) | (change (_ : Nat) * 1 ≤ _; omega) | (change (_ : Nat) * 48 ≤ _; omega) | (change (_ : Nat) * 24 ≤ _; omega) | (change (_ : Nat) * 8 ≤ _; omega) | (change (_ : Nat) * 64 ≤ _; omega) | decide)); done)); (conv => lhs; whnf); (try simp (maxSteps := 2000000) (disch := omega) only [nI64, nU64, nU32, nU8, nSubL, nAddL, nAdd, nSub, nDiv, nMod, nZ, nLit, row_3, row_4, row_5, row_16, row_22, row_85, Ty.den, dflt_it, dflt_li, dflt_kv, Int.toNat_natCast, List.take_length, List.drop_zero]))
      refine br_no (tst_f ((by simp))) ?_
      conv => lhs; whnf
      try simp (maxSteps := 2000000) (disch := omega) only [nI64, nU64, nU32, nU8, nSubL, nAddL, nAdd, nSub, nDiv, nMod, nZ, nLit, row_3, row_4, row_5, row_16, row_22, row_85, Ty.den, dflt_it, dflt_li, dflt_kv, Int.toNat_natCast, List.take_length, List.drop_zero]
      try simp (maxSteps := 2000000) (disch := omega) only [nI64, nU64, nU32, nU8, nSubL, nAddL, nAdd, nSub, nDiv, nMod, nZ, nLit, row_3, row_4, row_5, row_16, row_22, row_85, Ty.den, dflt_it, dflt_li, dflt_kv, Int.toNat_natCast, List.take_length, List.drop_zero, eA]
      repeat (refine br_go ?_ ?_; (focus (((repeat' first | exact rfl | exact ordB_st rfl | exact ordB_of rfl | apply band | apply tst_t | apply nt_t)  <;> (try dsimp only [Ty.den, dflt_kv]) <;> (try simp only [List.length_append, List.length_cons, List.length_nil, List.length_take, List.length_drop, List.length_replicate]) <;> (first | trivial | assumption | omega | (change (_ : Int) ≤ _; omega) | (change (_ : Int) < _; omega) | (change (_ : Nat) * 1 ≤ _; omega) | (change (_ : Nat) * 48 ≤ _; omega) | (change (_ : Nat) * 24 ≤ _; omega) | (change (_ : Nat) * 8 ≤ _; omega) | (change (_ : Nat) * 64 ≤ _; omega) | decide)); done)); (conv => lhs; whnf); (try simp (maxSteps := 2000000) (disch := omega) only [nI64, nU64, nU32, nU8, nSubL, nAddL, nAdd, nSub, nDiv, nMod, nZ, nLit, row_3, row_4, row_5, row_16, row_22, row_85, Ty.den, dflt_it, dflt_li, dflt_kv, Int.toNat_natCast, List.take_length, List.drop_zero]))
      by_cases g2 : b.length < A + 7
      · refine br_go (tst_t (by omega)) ?_
        conv => lhs; whnf
        try simp (maxSteps := 2000000) (disch := omega) only [nI64, nU64, nU32, nU8, nSubL, nAddL, nAdd, nSub, nDiv, nMod, nZ, nLit, row_3, row_4, row_5, row_16, row_22, row_85, Ty.den, dflt_it, dflt_li, dflt_kv, Int.toNat_natCast, List.take_length, List.drop_zero]
        repeat (refine br_go ?_ ?_; (focus (((repeat' first | exact rfl | exact ordB_st rfl | exact ordB_of rfl | apply band | apply tst_t | apply nt_t)  <;> (try dsimp only [Ty.den, dflt_kv]) <;> (try simp only [List.length_append, List.length_cons, List.length_nil, List.length_take, List.length_drop, List.length_replicate]) <;> (first | trivial | assumption | omega | (change (_ : Int) ≤ _; omega) | (change (_ : Int) < _; omega) | (change (_ : Nat) * 1 ≤ _; omega) | (change (_ : Nat) * 48 ≤ _; omega) | (change (_ : Nat) * 24 ≤ _; omega) | (change (_ : Nat) * 8 ≤ _; omega) | (change (_ : Nat) * 64 ≤ _; omega) | decide)); done)); (conv => lhs; whnf); (try simp (maxSteps := 2000000) (disch := omega) only [nI64, nU64, nU32, nU8, nSubL, nAddL, nAdd, nSub, nDiv, nMod, nZ, nLit, row_3, row_4, row_5, row_16, row_22, row_85, Ty.den, dflt_it, dflt_li, dflt_kv, Int.toNat_natCast, List.take_length, List.drop_zero]))
        rw [nextR_none (by rw [en]; unfold headS; rw [if_pos g2])]
        rfl
      · refine br_no (tst_f (by omega)) ?_
        conv => lhs; whnf
        try simp (maxSteps := 2000000) (disch := omega) only [nI64, nU64, nU32, nU8, nSubL, nAddL, nAdd, nSub, nDiv, nMod, nZ, nLit, row_3, row_4, row_5, row_16, row_22, row_85, Ty.den, dflt_it, dflt_li, dflt_kv, Int.toNat_natCast, List.take_length, List.drop_zero]
        repeat (refine br_go ?_ ?_; (focus (((repeat' first | exact rfl | exact ordB_st rfl | exact ordB_of rfl | apply band | apply tst_t | apply nt_t)  <;> (try dsimp only [Ty.den, dflt_kv]) <;> (try simp only [List.length_append, List.length_cons, List.length_nil, List.length_take, List.length_drop, List.length_replicate]) <;> (first | trivial | assumption | omega | (change (_ : Int) ≤ _; omega) | (change (_ : Int) < _; omega) | (change (_ : Nat) * 1 ≤ _; omega) | (change (_ : Nat) * 48 ≤ _; omega) | (change (_ : Nat) * 24 ≤ _; omega) | (change (_ : Nat) * 8 ≤ _; omega) | (change (_ : Nat) * 64 ≤ _; omega) | decide)); done)); (conv => lhs; whnf); (try simp (maxSteps := 2000000) (disch := omega) only [nI64, nU64, nU32, nU8, nSubL, nAddL, nAdd, nSub, nDiv, nMod, nZ, nLit, row_3, row_4, row_5, row_16, row_22, row_85, Ty.den, dflt_it, dflt_li, dflt_kv, Int.toNat_natCast, List.take_length, List.drop_zero]))
        have hx : 0 ≤ b.getD (A + 4) 0 ∧ b.getD (A + 4) 0 < 256 := rd_bytes hb ((A + 4 : Nat) : Int)
        have hy : 0 ≤ b.getD (A + 5) 0 ∧ b.getD (A + 5) 0 < 256 := rd_bytes hb ((A + 5 : Nat) : Int)
        have eo := or_len' hx hy
        obtain ⟨n, hn⟩ : ∃ n : Nat, b.getD (A + 4) 0 + 256 * b.getD (A + 5) 0 = (n : Int) := ⟨(b.getD (A + 4) 0 + 256 * b.getD (A + 5) 0).toNat, by omega⟩
        rw [hn] at eo
        try simp (maxSteps := 2000000) (disch := omega) only [nI64, nU64, nU32, nU8, nSubL, nAddL, nAdd, nSub, nDiv, nMod, nZ, nLit, row_3, row_4, row_5, row_16, row_22, row_85, Ty.den, dflt_it, dflt_li, dflt_kv, Int.toNat_natCast, List.take_length, List.drop_zero, eo]
        by_cases g3 : room A - 7 < n
        · refine br_go (tst_t (by omega)) ?_
          conv => lhs; whnf
          try simp (maxSteps := 2000000) (disch := omega) only [nI64, nU64, nU32, nU8, nSubL, nAddL, nAdd, nSub, nDiv, nMod, nZ, nLit, row_3, row_4, row_5, row_16, row_22, row_85, Ty.den, dflt_it, dflt_li, dflt_kv, Int.toNat_natCast, List.take_length, List.drop_zero]
          repeat (refine br_go ?_ ?_; (focus (((repeat' first | exact rfl | exact ordB_st rfl | exact ordB_of rfl | apply band | apply tst_t | apply nt_t)  <;> (try dsimp only [Ty.den, dflt_kv]) <;> (try simp only [List.length_append, List.length_cons, List.length_nil, List.length_take, List.length_drop, List.length_replicate]) <;> (first | trivial | assumption | omega | (change (_ : Int) ≤ _; omega) | (change (_ : Int) < _; omega) | (change (_ : Nat) * 1 ≤ _; omega) | (change (_ : Nat) * 48 ≤ _; omega) | (change (_ : Nat) * 24 ≤ _; omega) | (change (_ : Nat) * 8 ≤ _; omega) | (change (_ : Nat) * 64 ≤ _; omega) | decide)); done)); (conv => lhs; whnf); (try simp (maxSteps := 2000000) (disch := omega) only [nI64, nU64, nU32, nU8, nSubL, nAddL, nAdd, nSub, nDiv, nMod, nZ, nLit, row_3, row_4, row_5, row_16, row_22, row_85, Ty.den, dflt_it, dflt_li, dflt_kv, Int.toNat_natCast, List.take_length, List.drop_zero]))
          rw [nextR_none (by rw [en]; exact headS_long g2 hn (.inl g3))]
          rfl
        · refine br_no (tst_f (by omega)) ?_
          conv => lhs; whnf
          try simp (maxSteps := 2000000) (disch := omega) only [nI64, nU64, nU32, nU8, nSubL, nAddL, nAdd, nSub, nDiv, nMod, nZ, nLit, row_3, row_4, row_5, row_16, row_22, row_85, Ty.den, dflt_it, dflt_li, dflt_kv, Int.toNat_natCast, List.take_length, List.drop_zero]
          repeat (refine br_go ?_ ?_; (focus (((repeat' first | exact rfl | exact ordB_st rfl | exact ordB_of rfl | apply band | apply tst_t | apply nt_t)  <;> (try dsimp only [Ty.den, dflt_kv]) <;> (try simp only [List.length_append, List.length_cons, List.length_nil, List.length_take, List.length_drop, List.length_replicate]) <;> (first | trivial | assumption | omega | (change (_ : Int) ≤ _; omega) | (change (_ : Int) < _; omega) | (change (_ : Nat) * 1 ≤ _; omega) | (change (_ : Nat) * 48 ≤ _; omega) | (change (_ : Nat) * 24 ≤ _; omega) | (change (_ : Nat) * 8 ≤ _; omega) | (change (_ : Nat) * 64 ≤ _; omega) | decide)); done)); (conv => lhs; whnf); (try simp (maxSteps := 2000000) (disch := omega) only [nI64, nU64, nU32, nU8, nSubL, nAddL, nAdd, nSub, nDiv, nMod, nZ, nLit, row_3, row_4, row_5, row_16, row_22, row_85, Ty.den, dflt_it, dflt_li, dflt_kv, Int.toNat_natCast, List.take_length, List.drop_zero]))
          by_cases g4 : b.length < A + 7 + n
          · refine br_go (tst_t (by omega)) ?_
            conv => lhs; whnf
            try simp (maxSteps := 2000000) (disch := omega) only [nI64, nU64, nU32, nU8, nSubL, nAddL, nAdd, nSub, nDiv, nMod, nZ, nLit, row_3, row_4, row_5, row_16, row_22, row_85, Ty.den, dflt_it, dflt_li, dflt_kv, Int.toNat_natCast, List.take_length, List.drop_zero]
            repeat (refine br_go ?_ ?_; (focus (((repeat' first | exact rfl | exact ordB_st rfl | exact ordB_of rfl | apply band | apply tst_t | apply nt_t)  <;> (try dsimp only [Ty.den, dflt_kv]) <;> (try simp only [List.length_append, List.length_cons, List.length_nil, List.length_take, List.length_drop, List.length_replicate]) <;> (first | trivial | assumption | omega | (change (_ : Int) ≤ _; omega) | (change (_ : Int) < _; omega) | (change (_ : Nat) * 1 ≤ _; omega) | (change (_ : Nat) * 48 ≤ _; omega) | (change (_ : Nat) * 24 ≤ _; omega) | (change (_ : Nat) * 8 ≤ _; omega) | (change (_ : Nat) * 64 ≤ _; omega) | decide)); done)); (conv => lhs; whnf); (try simp (maxSteps := 2000000) (disch := omega) only [nI64, nU64, nU32, nU8, nSubL, nAddL, nAdd, nSub, nDiv, nMod, nZ, nLit, row_3, row_4, row_5, row_16, row_22, row_85, Ty.den, dflt_it, dflt_li, dflt_kv, Int.toNat_natCast, List.take_length, List.drop_zero]))
            rw [nextR_none (by rw [en]; exact headS_long g2 hn (.inr g4))]
            rfl
          · refine br_no (tst_f (by omega)) ?_
            conv => lhs; whnf
            try simp (maxSteps := 2000000) (disch := omega) only [nI64, nU64, nU32, nU8, nSubL, nAddL, nAdd, nSub, nDiv, nMod, nZ, nLit, row_3, row_4, row_5, row_16, row_22, row_85, Ty.den, dflt_it, dflt_li, dflt_kv, Int.toNat_natCast, List.take_length, List.drop_zero]
            repeat (refine br_go ?_ ?_; (focus (((repeat' first | exact rfl | exact ordB_st rfl | exact ordB_of rfl | apply band | apply tst_t | apply nt_t)  <;> (try dsimp only [Ty.den, dflt_kv]) <;> (try simp only [List.length_append, List.length_cons, List.length_nil, List.length_take, List.length_drop, List.length_replicate]) <;> (first | trivial | assumption | omega | (change (_ : Int) ≤ _; omega) | (change (_ : Int) < _; omega) | (change (_ : Nat) * 1 ≤ _; omega) | (change (_ : Nat) * 48 ≤ _; omega) | (change (_ : Nat) * 24 ≤ _; omega) | (change (_ : Nat) * 8 ≤ _; omega) | (change (_ : Nat) * 64 ≤ _; omega) | decide)); done)); (conv => lhs; whnf); (try simp (maxSteps := 2000000) (disch := omega) only [nI64, nU64, nU32, nU8, nSubL, nAddL, nAdd, nSub, nDiv, nMod, nZ, nLit, row_3, row_4, row_5, row_16, row_22, row_85, Ty.den, dflt_it, dflt_li, dflt_kv, Int.toNat_natCast, List.take_length, List.drop_zero]))
            have et : ((A : Int) + 7 + (n : Int)).toNat = A + 7 + n := by omega
            have eu : (unfixedS (List.drop A b) 4).1 = leVal (cutS b A (A + 4)) := by
              unfold unfixedS cutS
              rw [if_neg (by rw [List.length_drop]; omega), List.drop_take, show A + 4 - A = 4 by omega]
            have hg := headS_go g2 hn g3 g4
            try simp (maxSteps := 2000000) (disch := omega) only [nI64, nU64, nU32, nU8, nSubL, nAddL, nAdd, nSub, nDiv, nMod, nZ, nLit, row_3, row_4, row_5, row_16, row_22, row_85, Ty.den, dflt_it, dflt_li, dflt_kv, Int.toNat_natCast, List.take_length, List.drop_zero, et, eu]
            by_cases g5 : sumS (List.drop (A + 6) (List.take (A + 7 + n) b)) ≠ leVal (cutS b A (A + 4))
            · refine br_go (tst_t (g5)) ?_
              conv => lhs; whnf
              try simp (maxSteps := 2000000) (disch := omega) only [nI64, nU64, nU32, nU8, nSubL, nAddL, nAdd, nSub, nDiv, nMod, nZ, nLit, row_3, row_4, row_5, row_16, row_22, row_85, Ty.den, dflt_it, dflt_li, dflt_kv, Int.toNat_natCast, List.take_length, List.drop_zero]
              repeat (refine br_go ?_ ?_; (focus (((repeat' first | exact rfl | exact ordB_st rfl | exact ordB_of rfl | apply band | apply tst_t | apply nt_t)  <;> (try dsimp only [Ty.den, dflt_kv]) <;> (try simp only [List.length_append, List.length_cons, List.length_nil, List.length_take, List.length_drop, List.length_replicate]) <;> (first | trivial | assumption | omega | (change (_ : Int) ≤ _; omega) | (change (_ : Int) < _; omega) | (change (_ : Nat) * 1 ≤ _; omega) | (change (_ : Nat) * 48 ≤ _; omega) | (change (_ : Nat) * 24 ≤ _; omega) | (change (_ : Nat) * 8 ≤ _; omega) | (change (_ : Nat) * 64 ≤ _; omega) | decide)); done)); (conv => lhs; whnf); (try simp (maxSteps := 2000000) (disch := omega) only [nI64, nU64, nU32, nU8, nSubL, nAddL, nAdd, nSub, nDiv, nMod, nZ, nLit, row_3, row_4, row_5, row_16, row_22, row_85, Ty.den, dflt_it, dflt_li, dflt_kv, Int.toNat_natCast, List.take_length, List.drop_zero]))
              rw [nextR_none (by rw [en, hg]; exact if_pos g5)]
              rfl
            · refine br_no (tst_f (g5)) ?_
              conv => lhs; whnf
              try simp (maxSteps := 2000000) (disch := omega) only [nI64, nU64, nU32, nU8, nSubL, nAddL, nAdd, nSub, nDiv, nMod, nZ, nLit, row_3, row_4, row_5, row_16, row_22, row_85, Ty.den, dflt_it, dflt_li, dflt_kv, Int.toNat_natCast, List.take_length, List.drop_zero]
              repeat (refine br_go ?_ ?_; (focus (((repeat' first | exact rfl | exact ordB_st rfl | exact ordB_of rfl | apply band | apply tst_t | apply nt_t)  <;> (try dsimp only [Ty.den, dflt_kv]) <;> (try simp only [List.length_append, List.length_cons, List.length_nil, List.length_take, List.length_drop, List.length_replicate]) <;> (first | trivial | assumption | omega | (change (_ : Int) ≤ _; omega) | (change (_ : Int) < _; omega) | (change (_ : Nat) * 1 ≤ _; omega) | (change (_ : Nat) * 48 ≤ _; omega) | (change (_ : Nat) * 24 ≤ _; omega) | (change (_ : Nat) * 8 ≤ _; omega) | (change (_ : Nat) * 64 ≤ _; omega) | decide)); done)); (conv => lhs; whnf); (try simp (maxSteps := 2000000) (disch := omega) only [nI64, nU64, nU32, nU8, nSubL, nAddL, nAdd, nSub, nDiv, nMod, nZ, nLit, row_3, row_4, row_5, row_16, row_22, row_85, Ty.den, dflt_it, dflt_li, dflt_kv, Int.toNat_natCast, List.take_length, List.drop_zero]))
              try simp (maxSteps := 2000000) (disch := omega) only [nI64, nU64, nU32, nU8, nSubL, nAddL, nAdd, nSub, nDiv, nMod, nZ, nLit, row_3, row_4, row_5, row_16, row_22, row_85, Ty.den, dflt_it, dflt_li, dflt_kv, Int.toNat_natCast, List.take_length, List.drop_zero, et]
              rw [nextR_some (by rw [en, hg]; exact if_neg g5)]
              have ed : tst (((A : Int) + 7 + (n : Int)) % 64 = 0) = decide ((A + 7 + n) % 64 = 0) := by rw [tst_eq, decide_eq_decide]; omega
              have ez : ((A : Int) + 7 + (n : Int)) = ((A + 7 + n : Nat) : Int) := by omega
              rw [ed, ez]
              rfl
    · refine br_no (tst_f (by omega)) ?_
      conv => lhs; whnf
      try simp (maxSteps := 2000000) (disch := omega) only [nI64, nU64, nU32, nU8, nSubL, nAddL, nAdd, nSub, nDiv, nMod, nZ, nLit, row_3, row_4, row_5, row_16, row_22, row_85, Ty.den, dflt_it, dflt_li, dflt_kv, Int.toNat_natCast, List.take_length, List.drop_zero]
      repeat (refine br_go ?_ ?_; (focus (((repeat' first | exact rfl | exact ordB_st rfl | exact ordB_of rfl | apply band | apply tst_t | apply nt_t)  <;> (try dsimp only [Ty.den, dflt_kv]) <;> (try simp only [List.length_append, List.length_cons, List.length_nil, List.length_take, List.length_drop, List.length_replicate]) <;> (first | trivial | assumption | omega | (change (_ : Int) ≤ _; omega) | (change (_ : Int) < _; omega) | (change (_ : Nat) * 1 ≤ _; omega) | (change (_ : Nat) * 48 ≤ _; omega) | (change (_ : Nat) * 24 ≤ _; omega) | (change (_ : Nat) * 8 ≤ _; omega) | (change (_ : Nat) * 64 ≤ _; omega) | decide)); done)); (conv => lhs; whnf); (try simp (maxSteps := 2000000) (disch := omega) only [nI64, nU64, nU32, nU8, nSubL, nAddL, nAdd, nSub, nDiv, nMod, nZ, nLit, row_3, row_4, row_5, row_16, row_22, row_85, Ty.den, dflt_it, dflt_li, dflt_kv, Int.toNat_natCast, List.take_length, List.drop_zero]))
      have es : strInts { data := #[0] } = [0] := by decide +kernel
      have eg : ([0] : List Int).getD 0 0 = 0 := rfl
      refine br_no (tst_f ((by decide +kernel))) ?_
      conv => lhs; whnf
      try simp (maxSteps := 2000000) (disch := omega) only [nI64, nU64, nU32, nU8, nSubL, nAddL, nAdd, nSub, nDiv, nMod, nZ, nLit, row_3, row_4, row_5, row_16, row_22, row_85, Ty.den, dflt_it, dflt_li, dflt_kv, Int.toNat_natCast, List.take_length, List.drop_zero]
      try simp (maxSteps := 2000000) (disch := omega) only [nI64, nU64, nU32, nU8, nSubL, nAddL, nAdd, nSub, nDiv, nMod, nZ, nLit, row_3, row_4, row_5, row_16, row_22, row_85, Ty.den, dflt_it, dflt_li, dflt_kv, Int.toNat_natCast, List.take_length, List.drop_zero, es]
      repeat (refine br_go ?_ ?_; (focus (((repeat' first | exact rfl | exact ordB_st rfl | exact ordB_of rfl | apply band | apply tst_t | apply nt_t)  <;> (try dsimp only [Ty.den, dflt_kv]) <;> (try simp only [List.length_append, List.length_cons, List.length_nil, List.length_take, List.length_drop, List.length_replicate]) <;> (first | trivial | assumption | omega | (change (_ : Int) ≤ _; omega) | (change (_ : Int) < _; omega) | (change (_ : Nat) * 1 ≤ _; omega) | (change (_ : Nat) * 48 ≤ _; omega) | (change (_ : Nat) * 24 ≤ _; omega) | (change (_ : Nat) * 8 ≤ _; omega) | (change (_ : Nat) * 64 ≤ _; omega) | decide)); done)); (conv => lhs; whnf); (try simp (maxSteps := 2000000) (disch := omega) only [nI64, nU64, nU32, nU8, nSubL, nAddL, nAdd, nSub, nDiv, nMod, nZ, nLit, row_3, row_4, row_5, row_16, row_22, row_85, Ty.den, dflt_it, dflt_li, dflt_kv, Int.toNat_natCast, List.take_length, List.drop_zero]))
      try simp (maxSteps := 2000000) (disch := omega) only [nI64, nU64, nU32, nU8, nSubL, nAddL, nAdd, nSub, nDiv, nMod, nZ, nLit, row_3, row_4, row_5, row_16, row_22, row_85, Ty.den, dflt_it, dflt_li, dflt_kv, Int.toNat_natCast, List.take_length, List.drop_zero, es, eg]
      by_cases h1 : z.all (· == 0) = true
      · have en := ep h1
        have e0 := (trim_nil z).2 h1
        refine br_no (tst_f (by omega)) ?_
        conv => lhs; whnf
        try simp (maxSteps := 2000000) (disch := omega) only [nI64, nU64, nU32, nU8, nSubL, nAddL, nAdd, nSub, nDiv, nMod, nZ, nLit, row_3, row_4, row_5, row_16, row_22, row_85, Ty.den, dflt_it, dflt_li, dflt_kv, Int.toNat_natCast, List.take_length, List.drop_zero]
        try simp (maxSteps := 2000000) (disch := omega) only [nI64, nU64, nU32, nU8, nSubL, nAddL, nAdd, nSub, nDiv, nMod, nZ, nLit, row_3, row_4, row_5, row_16, row_22, row_85, Ty.den, dflt_it, dflt_li, dflt_kv, Int.toNat_natCast, List.take_length, List.drop_zero, eA]
        repeat (refine br_go ?_ ?_; (focus (((repeat' first | exact rfl | exact ordB_st rfl | exact ordB_of rfl | apply band | apply tst_t | apply nt_t)  <;> (try dsimp only [Ty.den, dflt_kv]) <;> (try simp only [List.length_append, List.length_cons, List.length_nil, List.length_take, List.length_drop, List.length_replicate]) <;> (first | trivial | assumption | omega | (change (_ : Int) ≤ _; omega) | (change (_ : Int) < _; omega) | (change (_ : Nat) * 1 ≤ _; omega) | (change (_ : Nat) * 48 ≤ _; omega) | (change (_ : Nat) * 24 ≤ _; omega) | (change (_ : Nat) * 8 ≤ _; omega) | (change (_ : Nat) * 64 ≤ _; omega) | decide)); done)); (conv => lhs; whnf); (try simp (maxSteps := 2000000) (disch := omega) only [nI64, nU64, nU32, nU8, nSubL, nAddL, nAdd, nSub, nDiv, nMod, nZ, nLit, row_3, row_4, row_5, row_16, row_22, row_85, Ty.den, dflt_it, dflt_li, dflt_kv, Int.toNat_natCast, List.take_length, List.drop_zero]))
        by_cases g2 : b.length < A + 7
        · refine br_go (tst_t (by omega)) ?_
          conv => lhs; whnf
          try simp (maxSteps := 2000000) (disch := omega) only [nI64, nU64, nU32, nU8, nSubL, nAddL, nAdd, nSub, nDiv, nMod, nZ, nLit, row_3, row_4, row_5, row_16, row_22, row_85, Ty.den, dflt_it, dflt_li, dflt_kv, Int.toNat_natCast, List.take_length, List.drop_zero]
          repeat (refine br_go ?_ ?_; (focus (((repeat' first | exact rfl | exact ordB_st rfl | exact ordB_of rfl | apply band | apply tst_t | apply nt_t)  <;> (try dsimp only [Ty.den, dflt_kv]) <;> (try simp only [List.length_append, List.length_cons, List.length_nil, List.length_take, List.length_drop, List.length_replicate]) <;> (first | trivial | assumption | omega | (change (_ : Int) ≤ _; omega) | (change (_ : Int) < _; omega) | (change (_ : Nat) * 1 ≤ _; omega) | (change (_ : Nat) * 48 ≤ _; omega) | (change (_ : Nat) * 24 ≤ _; omega) | (change (_ : Nat) * 8 ≤ _; omega) | (change (_ : Nat) * 64 ≤ _; omega) | decide)); done)); (conv => lhs; whnf); (try simp (maxSteps := 2000000) (disch := omega) only [nI64, nU64, nU32, nU8, nSubL, nAddL, nAdd, nSub, nDiv, nMod, nZ, nLit, row_3, row_4, row_5, row_16, row_22, row_85, Ty.den, dflt_it, dflt_li, dflt_kv, Int.toNat_natCast, List.take_length, List.drop_zero]))
          rw [nextR_none (by rw [en]; unfold headS; rw [if_pos g2])]
          rfl
        · refine br_no (tst_f (by omega)) ?_
          conv => lhs; whnf
          try simp (maxSteps := 2000000) (disch := omega) only [nI64, nU64, nU32, nU8, nSubL, nAddL, nAdd, nSub, nDiv, nMod, nZ, nLit, row_3, row_4, row_5, row_16, row_22, row_85, Ty.den, dflt_it, dflt_li, dflt_kv, Int.toNat_natCast, List.take_length, List.drop_zero]
          repeat (refine br_go ?_ ?_; (focus (((repeat' first | exact rfl | exact ordB_st rfl | exact ordB_of rfl | apply band | apply tst_t | apply nt_t)  <;> (try dsimp only [Ty.den, dflt_kv]) <;> (try simp only [List.length_append, List.length_cons, List.length_nil, List.length_take, List.length_drop, List.length_replicate]) <;> (first | trivial | assumption | omega | (change (_ : Int) ≤ _; omega) | (change (_ : Int) < _; omega) | (change (_ : Nat) * 1 ≤ _; omega) | (change (_ : Nat) * 48 ≤ _; omega) | (change (_ : Nat) * 24 ≤ _; omega) | (change (_ : Nat) * 8 ≤ _; omega) | (change (_ : Nat) * 64 ≤ _; omega) | decide)); done)); (conv => lhs; whnf); (try simp (maxSteps := 2000000) (disch := omega) only [nI64, nU64, nU32, nU8, nSubL, nAddL, nAdd, nSub, nDiv, nMod, nZ, nLit, row_3, row_4, row_5, row_16, row_22, row_85, Ty.den, dflt_it, dflt_li, dflt_kv, Int.toNat_natCast, List.take_length, List.drop_zero]))
          have hx : 0 ≤ b.getD (A + 4) 0 ∧ b.getD (A + 4) 0 < 256 := rd_bytes hb ((A + 4 : Nat) : Int)
          have hy : 0 ≤ b.getD (A + 5) 0 ∧ b.getD (A + 5) 0 < 256 := rd_bytes hb ((A + 5 : Nat) : Int)
          have eo := or_len' hx hy
          obtain ⟨n, hn⟩ : ∃ n : Nat, b.getD (A + 4) 0 + 256 * b.getD (A + 5) 0 = (n : Int) := ⟨(b.getD (A + 4) 0 + 256 * b.getD (A + 5) 0).toNat, by omega⟩
          rw [hn] at eo
          try simp (maxSteps := 2000000) (disch := omega) only [nI64, nU64, nU32, nU8, nSubL, nAddL, nAdd, nSub, nDiv, nMod, nZ, nLit, row_3, row_4, row_5, row_16, row_22, row_85, Ty.den, dflt_it, dflt_li, dflt_kv, Int.toNat_natCast, List.take_length, List.drop_zero, eo]
          by_cases g3 : room A - 7 < n
          · refine br_go (tst_t (by omega)) ?_
            conv => lhs; whnf
            try simp (maxSteps := 2000000) (disch := omega) only [nI64, nU64, nU32, nU8, nSubL, nAddL, nAdd, nSub, nDiv, nMod, nZ, nLit, row_3, row_4, row_5, row_16, row_22, row_85, Ty.den, dflt_it, dflt_li, dflt_kv, Int.toNat_natCast, List.take_length, List.drop_zero]
            repeat (refine br_go ?_ ?_; (focus (((repeat' first | exact rfl | exact ordB_st rfl | exact ordB_of rfl | apply band | apply tst_t | apply nt_t)  <;> (try dsimp only [Ty.den, dflt_kv]) <;> (try simp only [List.length_append, List.length_cons, List.length_nil, List.length_take, List.length_drop, List.length_replicate]) <;> (first | trivial | assumption | omega | (change (_ : Int) ≤ _; omega) | (change (_ : Int) < _; omega) | (change (_ : Nat) * 1 ≤ _; omega) | (change (_ : Nat) * 48 ≤ _; omega) | (change (_ : Nat) * 24 ≤ _; omega) | (change (_ : Nat) * 8 ≤ _; omega) | (change (_ : Nat) * 64 ≤ _; omega) | decide)); done)); (conv => lhs; whnf); (try simp (maxSteps := 2000000) (disch := omega) only [nI64, nU64, nU32, nU8, nSubL, nAddL, nAdd, nSub, nDiv, nMod, nZ, nLit, row_3, row_4, row_5, row_16, row_22, row_85, Ty.den, dflt_it, dflt_li, dflt_kv, Int.toNat_natCast, List.take_length, List.drop_zero]))
            rw [nextR_none (by rw [en]; exact headS_long g2 hn (.inl g3))]
            rfl
          · refine br_no (tst_f (by omega)) ?_
            conv => lhs; whnf
            try simp (maxSteps := 2000000) (disch := omega) only [nI64, nU64, nU32, nU8, nSubL, nAddL, nAdd, nSub, nDiv, nMod, nZ, nLit, row_3, row_4, row_5, row_16, row_22, row_85, Ty.den, dflt_it, dflt_li, dflt_kv, Int.toNat_natCast, List.take_length, List.drop_zero]
            repeat (refine br_go ?_ ?_; (focus (((repeat' first | exact rfl | exact ordB_st rfl | exact ordB_of rfl | apply band | apply tst_t | apply nt_t)  <;> (try dsimp only [Ty.den, dflt_kv]) <;> (try simp only [List.length_append, List.length_cons, List.length_nil, List.length_take, List.length_drop, List.length_replicate]) <;> (first | trivial | assumption | omega | (change (_ : Int) ≤ _; omega) | (change (_ : Int) < _; omega) | (change (_ : Nat) * 1 ≤ _; omega) | (change (_ : Nat) * 48 ≤ _; omega) | (change (_ : Nat) * 24 ≤ _; omega) | (change (_ : Nat) * 8 ≤ _; omega) | (change (_ : Nat) * 64 ≤ _; omega) | decide)); done)); (conv => lhs; whnf); (try simp (maxSteps := 2000000) (disch := omega) only [nI64, nU64, nU32, nU8, nSubL, nAddL, nAdd, nSub, nDiv, nMod, nZ, nLit, row_3, row_4, row_5, row_16, row_22, row_85, Ty.den, dflt_it, dflt_li, dflt_kv, Int.toNat_natCast, List.take_length, List.drop_zero]))
            by_cases g4 : b.length < A + 7 + n
            · refine br_go (tst_t (by omega)) ?_
              conv => lhs; whnf
              try simp (maxSteps := 2000000) (disch := omega) only [nI64, nU64, nU32, nU8, nSubL, nAddL, nAdd, nSub, nDiv, nMod, nZ, nLit, row_3, row_4, row_5, row_16, row_22, row_85, Ty.den, dflt_it, dflt_li, dflt_kv, Int.toNat_natCast, List.take_length, List.drop_zero]
              repeat (refine br_go ?_ ?_; (focus (((repeat' first | exact rfl | exact ordB_st rfl | exact ordB_of rfl | apply band | apply tst_t | apply nt_t)  <;> (try dsimp only [Ty.den, dflt_kv]) <;> (try simp only [List.length_append, List.length_cons, List.length_nil, List.length_take, List.length_drop, List.length_replicate]) <;> (first | trivial | assumption | omega | (change (_ : Int) ≤ _; omega) | (change (_ : Int) < _; omega) | (change (_ : Nat) * 1 ≤ _; omega) | (change (_ : Nat) * 48 ≤ _; omega) | (change (_ : Nat) * 24 ≤ _; omega) | (change (_ : Nat) * 8 ≤ _; omega) | (change (_ : Nat) * 64 ≤ _; omega) | decide)); done)); (conv => lhs; whnf); (try simp (maxSteps := 2000000) (disch := omega) only [nI64, nU64, nU32, nU8, nSubL, nAddL, nAdd, nSub, nDiv, nMod, nZ, nLit, row_3, row_4, row_5, row_16, row_22, row_85, Ty.den, dflt_it, dflt_li, dflt_kv, Int.toNat_natCast, List.take_length, List.drop_zero]))
              rw [nextR_none (by rw [en]; exact headS_long g2 hn (.inr g4))]
              rfl
            · refine br_no (tst_f (by omega)) ?_
              conv => lhs; whnf
              try simp (maxSteps := 2000000) (disch := omega) only [nI64, nU64, nU32, nU8, nSubL, nAddL, nAdd, nSub, nDiv, nMod, nZ, nLit, row_3, row_4, row_5, row_16, row_22, row_85, Ty.den, dflt_it, dflt_li, dflt_kv, Int.toNat_natCast, List.take_length, List.drop_zero]
              repeat (refine br_go ?_ ?_; (focus (((repeat' first | exact rfl | exact ordB_st rfl | exact ordB_of rfl | apply band | apply tst_t | apply nt_t)  <;> (try dsimp only [Ty.den, dflt_kv]) <;> (try simp only [List.length_append, List.length_cons, List.length_nil, List.length_take, List.length_drop, List.length_replicate]) <;> (first | trivial | assumption | omega | (change (_ : Int) ≤ _; omega) | (change (_ : Int) < _; omega) | (change (_ : Nat) * 1 ≤ _; omega) | (change (_ : Nat) * 48 ≤ _; omega) | (change (_ : Nat) * 24 ≤ _; omega) | (change (_ : Nat) * 8 ≤ _; omega) | (change (_ : Nat) * 64 ≤ _; omega) | decide)); done)); (conv => lhs; whnf); (try simp (maxSteps := 2000000) (disch := omega) only [nI64, nU64, nU32, nU8, nSubL, nAddL, nAdd, nSub, nDiv, nMod, nZ, nLit, row_3, row_4, row_5, row_16, row_22, row_85, Ty.den, dflt_it, dflt_li, dflt_kv, Int.toNat_natCast, List.take_length, List.drop_zero]))
              have et : ((A : Int) + 7 + (n : Int)).toNat = A + 7 + n := by omega
              have eu : (unfixedS (List.drop A b) 4).1 = leVal (cutS b A (A + 4)) := by
                unfold unfixedS cutS
                rw [if_neg (by rw [List.length_drop]; omega), List.drop_take, show A + 4 - A = 4 by omega]
              have hg := headS_go g2 hn g3 g4
              try simp (maxSteps := 2000000) (disch := omega) only [nI64, nU64, nU32, nU8, nSubL, nAddL, nAdd, nSub, nDiv, nMod, nZ, nLit, row_3, row_4, row_5, row_16, row_22, row_85, Ty.den, dflt_it, dflt_li, dflt_kv, Int.toNat_natCast, List.take_length, List.drop_zero, et, eu]
              by_cases g5 : sumS (List.drop (A + 6) (List.take (A + 7 + n) b)) ≠ leVal (cutS b A (A + 4))
              · refine br_go (tst_t (g5)) ?_
                conv => lhs; whnf
                try simp (maxSteps := 2000000) (disch := omega) only [nI64, nU64, nU32, nU8, nSubL, nAddL, nAdd, nSub, nDiv, nMod, nZ, nLit, row_3, row_4, row_5, row_16, row_22, row_85, Ty.den, dflt_it, dflt_li, dflt_kv, Int.toNat_natCast, List.take_length, List.drop_zero]
                repeat (refine br_go ?_ ?_; (focus (((repeat' first | exact rfl | exact ordB_st rfl | exact ordB_of rfl | apply band | apply tst_t | apply nt_t)  <;> (try dsimp only [Ty.den, dflt_kv]) <;> (try simp only [List.length_append, List.length_cons, List.length_nil, List.length_take, List.length_drop, List.length_replicate]) <;> (first | trivial | assumption | omega | (change (_ : Int) ≤ _; omega) | (change (_ : Int) < _; omega) | (change (_ : Nat) * 1 ≤ _; omega) | (change (_ : Nat) * 48 ≤ _; omega) | (change (_ : Nat) * 24 ≤ _; omega) | (change (_ : Nat) * 8 ≤ _; omega) | (change (_ : Nat) * 64 ≤ _; omega) | decide)); done)); (conv => lhs; whnf); (try simp (maxSteps := 2000000) (disch := omega) only [nI64, nU64, nU32, nU8, nSubL, nAddL, nAdd, nSub, nDiv, nMod, nZ, nLit, row_3, row_4, row_5, row_16, row_22, row_85, Ty.den, dflt_it, dflt_li, dflt_kv, Int.toNat_natCast, List.take_length, List.drop_zero]))
                rw [nextR_none (by rw [en, hg]; exact if_pos g5)]
                rfl
              · refine br_no (tst_f (g5)) ?_
                conv => lhs; whnf
                try simp (maxSteps := 2000000) (disch := omega) only [nI64, nU64, nU32, nU8, nSubL, nAddL, nAdd, nSub, nDiv, nMod, nZ, nLit, row_3, row_4, row_5, row_16, row_22, row_85, Ty.den, dflt_it, dflt_li, dflt_kv, Int.toNat_natCast, List.take_length, List.drop_zero]
                repeat (refine br_go ?_ ?_; (focus (((repeat' first | exact rfl | exact ordB_st rfl | exact ordB_of rfl | apply band | apply tst_t | apply nt_t)  <;> (try dsimp only [Ty.den, dflt_kv]) <;> (try simp only [List.length_append, List.length_cons, List.length_nil, List.length_take, List.length_drop, List.length_replicate]) <;> (first | trivial | assumption | omega | (change (_ : Int) ≤ _; omega) | (change (_ : Int) < _; omega) | (change (_ : Nat) * 1 ≤ _; omega) | (change (_ : Nat) * 48 ≤ _; omega) | (change (_ : Nat) * 24 ≤ _; omega) | (change (_ : Nat) * 8 ≤ _; omega) | (change (_ : Nat) * 64 ≤ _; omega) | decide)); done)); (conv => lhs; whnf); (try simp (maxSteps := 2000000) (disch := omega) only [nI64, nU64, nU32, nU8, nSubL, nAddL, nAdd, nSub, nDiv, nMod, nZ, nLit, row_3, row_4, row_5, row_16, row_22, row_85, Ty.den, dflt_it, dflt_li, dflt_kv, Int.toNat_natCast, List.take_length, List.drop_zero]))
                try simp (maxSteps := 2000000) (disch := omega) only [nI64, nU64, nU32, nU8, nSubL, nAddL, nAdd, nSub, nDiv, nMod, nZ, nLit, row_3, row_4, row_5, row_16, row_22, row_85, Ty.den, dflt_it, dflt_li, dflt_kv, Int.toNat_natCast, List.take_length, List.drop_zero, et]
                rw [nextR_some (by rw [en, hg]; exact if_neg g5)]
                have ed : tst (((A : Int) + 7 + (n : Int)) % 64 = 0) = decide ((A + 7 + n) % 64 = 0) := by rw [tst_eq, decide_eq_decide]; omega
                have ez : ((A : Int) + 7 + (n : Int)) = ((A + 7 + n : Nat) : Int) := by omega
                rw [ed, ez]
                rfl
      · have e0 : (trimL 0 (trimR 0 z)).length ≠ 0 := fun h => h1 ((trim_nil z).1 h)
        refine br_go (tst_t (by omega)) ?_
        conv => lhs; whnf
        try simp (maxSteps := 2000000) (disch := omega) only [nI64, nU64, nU32, nU8, nSubL, nAddL, nAdd, nSub, nDiv, nMod, nZ, nLit, row_3, row_4, row_5, row_16, row_22, row_85, Ty.den, dflt_it, dflt_li, dflt_kv, Int.toNat_natCast, List.take_length, List.drop_zero]
        repeat (refine br_go ?_ ?_; (focus (((repeat' first | exact rfl | exact ordB_st rfl | exact ordB_of rfl | apply band | apply tst_t | apply nt_t)  <;> (try dsimp only [Ty.den, dflt_kv]) <;> (try simp only [List.length_append, List.length_cons, List.length_nil, List.length_take, List.length_drop, List.length_replicate]) <;> (first | trivial | assumption | omega | (change (_ : Int) ≤ _; omega) | (change (_ : Int) < _; omega) | (change (_ : Nat) * 1 ≤ _; omega) | (change (_ : Nat) * 48 ≤ _; omega) | (change (_ : Nat) * 24 ≤ _; omega) | (change (_ : Nat) * 8 ≤ _; omega) | (change (_ : Nat) * 64 ≤ _; omega) | decide)); done)); (conv => lhs; whnf); (try simp (maxSteps := 2000000) (disch := omega) only [nI64, nU64, nU32, nU8, nSubL, nAddL, nAdd, nSub, nDiv, nMod, nZ, nLit, row_3, row_4, row_5, row_16, row_22, row_85, Ty.den, dflt_it, dflt_li, dflt_kv, Int.toNat_natCast, List.take_length, List.drop_zero]))
        rw [nextR_none (eq h1)]
        rfl
  · refine br_no (tst_f (by omega)) ?_
    conv => lhs; whnf
    try simp (maxSteps := 2000000) (disch := omega) only [nI64, nU64, nU32, nU8, nSubL, nAddL, nAdd, nSub, nDiv, nMod, nZ, nLit, row_3, row_4, row_5, row_16, row_22, row_85, Ty.den, dflt_it, dflt_li, dflt_kv, Int.toNat_natCast, List.take_length, List.drop_zero]
    have en : nextS b m = headS b m := by unfold nextS; rw [if_neg g1]
    repeat (refine br_go ?_ ?_; (focus (((repeat' first | exact rfl | exact ordB_st rfl | exact ordB_of rfl | apply band | apply tst_t | apply nt_t)  <;> (try dsimp only [Ty.den, dflt_kv]) <;> (try simp only [List.length_append, List.length_cons, List.length_nil, List.length_take, List.length_drop, List.length_replicate]) <;> (first | trivial | assumption | omega | (change (_ : Int) ≤ _; omega) | (change (_ : Int) < _; omega) | (change (_ : Nat) * 1 ≤ _; omega) | (change (_ : Nat) * 48 ≤ _; omega) | (change (_ : Nat) * 24 ≤ _; omega) | (change (_ : Nat) * 8 ≤ _; omega) | (change (_ : Nat) * 64 ≤ _; omega) | decide)); done)); (conv => lhs; whnf); (try simp (maxSteps := 2000000) (disch := omega) only [nI64, nU64, nU32, nU8, nSubL, nAddL, nAdd, nSub, nDiv, nMod, nZ, nLit, row_3, row_4, row_5, row_16, row_22, row_85, Ty.den, dflt_it, dflt_li, dflt_kv, Int.toNat_natCast, List.take_length, List.drop_zero]))
    by_cases g2 : b.length < m + 7
    · refine br_go (tst_t (by omega)) ?_
      conv => lhs; whnf
      try simp (maxSteps := 2000000) (disch := omega) only [nI64, nU64, nU32, nU8, nSubL, nAddL, nAdd, nSub, nDiv, nMod, nZ, nLit, row_3, row_4, row_5, row_16, row_22, row_85, Ty.den, dflt_it, dflt_li, dflt_kv, Int.toNat_natCast, List.take_length, List.drop_zero]
      repeat (refine br_go ?_ ?_; (focus (((repeat' first | exact rfl | exact ordB_st rfl | exact ordB_of rfl | apply band | apply tst_t | apply nt_t)  <;> (try dsimp only [Ty.den, dflt_kv]) <;> (try simp only [List.length_append, List.length_cons, List.length_nil, List.length_take, List.length_drop, List.length_replicate]) <;> (first | trivial | assumption | omega | (change (_ : Int) ≤ _; omega) | (change (_ : Int) < _; omega) | (change (_ : Nat) * 1 ≤ _; omega) | (change (_ : Nat) * 48 ≤ _; omega) | (change (_ : Nat) * 24 ≤ _; omega) | (change (_ : Nat) * 8 ≤ _; omega) | (change (_ : Nat) * 64 ≤ _; omega) | decide)); done)); (conv => lhs; whnf); (try simp (maxSteps := 2000000) (disch := omega) only [nI64, nU64, nU32, nU8, nSubL, nAddL, nAdd, nSub, nDiv, nMod, nZ, nLit, row_3, row_4, row_5, row_16, row_22, row_85, Ty.den, dflt_it, dflt_li, dflt_kv, Int.toNat_natCast, List.take_length, List.drop_zero]))
      rw [nextR_none (by rw [en]; unfold headS; rw [if_pos g2])]
      rfl
    · refine br_no (tst_f (by omega)) ?_
      conv => lhs; whnf
      try simp (maxSteps := 2000000) (disch := omega) only [nI64, nU64, nU32, nU8, nSubL, nAddL, nAdd, nSub, nDiv, nMod, nZ, nLit, row_3, row_4, row_5, row_16, row_22, row_85, Ty.den, dflt_it, dflt_li, dflt_kv, Int.toNat_natCast, List.take_length, List.drop_zero]
      repeat (refine br_go ?_ ?_; (focus (((repeat' first | exact rfl | exact ordB_st rfl | exact ordB_of rfl | apply band | apply tst_t | apply nt_t)  <;> (try dsimp only [Ty.den, dflt_kv]) <;> (try simp only [List.length_append, List.length_cons, List.length_nil, List.length_take, List.length_drop, List.length_replicate]) <;> (first | trivial | assumption | omega | (change (_ : Int) ≤ _; omega) | (change (_ : Int) < _; omega) | (change (_ : Nat) * 1 ≤ _; omega) | (change (_ : Nat) * 48 ≤ _; omega) | (change (_ : Nat) * 24 ≤ _; omega) | (change (_ : Nat) * 8 ≤ _; omega) | (change (_ : Nat) * 64 ≤ _; omega) | decide)); done)); (conv => lhs; whnf); (try simp (maxSteps := 2000000) (disch := omega) only [nI64, nU64, nU32, nU8, nSubL, nAddL, nAdd, nSub, nDiv, nMod, nZ, nLit, row_3, row_4, row_5, row_16, row_22, row_85, Ty.den, dflt_it, dflt_li, dflt_kv, Int.toNat_natCast, List.take_length, List.drop_zero]))
      have hx : 0 ≤ b.getD (m + 4) 0 ∧ b.getD (m + 4) 0 < 256 := rd_bytes hb ((m + 4 : Nat) : Int)
      have hy : 0 ≤ b.getD (m + 5) 0 ∧ b.getD (m + 5) 0 < 256 := rd_bytes hb ((m + 5 : Nat) : Int)
      have eo := or_len' hx hy
      obtain ⟨n, hn⟩ : ∃ n : Nat, b.getD (m + 4) 0 + 256 * b.getD (m + 5) 0 = (n : Int) := ⟨(b.getD (m + 4) 0 + 256 * b.getD (m + 5) 0).toNat, by omega⟩
      rw [hn] at eo
      try simp (maxSteps := 2000000) (disch := omega) only [nI64, nU64, nU32, nU8, nSubL, nAddL, nAdd, nSub, nDiv, nMod, nZ, nLit, row_3, row_4, row_5, row_16, row_22, row_85, Ty.den, dflt_it, dflt_li, dflt_kv, Int.toNat_natCast, List.take_length, List.drop_zero, eo]
      by_cases g3 : room m - 7 < n
      · refine br_go (tst_t (by omega)) ?_
        conv => lhs; whnf
        try simp (maxSteps := 2000000) (disch := omega) only [nI64, nU64, nU32, nU8, nSubL, nAddL, nAdd, nSub, nDiv, nMod, nZ, nLit, row_3, row_4, row_5, row_16, row_22, row_85, Ty.den, dflt_it, dflt_li, dflt_kv, Int.toNat_natCast, List.take_length, List.drop_zero]
        repeat (refine br_go ?_ ?_; (focus (((repeat' first | exact rfl | exact ordB_st rfl | exact ordB_of rfl | apply band | apply tst_t | apply nt_t)  <;> (try dsimp only [Ty.den, dflt_kv]) <;> (try simp only [List.length_append, List.length_cons, List.length_nil, List.length_take, List.length_drop, List.length_replicate]) <;> (first | trivial | assumption | omega | (change (_ : Int) ≤ _; omega) | (change (_ : Int) < _; omega) | (change (_ : Nat) * 1 ≤ _; omega) | (change (_ : Nat) * 48 ≤ _; omega) | (change (_ : Nat) * 24 ≤ _; omega) | (change (_ : Nat) * 8 ≤ _; omega) | (change (_ : Nat) * 64 ≤ _; omega) | decide)); done)); (conv => lhs; whnf); (try simp (maxSteps := 2000000) (disch := omega) only [nI64, nU64, nU32, nU8, nSubL, nAddL, nAdd, nSub, nDiv, nMod, nZ, nLit, row_3, row_4, row_5, row_16, row_22, row_85, Ty.den, dflt_it, dflt_li, dflt_kv, Int.toNat_natCast, List.take_length, List.drop_zero]))
        rw [nextR_none (by rw [en]; exact headS_long g2 hn (.inl g3))]
        rfl
      · refine br_no (tst_f (by omega)) ?_
        conv => lhs; whnf
        try simp (maxSteps := 2000000) (disch := omega) only [nI64, nU64, nU32, nU8, nSubL, nAddL, nAdd, nSub, nDiv, nMod, nZ, nLit, row_3, row_4, row_5, row_16, row_22, row_85, Ty.den, dflt_it, dflt_li, dflt_kv, Int.toNat_natCast, List.take_length, List.drop_zero]
        repeat (refine br_go ?_ ?_; (focus (((repeat' first | exact rfl | exact ordB_st rfl | exact ordB_of rfl | apply band | apply tst_t | apply nt_t)  <;> (try dsimp only [Ty.den, dflt_kv]) <;> (try simp only [List.length_append, List.length_cons, List.length_nil, List.length_take, List.length_drop, List.length_replicate]) <;> (first | trivial | assumption | omega | (change (_ : Int) ≤ _; omega) | (change (_ : Int) < _; omega) | (change (_ : Nat) * 1 ≤ _; omega) | (change (_ : Nat) * 48 ≤ _; omega) | (change (_ : Nat) * 24 ≤ _; omega) | (change (_ : Nat) * 8 ≤ _; omega) | (change (_ : Nat) * 64 ≤ _; omega) | decide)); done)); (conv => lhs; whnf); (try simp (maxSteps := 2000000) (disch := omega) only [nI64, nU64, nU32, nU8, nSubL, nAddL, nAdd, nSub, nDiv, nMod, nZ, nLit, row_3, row_4, row_5, row_16, row_22, row_85, Ty.den, dflt_it, dflt_li, dflt_kv, Int.toNat_natCast, List.take_length, List.drop_zero]))
        by_cases g4 : b.length < m + 7 + n
        · refine br_go (tst_t (by omega)) ?_
          conv => lhs; whnf
          try simp (maxSteps := 2000000) (disch := omega) only [nI64, nU64, nU32, nU8, nSubL, nAddL, nAdd, nSub, nDiv, nMod, nZ, nLit, row_3, row_4, row_5, row_16, row_22, row_85, Ty.den, dflt_it, dflt_li, dflt_kv, Int.toNat_natCast, List.take_length, List.drop_zero]
          repeat (refine br_go ?_ ?_; (focus (((repeat' first | exact rfl | exact ordB_st rfl | exact ordB_of rfl | apply band | apply tst_t | apply nt_t)  <;> (try dsimp only [Ty.den, dflt_kv]) <;> (try simp only [List.length_append, List.length_cons, List.length_nil, List.length_take, List.length_drop, List.length_replicate]) <;> (first | trivial | assumption | omega | (change (_ : Int) ≤ _; omega) | (change (_ : Int) < _; omega) | (change (_ : Nat) * 1 ≤ _; omega) | (change (_ : Nat) * 48 ≤ _; omega) | (change (_ : Nat) * 24 ≤ _; omega) | (change (_ : Nat) * 8 ≤ _; omega) | (change (_ : Nat) * 64 ≤ _; omega) | decide)); done)); (conv => lhs; whnf); (try simp (maxSteps := 2000000) (disch := omega) only [nI64, nU64, nU32, nU8, nSubL, nAddL, nAdd, nSub, nDiv, nMod, nZ, nLit, row_3, row_4, row_5, row_16, row_22, row_85, Ty.den, dflt_it, dflt_li, dflt_kv, Int.toNat_natCast, List.take_length, List.drop_zero]))
          rw [nextR_none (by rw [en]; exact headS_long g2 hn (.inr g4))]
          rfl
        · refine br_no (tst_f (by omega)) ?_
          conv => lhs; whnf
          try simp (maxSteps := 2000000) (disch := omega) only [nI64, nU64, nU32, nU8, nSubL, nAddL, nAdd, nSub, nDiv, nMod, nZ, nLit, row_3, row_4, row_5, row_16, row_22, row_85, Ty.den, dflt_it, dflt_li, dflt_kv, Int.toNat_natCast, List.take_length, List.drop_zero]
          repeat (refine br_go ?_ ?_; (focus (((repeat' first | exact rfl | exact ordB_st rfl | exact ordB_of rfl | apply band | apply tst_t | apply nt_t)  <;> (try dsimp only [Ty.den, dflt_kv]) <;> (try simp only [List.length_append, List.length_cons, List.length_nil, List.length_take, List.length_drop, List.length_replicate]) <;> (first | trivial | assumption | omega | (change (_ : Int) ≤ _; omega) | (change (_ : Int) < _; omega) | (change (_ : Nat) * 1 ≤ _; omega) | (change (_ : Nat) * 48 ≤ _; omega) | (change (_ : Nat) * 24 ≤ _; omega) | (change (_ : Nat) * 8 ≤ _; omega) | (change (_ : Nat) * 64 ≤ _; omega) | decide)); done)); (conv => lhs; whnf); (try simp (maxSteps := 2000000) (disch := omega) only [nI64, nU64, nU32, nU8, nSubL, nAddL, nAdd, nSub, nDiv, nMod, nZ, nLit, row_3, row_4, row_5, row_16, row_22, row_85, Ty.den, dflt_it, dflt_li, dflt_kv, Int.toNat_natCast, List.take_length, List.drop_zero]))
          have et : ((m : Int) + 7 + (n : Int)).toNat = m + 7 + n := by omega
          have eu : (unfixedS (List.drop m b) 4).1 = leVal (cutS b m (m + 4)) := by
            unfold unfixedS cutS
            rw [if_neg (by rw [List.length_drop]; omega), List.drop_take, show m + 4 - m = 4 by omega]
          have hg := headS_go g2 hn g3 g4
          try simp (maxSteps := 2000000) (disch := omega) only [nI64, nU64, nU32, nU8, nSubL, nAddL, nAdd, nSub, nDiv, nMod, nZ, nLit, row_3, row_4, row_5, row_16, row_22, row_85, Ty.den, dflt_it, dflt_li, dflt_kv, Int.toNat_natCast, List.take_length, List.drop_zero, et, eu]
          by_cases g5 : sumS (List.drop (m + 6) (List.take (m + 7 + n) b)) ≠ leVal (cutS b m (m + 4))
          · refine br_go (tst_t (g5)) ?_
            conv => lhs; whnf
            try simp (maxSteps := 2000000) (disch := omega) only [nI64, nU64, nU32, nU8, nSubL, nAddL, nAdd, nSub, nDiv, nMod, nZ, nLit, row_3, row_4, row_5, row_16, row_22, row_85, Ty.den, dflt_it, dflt_li, dflt_kv, Int.toNat_natCast, List.take_length, List.drop_zero]
            repeat (refine br_go ?_ ?_; (focus (((repeat' first | exact rfl | exact ordB_st rfl | exact ordB_of rfl | apply band | apply tst_t | apply nt_t)  <;> (try dsimp only [Ty.den, dflt_kv]) <;> (try simp only [List.length_append, List.length_cons, List.length_nil, List.length_take, List.length_drop, List.length_replicate]) <;> (first | trivial | assumption | omega | (change (_ : Int) ≤ _; omega) | (change (_ : Int) < _; omega) | (change (_ : Nat) * 1 ≤ _; omega) | (change (_ : Nat) * 48 ≤ _; omega) | (change (_ : Nat) * 24 ≤ _; omega) | (change (_ : Nat) * 8 ≤ _; omega) | (change (_ : Nat) * 64 ≤ _; omega) | decide)); done)); (conv => lhs; whnf); (try simp (maxSteps := 2000000) (disch := omega) only [nI64, nU64, nU32, nU8, nSubL, nAddL, nAdd, nSub, nDiv, nMod, nZ, nLit, row_3, row_4, row_5, row_16, row_22, row_85, Ty.den, dflt_it, dflt_li, dflt_kv, Int.toNat_natCast, List.take_length, List.drop_zero]))
            rw [nextR_none (by rw [en, hg]; exact if_pos g5)]
            rfl
          · refine br_no (tst_f (g5)) ?_
            conv => lhs; whnf
            try simp (maxSteps := 2000000) (disch := omega) only [nI64, nU64, nU32, nU8, nSubL, nAddL, nAdd, nSub, nDiv, nMod, nZ, nLit, row_3, row_4, row_5, row_16, row_22, row_85, Ty.den, dflt_it, dflt_li, dflt_kv, Int.toNat_natCast, List.take_length, List.drop_zero]
            repeat (refine br_go ?_ ?_; (focus (((repeat' first | exact rfl | exact ordB_st rfl | exact ordB_of rfl | apply band | apply tst_t | apply nt_t)  <;> (try dsimp only [Ty.den, dflt_kv]) <;> (try simp only [List.length_append, List.length_cons, List.length_nil, List.length_take, List.length_drop, List.length_replicate]) <;> (first | trivial | assumption | omega | (change (_ : Int) ≤ _; omega) | (change (_ : Int) < _; omega) | (change (_ : Nat) * 1 ≤ _; omega) | (change (_ : Nat) * 48 ≤ _; omega) | (change (_ : Nat) * 24 ≤ _; omega) | (change (_ : Nat) * 8 ≤ _; omega) | (change (_ : Nat) * 64 ≤ _; omega) | decide)); done)); (conv => lhs; whnf); (try simp (maxSteps := 2000000) (disch := omega) only [nI64, nU64, nU32, nU8, nSubL, nAddL, nAdd, nSub, nDiv, nMod, nZ, nLit, row_3, row_4, row_5, row_16, row_22, row_85, Ty.den, dflt_it, dflt_li, dflt_kv, Int.toNat_natCast, List.take_length, List.drop_zero]))
            try simp (maxSteps := 2000000) (disch := omega) only [nI64, nU64, nU32, nU8, nSubL, nAddL, nAdd, nSub, nDiv, nMod, nZ, nLit, row_3, row_4, row_5, row_16, row_22, row_85, Ty.den, dflt_it, dflt_li, dflt_kv, Int.toNat_natCast, List.take_length, List.drop_zero, et]
            rw [nextR_some (by rw [en, hg]; exact if_neg g5)]
            have ed : tst (((m : Int) + 7 + (n : Int)) % 64 = 0) = decide ((m + 7 + n) % 64 = 0) := by rw [tst_eq, decide_eq_decide]; omega
            have ez : ((m : Int) + 7 + (n : Int)) = ((m + 7 + n : Nat) : Int) := by omega
            rw [ed, ez]
            rfl
end Go.Proofs.YtbcfagackcnpkaaDoor.Ev
/- Logs: the program reads a record, and all. -/
namespace Go.Proofs.YtbcfagackcnpkaaDoor.Ev
open Go Go.RowKit
set_option linter.unusedVariables false
set_option linter.unusedSimpArgs false
set_option maxRecDepth 100000
set_option maxHeartbeats 8000000
theorem nextS_dlen {b : List Int} {a : Nat} {k : Int} {d : List Int} {e : Nat} (h : nextS b a = some (k, d, e)) : d.length ≤ b.length := by
  unfold nextS at h
  split at h
  · split at h
    · have := headS_end h; omega
    · cases h
  · have := headS_end h; omega
noncomputable def recSp : Sp := ⟨[byl, i64], fun x => tst (0 ≤ x.2.1) && tst (x.2.1 ≤ (List.length x.1 : Int)) && tst (List.length x.1 ≤ 1099511627776), fun x => .tup [vB (recS x.1 (Int.toNat x.2.1) false []).1, vI ((recS x.1 (Int.toNat x.2.1) false []).2.1 : Nat), .d .bo (recS x.1 (Int.toNat x.2.1) false []).2.2]⟩
abbrev recC : Ctx := ⟨rows, (fun | 0 => ([0, 1, 7, 8, 9], [4, 5, 6]) | 1 => ([], [0, 1, 7, 8, 9]) | 2 => ([], []) | 3 => ([], [0, 7, 8, 9, 10, 11]) | 4 => ([], [0, 7, 8, 9, 10, 11]) | 5 => ([], [7, 9, 11]) | 6 => ([], [7, 9, 11]) | _ => ([], []))⟩
theorem rec_ok (T : Tab) (h1 : T 31 = nextSp.ent) (h2 : T 30 = none) : recSp.OkW T recC F24 := by
  rw [on_top h1, off_top h2]
  rintro ⟨(b : List Int), (a : Int), _⟩ hf hp
  have hp : (0 ≤ a ∧ a ≤ (b.length : Int)) ∧ b.length ≤ 1099511627776 := by simpa only [recSp, Bool.and_eq_true, tst_iff] using hp
  obtain ⟨⟨p1, p2⟩, p3⟩ := hp
  obtain ⟨m, rfl⟩ : ∃ m : Nat, a = m := ⟨a.toNat, by omega⟩
  obtain ⟨F, hF⟩ : ∃ F : Nat, F = b.length + 5 := ⟨_, rfl⟩
  refine ⟨F, 1, ?_⟩
  show evFn _ _ _ _ _ [vB b, vI m] [] _ = some (.tup [vB (recS b m false []).1, vI ((recS b m false []).2.1 : Nat), .d .bo (recS b m false []).2.2] : V)
  conv => lhs; whnf
  try simp (maxSteps := 2000000) (disch := omega) only [nI64, nU64, nU32, nU8, nSubL, nAddL, nAdd, nSub, nDiv, nMod, nZ, nLit, row_3, row_4, row_5, row_16, row_22, row_85, Ty.den, dflt_it, dflt_li, dflt_kv, Int.toNat_natCast, List.take_length, List.drop_zero]
  generalize hR : recS b m false [] = R
  refine loop_rule (α := Nat × Bool × List Int) (fun s => s.1 ≤ b.length ∧ s.2.2.length ≤ 4194304 ∧ recS b s.1 s.2.1 s.2.2 = R) (fun s => b.length - s.1)
    (fun s => (vB b :: vI s.1 :: V.bad :: V.bad :: V.bad :: V.bad :: V.bad :: V.p 1 0 :: V.fn 30 [] [V.p 1 0] :: V.d .bo s.2.1 :: V.bad :: V.bad :: V.bad :: V.bad :: V.bad :: V.bad :: V.bad :: V.bad :: V.bad :: V.bad :: V.bad :: V.bad :: V.bad :: V.bad :: V.bad :: V.bad :: V.bad :: V.bad :: V.bad :: V.bad :: V.bad :: V.bad :: V.bad :: V.bad :: V.bad :: V.bad :: V.bad :: V.bad :: V.bad :: V.bad :: V.bad :: V.bad :: V.bad :: V.bad :: V.bad :: V.bad :: V.bad :: V.bad :: V.bad :: V.bad :: V.bad :: V.bad :: V.bad :: V.bad :: V.bad :: V.bad :: V.bad :: V.bad :: V.bad :: V.bad :: []))
    (fun s => [.fam 0, .obj [vO 2 s.2.2], .fam s.2.2.length])
    (fun s => some (V.tup [vB R.1, vI (R.2.1 : Nat), .d .bo R.2.2])) ?_ F (m, false, []) ⟨by show m ≤ b.length; omega, by simp, hR⟩ (by show b.length - m < F; omega)
  rintro ⟨i, g, o⟩ K ⟨k1, k2, k3⟩ hK
  simp only at k1 k2 k3 hK ⊢
  conv => lhs; whnf
  try simp (maxSteps := 2000000) (disch := omega) only [nI64, nU64, nU32, nU8, nSubL, nAddL, nAdd, nSub, nDiv, nMod, nZ, nLit, row_3, row_4, row_5, row_16, row_22, row_85, Ty.den, dflt_it, dflt_li, dflt_kv, Int.toNat_natCast, List.take_length, List.drop_zero]
  repeat (refine br_go ?_ ?_; (focus (((repeat' first | exact rfl | exact ordB_st rfl | exact ordB_of rfl | apply band | apply tst_t | apply nt_t)  <;> (try dsimp only [Ty.den, dflt_kv]) <;> (try simp only [List.length_append, List.length_cons, List.length_nil, List.length_take, List.length_drop, List.length_replicate]) <;> (first | trivial | assumption | omega | (change (_ : Int) ≤ _; omega) | (change (_ : Int) < _; omega) | (change (_ : Nat) * 1 ≤ _; omega) | (change (_ : Nat) * 48 ≤ _; omega) | (change (_ : Nat) * 24 ≤ _; omega) | (change (_ : Nat) * 8 ≤ _; omega) | (change (_ : Nat) * 64 ≤ _; omega) | decide)); done)); (conv => lhs; whnf); (try simp (maxSteps := 2000000) (disch := omega) only [nI64, nU64, nU32, nU8, nSubL, nAddL, nAdd, nSub, nDiv, nMod, nZ, nLit, row_3, row_4, row_5, row_16, row_22, row_85, Ty.den, dflt_it, dflt_li, dflt_kv, Int.toNat_natCast, List.take_length, List.drop_zero]))
  cases hx : nextS b i with
  | none =>
    rw [recS_none hx] at k3
    have e1 := nextR_none hx
    try simp (maxSteps := 2000000) (disch := omega) only [nI64, nU64, nU32, nU8, nSubL, nAddL, nAdd, nSub, nDiv, nMod, nZ, nLit, row_3, row_4, row_5, row_16, row_22, row_85, Ty.den, dflt_it, dflt_li, dflt_kv, Int.toNat_natCast, List.take_length, List.drop_zero, e1]
    conv => lhs; whnf
    try simp (maxSteps := 2000000) (disch := omega) only [nI64, nU64, nU32, nU8, nSubL, nAddL, nAdd, nSub, nDiv, nMod, nZ, nLit, row_3, row_4, row_5, row_16, row_22, row_85, Ty.den, dflt_it, dflt_li, dflt_kv, Int.toNat_natCast, List.take_length, List.drop_zero]
    repeat (refine br_go ?_ ?_; (focus (((repeat' first | exact rfl | exact ordB_st rfl | exact ordB_of rfl | apply band | apply tst_t | apply nt_t)  <;> (try dsimp only [Ty.den, dflt_kv]) <;> (try simp only [List.length_append, List.length_cons, List.length_nil, List.length_take, List.length_drop, List.length_replicate]) <;> (first | trivial | assumption | omega | (change (_ : Int) ≤ _; omega) | (change (_ : Int) < _; omega) | (change (_ : Nat) * 1 ≤ _; omega) | (change (_ : Nat) * 48 ≤ _; omega) | (change (_ : Nat) * 24 ≤ _; omega) | (change (_ : Nat) * 8 ≤ _; omega) | (change (_ : Nat) * 64 ≤ _; omega) | decide)); done)); (conv => lhs; whnf); (try simp (maxSteps := 2000000) (disch := omega) only [nI64, nU64, nU32, nU8, nSubL, nAddL, nAdd, nSub, nDiv, nMod, nZ, nLit, row_3, row_4, row_5, row_16, row_22, row_85, Ty.den, dflt_it, dflt_li, dflt_kv, Int.toNat_natCast, List.take_length, List.drop_zero]))
    rw [← k3]
    rfl
  | some x =>
    obtain ⟨k, d, e⟩ := x
    have e1 := nextR_some hx
    have he := nextS_end hx
    rw [recS_some hx] at k3
    try simp (maxSteps := 2000000) (disch := omega) only [nI64, nU64, nU32, nU8, nSubL, nAddL, nAdd, nSub, nDiv, nMod, nZ, nLit, row_3, row_4, row_5, row_16, row_22, row_85, Ty.den, dflt_it, dflt_li, dflt_kv, Int.toNat_natCast, List.take_length, List.drop_zero, e1]
    conv => lhs; whnf
    try simp (maxSteps := 2000000) (disch := omega) only [nI64, nU64, nU32, nU8, nSubL, nAddL, nAdd, nSub, nDiv, nMod, nZ, nLit, row_3, row_4, row_5, row_16, row_22, row_85, Ty.den, dflt_it, dflt_li, dflt_kv, Int.toNat_natCast, List.take_length, List.drop_zero]
    repeat (refine br_go ?_ ?_; (focus (((repeat' first | exact rfl | exact ordB_st rfl | exact ordB_of rfl | apply band | apply tst_t | apply nt_t)  <;> (try dsimp only [Ty.den, dflt_kv]) <;> (try simp only [List.length_append, List.length_cons, List.length_nil, List.length_take, List.length_drop, List.length_replicate]) <;> (first | trivial | assumption | omega | (change (_ : Int) ≤ _; omega) | (change (_ : Int) < _; omega) | (change (_ : Nat) * 1 ≤ _; omega) | (change (_ : Nat) * 48 ≤ _; omega) | (change (_ : Nat) * 24 ≤ _; omega) | (change (_ : Nat) * 8 ≤ _; omega) | (change (_ : Nat) * 64 ≤ _; omega) | decide)); done)); (conv => lhs; whnf); (try simp (maxSteps := 2000000) (disch := omega) only [nI64, nU64, nU32, nU8, nSubL, nAddL, nAdd, nSub, nDiv, nMod, nZ, nLit, row_3, row_4, row_5, row_16, row_22, row_85, Ty.den, dflt_it, dflt_li, dflt_kv, Int.toNat_natCast, List.take_length, List.drop_zero]))
    have hdl : d.length ≤ b.length := nextS_dlen hx
    have eb : ((ctxOf 30).row 5).bytes = 1 := rfl
    try simp (maxSteps := 2000000) (disch := omega) only [nI64, nU64, nU32, nU8, nSubL, nAddL, nAdd, nSub, nDiv, nMod, nZ, nLit, row_3, row_4, row_5, row_16, row_22, row_85, Ty.den, dflt_it, dflt_li, dflt_kv, Int.toNat_natCast, List.take_length, List.drop_zero, eb]
    refine br_go ?_ ?_
    focus (((repeat' first | exact rfl | exact ordB_st rfl | exact ordB_of rfl | apply band | apply tst_t | apply nt_t)  <;> (try dsimp only [Ty.den, dflt_kv]) <;> (try simp only [List.length_append, List.length_cons, List.length_nil, List.length_take, List.length_drop, List.length_replicate]) <;> (first | trivial | assumption | omega | (change (_ : Int) ≤ _; omega) | (change (_ : Int) < _; omega) | (change (_ : Nat) * 1 ≤ _; omega) | (change (_ : Nat) * 48 ≤ _; omega) | (change (_ : Nat) * 24 ≤ _; omega) | (change (_ : Nat) * 8 ≤ _; omega) | (change (_ : Nat) * 64 ≤ _; omega) | decide)); done)
    conv => lhs; whnf
    try simp (maxSteps := 2000000) (disch := omega) only [nI64, nU64, nU32, nU8, nSubL, nAddL, nAdd, nSub, nDiv, nMod, nZ, nLit, row_3, row_4, row_5, row_16, row_22, row_85, Ty.den, dflt_it, dflt_li, dflt_kv, Int.toNat_natCast, List.take_length, List.drop_zero]
    by_cases q1 : 4194304 < (o ++ d).length
    · rw [if_pos q1] at k3
      refine br_go (nt_t (by omega)) ?_
      conv => lhs; whnf
      try simp (maxSteps := 2000000) (disch := omega) only [nI64, nU64, nU32, nU8, nSubL, nAddL, nAdd, nSub, nDiv, nMod, nZ, nLit, row_3, row_4, row_5, row_16, row_22, row_85, Ty.den, dflt_it, dflt_li, dflt_kv, Int.toNat_natCast, List.take_length, List.drop_zero]
      repeat (refine br_go ?_ ?_; (focus (((repeat' first | exact rfl | exact ordB_st rfl | exact ordB_of rfl | apply band | apply tst_t | apply nt_t)  <;> (try dsimp only [Ty.den, dflt_kv]) <;> (try simp only [List.length_append, List.length_cons, List.length_nil, List.length_take, List.length_drop, List.length_replicate]) <;> (first | trivial | assumption | omega | (change (_ : Int) ≤ _; omega) | (change (_ : Int) < _; omega) | (change (_ : Nat) * 1 ≤ _; omega) | (change (_ : Nat) * 48 ≤ _; omega) | (change (_ : Nat) * 24 ≤ _; omega) | (change (_ : Nat) * 8 ≤ _; omega) | (change (_ : Nat) * 64 ≤ _; omega) | decide)); done)); (conv => lhs; whnf); (try simp (maxSteps := 2000000) (disch := omega) only [nI64, nU64, nU32, nU8, nSubL, nAddL, nAdd, nSub, nDiv, nMod, nZ, nLit, row_3, row_4, row_5, row_16, row_22, row_85, Ty.den, dflt_it, dflt_li, dflt_kv, Int.toNat_natCast, List.take_length, List.drop_zero]))
      rw [← k3]
      rfl
    · rw [if_neg q1] at k3
      refine br_no (nt_f (by omega)) ?_
      conv => lhs; whnf
      try simp (maxSteps := 2000000) (disch := omega) only [nI64, nU64, nU32, nU8, nSubL, nAddL, nAdd, nSub, nDiv, nMod, nZ, nLit, row_3, row_4, row_5, row_16, row_22, row_85, Ty.den, dflt_it, dflt_li, dflt_kv, Int.toNat_natCast, List.take_length, List.drop_zero]
      by_cases q2 : k = 2
      · rw [if_pos q2] at k3
        refine br_go (tst_t (q2)) ?_
        conv => lhs; whnf
        try simp (maxSteps := 2000000) (disch := omega) only [nI64, nU64, nU32, nU8, nSubL, nAddL, nAdd, nSub, nDiv, nMod, nZ, nLit, row_3, row_4, row_5, row_16, row_22, row_85, Ty.den, dflt_it, dflt_li, dflt_kv, Int.toNat_natCast, List.take_length, List.drop_zero]
        cases g with
        | true =>
          rw [if_pos (.inl rfl)] at k3
          conv => lhs; whnf
          try simp (maxSteps := 2000000) (disch := omega) only [nI64, nU64, nU32, nU8, nSubL, nAddL, nAdd, nSub, nDiv, nMod, nZ, nLit, row_3, row_4, row_5, row_16, row_22, row_85, Ty.den, dflt_it, dflt_li, dflt_kv, Int.toNat_natCast, List.take_length, List.drop_zero]
          repeat (refine br_go ?_ ?_; (focus (((repeat' first | exact rfl | exact ordB_st rfl | exact ordB_of rfl | apply band | apply tst_t | apply nt_t)  <;> (try dsimp only [Ty.den, dflt_kv]) <;> (try simp only [List.length_append, List.length_cons, List.length_nil, List.length_take, List.length_drop, List.length_replicate]) <;> (first | trivial | assumption | omega | (change (_ : Int) ≤ _; omega) | (change (_ : Int) < _; omega) | (change (_ : Nat) * 1 ≤ _; omega) | (change (_ : Nat) * 48 ≤ _; omega) | (change (_ : Nat) * 24 ≤ _; omega) | (change (_ : Nat) * 8 ≤ _; omega) | (change (_ : Nat) * 64 ≤ _; omega) | decide)); done)); (conv => lhs; whnf); (try simp (maxSteps := 2000000) (disch := omega) only [nI64, nU64, nU32, nU8, nSubL, nAddL, nAdd, nSub, nDiv, nMod, nZ, nLit, row_3, row_4, row_5, row_16, row_22, row_85, Ty.den, dflt_it, dflt_li, dflt_kv, Int.toNat_natCast, List.take_length, List.drop_zero]))
          rw [← k3]
          rfl
        | false =>
          conv => lhs; whnf
          try simp (maxSteps := 2000000) (disch := omega) only [nI64, nU64, nU32, nU8, nSubL, nAddL, nAdd, nSub, nDiv, nMod, nZ, nLit, row_3, row_4, row_5, row_16, row_22, row_85, Ty.den, dflt_it, dflt_li, dflt_kv, Int.toNat_natCast, List.take_length, List.drop_zero]
          by_cases q3 : e % 64 = 0
          · rw [if_neg (by intro h; rcases h with h | h; cases h; exact h q3)] at k3
            refine br_no ((by rw [decide_eq_true q3]; rfl)) ?_
            conv => lhs; whnf
            try simp (maxSteps := 2000000) (disch := omega) only [nI64, nU64, nU32, nU8, nSubL, nAddL, nAdd, nSub, nDiv, nMod, nZ, nLit, row_3, row_4, row_5, row_16, row_22, row_85, Ty.den, dflt_it, dflt_li, dflt_kv, Int.toNat_natCast, List.take_length, List.drop_zero]
            repeat (refine br_go ?_ ?_; (focus (((repeat' first | exact rfl | exact ordB_st rfl | exact ordB_of rfl | apply band | apply tst_t | apply nt_t)  <;> (try dsimp only [Ty.den, dflt_kv]) <;> (try simp only [List.length_append, List.length_cons, List.length_nil, List.length_take, List.length_drop, List.length_replicate]) <;> (first | trivial | assumption | omega | (change (_ : Int) ≤ _; omega) | (change (_ : Int) < _; omega) | (change (_ : Nat) * 1 ≤ _; omega) | (change (_ : Nat) * 48 ≤ _; omega) | (change (_ : Nat) * 24 ≤ _; omega) | (change (_ : Nat) * 8 ≤ _; omega) | (change (_ : Nat) * 64 ≤ _; omega) | decide)); done)); (conv => lhs; whnf); (try simp (maxSteps := 2000000) (disch := omega) only [nI64, nU64, nU32, nU8, nSubL, nAddL, nAdd, nSub, nDiv, nMod, nZ, nLit, row_3, row_4, row_5, row_16, row_22, row_85, Ty.den, dflt_it, dflt_li, dflt_kv, Int.toNat_natCast, List.take_length, List.drop_zero]))
            exact hK (e, true, o ++ d) ⟨he.2, by show (o ++ d).length ≤ 4194304; omega, k3⟩ (by show b.length - e < b.length - i; omega)
          · rw [if_pos (.inr q3)] at k3
            refine br_go ((by rw [decide_eq_false q3]; rfl)) ?_
            conv => lhs; whnf
            try simp (maxSteps := 2000000) (disch := omega) only [nI64, nU64, nU32, nU8, nSubL, nAddL, nAdd, nSub, nDiv, nMod, nZ, nLit, row_3, row_4, row_5, row_16, row_22, row_85, Ty.den, dflt_it, dflt_li, dflt_kv, Int.toNat_natCast, List.take_length, List.drop_zero]
            repeat (refine br_go ?_ ?_; (focus (((repeat' first | exact rfl | exact ordB_st rfl | exact ordB_of rfl | apply band | apply tst_t | apply nt_t)  <;> (try dsimp only [Ty.den, dflt_kv]) <;> (try simp only [List.length_append, List.length_cons, List.length_nil, List.length_take, List.length_drop, List.length_replicate]) <;> (first | trivial | assumption | omega | (change (_ : Int) ≤ _; omega) | (change (_ : Int) < _; omega) | (change (_ : Nat) * 1 ≤ _; omega) | (change (_ : Nat) * 48 ≤ _; omega) | (change (_ : Nat) * 24 ≤ _; omega) | (change (_ : Nat) * 8 ≤ _; omega) | (change (_ : Nat) * 64 ≤ _; omega) | decide)); done)); (conv => lhs; whnf); (try simp (maxSteps := 2000000) (disch := omega) only [nI64, nU64, nU32, nU8, nSubL, nAddL, nAdd, nSub, nDiv, nMod, nZ, nLit, row_3, row_4, row_5, row_16, row_22, row_85, Ty.den, dflt_it, dflt_li, dflt_kv, Int.toNat_natCast, List.take_length, List.drop_zero]))
            rw [← k3]
            rfl
      · rw [if_neg q2] at k3
        refine br_no (tst_f (q2)) ?_
        conv => lhs; whnf
        try simp (maxSteps := 2000000) (disch := omega) only [nI64, nU64, nU32, nU8, nSubL, nAddL, nAdd, nSub, nDiv, nMod, nZ, nLit, row_3, row_4, row_5, row_16, row_22, row_85, Ty.den, dflt_it, dflt_li, dflt_kv, Int.toNat_natCast, List.take_length, List.drop_zero]
        by_cases q3 : k = 3
        · rw [if_pos q3] at k3
          refine br_go (tst_t (q3)) ?_
          conv => lhs; whnf
          try simp (maxSteps := 2000000) (disch := omega) only [nI64, nU64, nU32, nU8, nSubL, nAddL, nAdd, nSub, nDiv, nMod, nZ, nLit, row_3, row_4, row_5, row_16, row_22, row_85, Ty.den, dflt_it, dflt_li, dflt_kv, Int.toNat_natCast, List.take_length, List.drop_zero]
          cases g with
          | false =>
            rw [if_pos (.inl rfl)] at k3
            conv => lhs; whnf
            try simp (maxSteps := 2000000) (disch := omega) only [nI64, nU64, nU32, nU8, nSubL, nAddL, nAdd, nSub, nDiv, nMod, nZ, nLit, row_3, row_4, row_5, row_16, row_22, row_85, Ty.den, dflt_it, dflt_li, dflt_kv, Int.toNat_natCast, List.take_length, List.drop_zero]
            repeat (refine br_go ?_ ?_; (focus (((repeat' first | exact rfl | exact ordB_st rfl | exact ordB_of rfl | apply band | apply tst_t | apply nt_t)  <;> (try dsimp only [Ty.den, dflt_kv]) <;> (try simp only [List.length_append, List.length_cons, List.length_nil, List.length_take, List.length_drop, List.length_replicate]) <;> (first | trivial | assumption | omega | (change (_ : Int) ≤ _; omega) | (change (_ : Int) < _; omega) | (change (_ : Nat) * 1 ≤ _; omega) | (change (_ : Nat) * 48 ≤ _; omega) | (change (_ : Nat) * 24 ≤ _; omega) | (change (_ : Nat) * 8 ≤ _; omega) | (change (_ : Nat) * 64 ≤ _; omega) | decide)); done)); (conv => lhs; whnf); (try simp (maxSteps := 2000000) (disch := omega) only [nI64, nU64, nU32, nU8, nSubL, nAddL, nAdd, nSub, nDiv, nMod, nZ, nLit, row_3, row_4, row_5, row_16, row_22, row_85, Ty.den, dflt_it, dflt_li, dflt_kv, Int.toNat_natCast, List.take_length, List.drop_zero]))
            rw [← k3]
            rfl
          | true =>
            conv => lhs; whnf
            try simp (maxSteps := 2000000) (disch := omega) only [nI64, nU64, nU32, nU8, nSubL, nAddL, nAdd, nSub, nDiv, nMod, nZ, nLit, row_3, row_4, row_5, row_16, row_22, row_85, Ty.den, dflt_it, dflt_li, dflt_kv, Int.toNat_natCast, List.take_length, List.drop_zero]
            by_cases q4 : e % 64 = 0
            · rw [if_neg (by intro h; rcases h with h | h; cases h; exact h q4)] at k3
              refine br_no ((by rw [decide_eq_true q4]; rfl)) ?_
              conv => lhs; whnf
              try simp (maxSteps := 2000000) (disch := omega) only [nI64, nU64, nU32, nU8, nSubL, nAddL, nAdd, nSub, nDiv, nMod, nZ, nLit, row_3, row_4, row_5, row_16, row_22, row_85, Ty.den, dflt_it, dflt_li, dflt_kv, Int.toNat_natCast, List.take_length, List.drop_zero]
              repeat (refine br_go ?_ ?_; (focus (((repeat' first | exact rfl | exact ordB_st rfl | exact ordB_of rfl | apply band | apply tst_t | apply nt_t)  <;> (try dsimp only [Ty.den, dflt_kv]) <;> (try simp only [List.length_append, List.length_cons, List.length_nil, List.length_take, List.length_drop, List.length_replicate]) <;> (first | trivial | assumption | omega | (change (_ : Int) ≤ _; omega) | (change (_ : Int) < _; omega) | (change (_ : Nat) * 1 ≤ _; omega) | (change (_ : Nat) * 48 ≤ _; omega) | (change (_ : Nat) * 24 ≤ _; omega) | (change (_ : Nat) * 8 ≤ _; omega) | (change (_ : Nat) * 64 ≤ _; omega) | decide)); done)); (conv => lhs; whnf); (try simp (maxSteps := 2000000) (disch := omega) only [nI64, nU64, nU32, nU8, nSubL, nAddL, nAdd, nSub, nDiv, nMod, nZ, nLit, row_3, row_4, row_5, row_16, row_22, row_85, Ty.den, dflt_it, dflt_li, dflt_kv, Int.toNat_natCast, List.take_length, List.drop_zero]))
              exact hK (e, true, o ++ d) ⟨he.2, by show (o ++ d).length ≤ 4194304; omega, k3⟩ (by show b.length - e < b.length - i; omega)
            · rw [if_pos (.inr q4)] at k3
              refine br_go ((by rw [decide_eq_false q4]; rfl)) ?_
              conv => lhs; whnf
              try simp (maxSteps := 2000000) (disch := omega) only [nI64, nU64, nU32, nU8, nSubL, nAddL, nAdd, nSub, nDiv, nMod, nZ, nLit, row_3, row_4, row_5, row_16, row_22, row_85, Ty.den, dflt_it, dflt_li, dflt_kv, Int.toNat_natCast, List.take_length, List.drop_zero]
              repeat (refine br_go ?_ ?_; (focus (((repeat' first | exact rfl | exact ordB_st rfl | exact ordB_of rfl | apply band | apply tst_t | apply nt_t)  <;> (try dsimp only [Ty.den, dflt_kv]) <;> (try simp only [List.length_append, List.length_cons, List.length_nil, List.length_take, List.length_drop, List.length_replicate]) <;> (first | trivial | assumption | omega | (change (_ : Int) ≤ _; omega) | (change (_ : Int) < _; omega) | (change (_ : Nat) * 1 ≤ _; omega) | (change (_ : Nat) * 48 ≤ _; omega) | (change (_ : Nat) * 24 ≤ _; omega) | (change (_ : Nat) * 8 ≤ _; omega) | (change (_ : Nat) * 64 ≤ _; omega) | decide)); done)); (conv => lhs; whnf); (try simp (maxSteps := 2000000) (disch := omega) only [nI64, nU64, nU32, nU8, nSubL, nAddL, nAdd, nSub, nDiv, nMod, nZ, nLit, row_3, row_4, row_5, row_16, row_22, row_85, Ty.den, dflt_it, dflt_li, dflt_kv, Int.toNat_natCast, List.take_length, List.drop_zero]))
              rw [← k3]
              rfl
        · rw [if_neg q3] at k3
          refine br_no (tst_f (q3)) ?_
          conv => lhs; whnf
          try simp (maxSteps := 2000000) (disch := omega) only [nI64, nU64, nU32, nU8, nSubL, nAddL, nAdd, nSub, nDiv, nMod, nZ, nLit, row_3, row_4, row_5, row_16, row_22, row_85, Ty.den, dflt_it, dflt_li, dflt_kv, Int.toNat_natCast, List.take_length, List.drop_zero]
          by_cases q4 : k = 1
          · rw [if_pos q4] at k3
            refine br_go (tst_t (q4)) ?_
            conv => lhs; whnf
            try simp (maxSteps := 2000000) (disch := omega) only [nI64, nU64, nU32, nU8, nSubL, nAddL, nAdd, nSub, nDiv, nMod, nZ, nLit, row_3, row_4, row_5, row_16, row_22, row_85, Ty.den, dflt_it, dflt_li, dflt_kv, Int.toNat_natCast, List.take_length, List.drop_zero]
            repeat (refine br_go ?_ ?_; (focus (((repeat' first | exact rfl | exact ordB_st rfl | exact ordB_of rfl | apply band | apply tst_t | apply nt_t)  <;> (try dsimp only [Ty.den, dflt_kv]) <;> (try simp only [List.length_append, List.length_cons, List.length_nil, List.length_take, List.length_drop, List.length_replicate]) <;> (first | trivial | assumption | omega | (change (_ : Int) ≤ _; omega) | (change (_ : Int) < _; omega) | (change (_ : Nat) * 1 ≤ _; omega) | (change (_ : Nat) * 48 ≤ _; omega) | (change (_ : Nat) * 24 ≤ _; omega) | (change (_ : Nat) * 8 ≤ _; omega) | (change (_ : Nat) * 64 ≤ _; omega) | decide)); done)); (conv => lhs; whnf); (try simp (maxSteps := 2000000) (disch := omega) only [nI64, nU64, nU32, nU8, nSubL, nAddL, nAdd, nSub, nDiv, nMod, nZ, nLit, row_3, row_4, row_5, row_16, row_22, row_85, Ty.den, dflt_it, dflt_li, dflt_kv, Int.toNat_natCast, List.take_length, List.drop_zero]))
            rw [← k3]
          · rw [if_neg q4] at k3
            refine br_no (tst_f (q4)) ?_
            conv => lhs; whnf
            try simp (maxSteps := 2000000) (disch := omega) only [nI64, nU64, nU32, nU8, nSubL, nAddL, nAdd, nSub, nDiv, nMod, nZ, nLit, row_3, row_4, row_5, row_16, row_22, row_85, Ty.den, dflt_it, dflt_li, dflt_kv, Int.toNat_natCast, List.take_length, List.drop_zero]
            by_cases q5 : k = 4
            · rw [if_pos q5] at k3
              refine br_go (tst_t (q5)) ?_
              conv => lhs; whnf
              try simp (maxSteps := 2000000) (disch := omega) only [nI64, nU64, nU32, nU8, nSubL, nAddL, nAdd, nSub, nDiv, nMod, nZ, nLit, row_3, row_4, row_5, row_16, row_22, row_85, Ty.den, dflt_it, dflt_li, dflt_kv, Int.toNat_natCast, List.take_length, List.drop_zero]
              repeat (refine br_go ?_ ?_; (focus (((repeat' first | exact rfl | exact ordB_st rfl | exact ordB_of rfl | apply band | apply tst_t | apply nt_t)  <;> (try dsimp only [Ty.den, dflt_kv]) <;> (try simp only [List.length_append, List.length_cons, List.length_nil, List.length_take, List.length_drop, List.length_replicate]) <;> (first | trivial | assumption | omega | (change (_ : Int) ≤ _; omega) | (change (_ : Int) < _; omega) | (change (_ : Nat) * 1 ≤ _; omega) | (change (_ : Nat) * 48 ≤ _; omega) | (change (_ : Nat) * 24 ≤ _; omega) | (change (_ : Nat) * 8 ≤ _; omega) | (change (_ : Nat) * 64 ≤ _; omega) | decide)); done)); (conv => lhs; whnf); (try simp (maxSteps := 2000000) (disch := omega) only [nI64, nU64, nU32, nU8, nSubL, nAddL, nAdd, nSub, nDiv, nMod, nZ, nLit, row_3, row_4, row_5, row_16, row_22, row_85, Ty.den, dflt_it, dflt_li, dflt_kv, Int.toNat_natCast, List.take_length, List.drop_zero]))
              rw [← k3]
            · rw [if_neg q5] at k3
              refine br_no (tst_f (q5)) ?_
              conv => lhs; whnf
              try simp (maxSteps := 2000000) (disch := omega) only [nI64, nU64, nU32, nU8, nSubL, nAddL, nAdd, nSub, nDiv, nMod, nZ, nLit, row_3, row_4, row_5, row_16, row_22, row_85, Ty.den, dflt_it, dflt_li, dflt_kv, Int.toNat_natCast, List.take_length, List.drop_zero]
              repeat (refine br_go ?_ ?_; (focus (((repeat' first | exact rfl | exact ordB_st rfl | exact ordB_of rfl | apply band | apply tst_t | apply nt_t)  <;> (try dsimp only [Ty.den, dflt_kv]) <;> (try simp only [List.length_append, List.length_cons, List.length_nil, List.length_take, List.length_drop, List.length_replicate]) <;> (first | trivial | assumption | omega | (change (_ : Int) ≤ _; omega) | (change (_ : Int) < _; omega) | (change (_ : Nat) * 1 ≤ _; omega) | (change (_ : Nat) * 48 ≤ _; omega) | (change (_ : Nat) * 24 ≤ _; omega) | (change (_ : Nat) * 8 ≤ _; omega) | (change (_ : Nat) * 64 ≤ _; omega) | decide)); done)); (conv => lhs; whnf); (try simp (maxSteps := 2000000) (disch := omega) only [nI64, nU64, nU32, nU8, nSubL, nAddL, nAdd, nSub, nDiv, nMod, nZ, nLit, row_3, row_4, row_5, row_16, row_22, row_85, Ty.den, dflt_it, dflt_li, dflt_kv, Int.toNat_natCast, List.take_length, List.drop_zero]))
              rw [← k3]
              rfl
noncomputable def readSp : Sp := ⟨[byl], fun x => tst (List.length x.1 ≤ 1099511627776), fun x => .tup [.own 0 byl (readS x.1 0).1, vI ((readS x.1 0).2 : Nat)]⟩
theorem readS_yes' {b : List Int} {a : Nat} (h : (recS b a false []).2.2 = true) : readS b a = ((recS b a false []).1 :: (readS b (recS b a false []).2.1).1, (readS b (recS b a false []).2.1).2) := by
  rw [readS, dif_pos h]
theorem readS_no' {b : List Int} {a : Nat} (h : (recS b a false []).2.2 = false) : readS b a = ([], a) := by
  rw [readS, dif_neg (by rw [h]; decide)]
abbrev readC : Ctx := ⟨rows, (fun | 0 => ([0, 4, 5], [2, 3]) | 1 => ([], [0, 4, 5]) | _ => ([], []))⟩
theorem read_ok (T : Tab) (h1 : T 24 = recSp.ent) : readSp.Ok T readC F11 := by
  rw [on_top h1]
  rintro ⟨(b : List Int), _⟩ hf hp
  have p3 : b.length ≤ 1099511627776 := tst_iff.1 hp
  obtain ⟨F, hF⟩ : ∃ F : Nat, F = b.length + 5 := ⟨_, rfl⟩
  refine ⟨F, 1, ?_⟩
  show evFn _ _ _ _ _ [vB b] [] _ = some (.tup [.own 0 byl (readS b 0).1, vI ((readS b 0).2 : Nat)] : V)
  conv => lhs; whnf
  try simp (maxSteps := 2000000) (disch := omega) only [nI64, nU64, nU32, nU8, nSubL, nAddL, nAdd, nSub, nDiv, nMod, nZ, nLit, row_3, row_4, row_5, row_16, row_22, row_85, Ty.den, dflt_it, dflt_li, dflt_kv, Int.toNat_natCast, List.take_length, List.drop_zero]
  generalize hR : readS b 0 = R
  refine loop_rule (α := Nat × List (List Int)) (fun s => s.1 ≤ b.length ∧ s.2.length ≤ s.1 ∧ (s.2 ++ (readS b s.1).1, (readS b s.1).2) = R) (fun s => b.length - s.1)
    (fun s => (vB b :: V.bad :: V.bad :: V.bad :: V.own 1 byl s.2 :: vI s.1 :: V.bad :: V.bad :: V.bad :: V.bad :: V.bad :: V.bad :: V.bad :: V.bad :: V.bad :: V.bad :: V.bad :: V.bad :: V.bad :: V.bad :: V.bad :: V.bad :: V.bad :: V.bad :: V.bad :: []))
    (fun s => [.fam 0, .fam s.2.length])
    (fun s => some (V.tup [.own 0 byl R.1, vI (R.2 : Nat)])) ?_ F (0, []) ⟨Nat.zero_le _, Nat.le_refl _, hR⟩ (by show b.length - 0 < F; omega)
  rintro ⟨i, o⟩ K ⟨k1, k2, k3⟩ hK
  simp only at k1 k2 k3 hK ⊢
  conv => lhs; whnf
  try simp (maxSteps := 2000000) (disch := omega) only [nI64, nU64, nU32, nU8, nSubL, nAddL, nAdd, nSub, nDiv, nMod, nZ, nLit, row_3, row_4, row_5, row_16, row_22, row_85, Ty.den, dflt_it, dflt_li, dflt_kv, Int.toNat_natCast, List.take_length, List.drop_zero]
  repeat (refine br_go ?_ ?_; (focus (((repeat' first | exact rfl | exact ordB_st rfl | exact ordB_of rfl | apply band | apply tst_t | apply nt_t)  <;> (try dsimp only [Ty.den, dflt_kv]) <;> (try simp only [List.length_append, List.length_cons, List.length_nil, List.length_take, List.length_drop, List.length_replicate]) <;> (first | trivial | assumption | omega | (change (_ : Int) ≤ _; omega) | (change (_ : Int) < _; omega) | (change (_ : Nat) * 1 ≤ _; omega) | (change (_ : Nat) * 48 ≤ _; omega) | (change (_ : Nat) * 24 ≤ _; omega) | (change (_ : Nat) * 8 ≤ _; omega) | (change (_ : Nat) * 64 ≤ _; omega) | decide)); done)); (conv => lhs; whnf); (try simp (maxSteps := 2000000) (disch := omega) only [nI64, nU64, nU32, nU8, nSubL, nAddL, nAdd, nSub, nDiv, nMod, nZ, nLit, row_3, row_4, row_5, row_16, row_22, row_85, Ty.den, dflt_it, dflt_li, dflt_kv, Int.toNat_natCast, List.take_length, List.drop_zero]))
  cases hx : (recS b i false []).2.2 with
  | false =>
    rw [readS_no' hx, List.append_nil] at k3
    try simp (maxSteps := 2000000) (disch := omega) only [nI64, nU64, nU32, nU8, nSubL, nAddL, nAdd, nSub, nDiv, nMod, nZ, nLit, row_3, row_4, row_5, row_16, row_22, row_85, Ty.den, dflt_it, dflt_li, dflt_kv, Int.toNat_natCast, List.take_length, List.drop_zero, hx]
    conv => lhs; whnf
    try simp (maxSteps := 2000000) (disch := omega) only [nI64, nU64, nU32, nU8, nSubL, nAddL, nAdd, nSub, nDiv, nMod, nZ, nLit, row_3, row_4, row_5, row_16, row_22, row_85, Ty.den, dflt_it, dflt_li, dflt_kv, Int.toNat_natCast, List.take_length, List.drop_zero]
    repeat (refine br_go ?_ ?_; (focus (((repeat' first | exact rfl | exact ordB_st rfl | exact ordB_of rfl | apply band | apply tst_t | apply nt_t)  <;> (try dsimp only [Ty.den, dflt_kv]) <;> (try simp only [List.length_append, List.length_cons, List.length_nil, List.length_take, List.length_drop, List.length_replicate]) <;> (first | trivial | assumption | omega | (change (_ : Int) ≤ _; omega) | (change (_ : Int) < _; omega) | (change (_ : Nat) * 1 ≤ _; omega) | (change (_ : Nat) * 48 ≤ _; omega) | (change (_ : Nat) * 24 ≤ _; omega) | (change (_ : Nat) * 8 ≤ _; omega) | (change (_ : Nat) * 64 ≤ _; omega) | decide)); done)); (conv => lhs; whnf); (try simp (maxSteps := 2000000) (disch := omega) only [nI64, nU64, nU32, nU8, nSubL, nAddL, nAdd, nSub, nDiv, nMod, nZ, nLit, row_3, row_4, row_5, row_16, row_22, row_85, Ty.den, dflt_it, dflt_li, dflt_kv, Int.toNat_natCast, List.take_length, List.drop_zero]))
    rw [← k3]
  | true =>
    rw [readS_yes' hx] at k3
    have he := recS_end b _ i false [] (Nat.le_refl _) hx
    try simp (maxSteps := 2000000) (disch := omega) only [nI64, nU64, nU32, nU8, nSubL, nAddL, nAdd, nSub, nDiv, nMod, nZ, nLit, row_3, row_4, row_5, row_16, row_22, row_85, Ty.den, dflt_it, dflt_li, dflt_kv, Int.toNat_natCast, List.take_length, List.drop_zero, hx]
    conv => lhs; whnf
    try simp (maxSteps := 2000000) (disch := omega) only [nI64, nU64, nU32, nU8, nSubL, nAddL, nAdd, nSub, nDiv, nMod, nZ, nLit, row_3, row_4, row_5, row_16, row_22, row_85, Ty.den, dflt_it, dflt_li, dflt_kv, Int.toNat_natCast, List.take_length, List.drop_zero]
    repeat (refine br_go ?_ ?_; (focus (((repeat' first | exact rfl | exact ordB_st rfl | exact ordB_of rfl | apply band | apply tst_t | apply nt_t)  <;> (try dsimp only [Ty.den, dflt_kv]) <;> (try simp only [List.length_append, List.length_cons, List.length_nil, List.length_take, List.length_drop, List.length_replicate]) <;> (first | trivial | assumption | omega | (change (_ : Int) ≤ _; omega) | (change (_ : Int) < _; omega) | (change (_ : Nat) * 1 ≤ _; omega) | (change (_ : Nat) * 48 ≤ _; omega) | (change (_ : Nat) * 24 ≤ _; omega) | (change (_ : Nat) * 8 ≤ _; omega) | (change (_ : Nat) * 64 ≤ _; omega) | decide)); done)); (conv => lhs; whnf); (try simp (maxSteps := 2000000) (disch := omega) only [nI64, nU64, nU32, nU8, nSubL, nAddL, nAdd, nSub, nDiv, nMod, nZ, nLit, row_3, row_4, row_5, row_16, row_22, row_85, Ty.den, dflt_it, dflt_li, dflt_kv, Int.toNat_natCast, List.take_length, List.drop_zero]))
    exact hK ((recS b i false []).2.1, o ++ [(recS b i false []).1]) ⟨he.2, by show (o ++ [_]).length ≤ _; rw [List.length_append]; simp; omega, by rw [← k3, List.append_assoc]; rfl⟩ (by show b.length - _ < b.length - i; omega)
end Go.Proofs.YtbcfagackcnpkaaDoor.Ev
/- Logs: how long a record is, laid down. -/
namespace Go.Proofs.YtbcfagackcnpkaaDoor.Ev
open Go Go.RowKit
set_option linter.unusedVariables false
set_option linter.unusedSimpArgs false
set_option maxRecDepth 100000
set_option maxHeartbeats 8000000
theorem appA_ge (a : Nat) (b : Bool) (l : List Int) : l.length + 7 ≤ (appA a b l).length := by
  induction a, b, l using appA_ind with
  | h1 a b l h ih => rw [appA_pad b l h, List.length_append]; omega
  | h2 a b l h h2 => rw [appA_end b h h2, fragS_len]; omega
  | h3 a b l h h2 ih => rw [appA_go b h h2, List.length_append, fragS_len, List.length_take]; rw [List.length_drop] at ih; omega
theorem appA_room (a : Nat) (b : Bool) (l : List Int) : (appA a b l).length ≤ l.length + 7 * ((a % 64 + (appA a b l).length + 63) / 64) + (if room a < 7 then 6 else 0) := by
  induction a, b, l using appA_ind with
  | h1 a b l h ih =>
    rw [appA_pad b l h, List.length_append, List.length_replicate, if_pos h]
    rw [room_next', if_neg (by decide)] at ih
    have : (a + room a) % 64 = 0 := by unfold room; omega
    rw [this] at ih
    omega
  | h2 a b l h h2 => rw [appA_end b h h2, fragS_len, if_neg h]; omega
  | h3 a b l h h2 ih =>
    rw [appA_go b h h2, List.length_append, fragS_len, List.length_take, if_neg h]
    rw [room_next', if_neg (by decide), List.length_drop] at ih
    have h0 : (a + room a) % 64 = 0 := by unfold room; omega
    have h1 : a % 64 + room a = 64 := by unfold room; omega
    rw [h0] at ih
    omega
def lenS (a n : Int) : Nat := if n < 0 ∨ 4194304 < n then 0 else (appA (max a 0 % 64).toNat true (List.replicate n.toNat 0)).length
noncomputable def lenSp : Sp := ⟨[i64, i64], fun _ => true, fun x => vI (lenS x.1 x.2.1 : Nat)⟩
abbrev lenC : Ctx := ⟨rows, (fun  | _ => ([], []))⟩
theorem wlen_ok (T : Tab) (h1 : T 19 = apSp.ent) : lenSp.Ok T lenC F22 := by
  rw [on_top h1]
  rintro ⟨(a : Int), (n : Int), _⟩ hf _
  obtain ⟨F, hF⟩ : ∃ F : Nat, F = 5 := ⟨_, rfl⟩
  refine ⟨F, 0, ?_⟩
  show evFn _ _ _ _ _ [vI a, vI n] [] _ = some (vI (lenS a n : Nat) : V)
  conv => lhs; whnf
  try simp (maxSteps := 2000000) (disch := omega) only [nI64, nU64, nU32, nU8, nSubL, nAddL, nAdd, nSub, nDiv, nMod, nZ, nLit, row_3, row_4, row_5, row_16, row_22, row_85, Ty.den, dflt_it, dflt_li, dflt_kv, Int.toNat_natCast, List.take_length, List.drop_zero]
  unfold lenS
  by_cases g1 : n < 0
  · rw [if_pos (.inl g1)]
    refine br_go (tst_t (g1)) ?_
    conv => lhs; whnf
    try simp (maxSteps := 2000000) (disch := omega) only [nI64, nU64, nU32, nU8, nSubL, nAddL, nAdd, nSub, nDiv, nMod, nZ, nLit, row_3, row_4, row_5, row_16, row_22, row_85, Ty.den, dflt_it, dflt_li, dflt_kv, Int.toNat_natCast, List.take_length, List.drop_zero]
    repeat (refine br_go ?_ ?_; (focus (((repeat' first | exact rfl | exact ordB_st rfl | exact ordB_of rfl | apply band | apply tst_t | apply nt_t)  <;> (try dsimp only [Ty.den, dflt_kv]) <;> (try simp only [List.length_append, List.length_cons, List.length_nil, List.length_take, List.length_drop, List.length_replicate]) <;> (first | trivial | assumption | omega | (change (_ : Int) ≤ _; omega) | (change (_ : Int) < _; omega) | (change (_ : Nat) * 1 ≤ _; omega) | (change (_ : Nat) * 48 ≤ _; omega) | (change (_ : Nat) * 24 ≤ _; omega) | (change (_ : Nat) * 8 ≤ _; omega) | (change (_ : Nat) * 64 ≤ _; omega) | decide)); done)); (conv => lhs; whnf); (try simp (maxSteps := 2000000) (disch := omega) only [nI64, nU64, nU32, nU8, nSubL, nAddL, nAdd, nSub, nDiv, nMod, nZ, nLit, row_3, row_4, row_5, row_16, row_22, row_85, Ty.den, dflt_it, dflt_li, dflt_kv, Int.toNat_natCast, List.take_length, List.drop_zero]))
    rfl
  · refine br_no (tst_f (g1)) ?_
    conv => lhs; whnf
    try simp (maxSteps := 2000000) (disch := omega) only [nI64, nU64, nU32, nU8, nSubL, nAddL, nAdd, nSub, nDiv, nMod, nZ, nLit, row_3, row_4, row_5, row_16, row_22, row_85, Ty.den, dflt_it, dflt_li, dflt_kv, Int.toNat_natCast, List.take_length, List.drop_zero]
    by_cases g2 : n > 4194304
    · rw [if_pos (.inr g2)]
      refine br_go (tst_t (g2)) ?_
      conv => lhs; whnf
      try simp (maxSteps := 2000000) (disch := omega) only [nI64, nU64, nU32, nU8, nSubL, nAddL, nAdd, nSub, nDiv, nMod, nZ, nLit, row_3, row_4, row_5, row_16, row_22, row_85, Ty.den, dflt_it, dflt_li, dflt_kv, Int.toNat_natCast, List.take_length, List.drop_zero]
      repeat (refine br_go ?_ ?_; (focus (((repeat' first | exact rfl | exact ordB_st rfl | exact ordB_of rfl | apply band | apply tst_t | apply nt_t)  <;> (try dsimp only [Ty.den, dflt_kv]) <;> (try simp only [List.length_append, List.length_cons, List.length_nil, List.length_take, List.length_drop, List.length_replicate]) <;> (first | trivial | assumption | omega | (change (_ : Int) ≤ _; omega) | (change (_ : Int) < _; omega) | (change (_ : Nat) * 1 ≤ _; omega) | (change (_ : Nat) * 48 ≤ _; omega) | (change (_ : Nat) * 24 ≤ _; omega) | (change (_ : Nat) * 8 ≤ _; omega) | (change (_ : Nat) * 64 ≤ _; omega) | decide)); done)); (conv => lhs; whnf); (try simp (maxSteps := 2000000) (disch := omega) only [nI64, nU64, nU32, nU8, nSubL, nAddL, nAdd, nSub, nDiv, nMod, nZ, nLit, row_3, row_4, row_5, row_16, row_22, row_85, Ty.den, dflt_it, dflt_li, dflt_kv, Int.toNat_natCast, List.take_length, List.drop_zero]))
      rfl
    · rw [if_neg (by omega)]
      refine br_no (tst_f (g2)) ?_
      conv => lhs; whnf
      try simp (maxSteps := 2000000) (disch := omega) only [nI64, nU64, nU32, nU8, nSubL, nAddL, nAdd, nSub, nDiv, nMod, nZ, nLit, row_3, row_4, row_5, row_16, row_22, row_85, Ty.den, dflt_it, dflt_li, dflt_kv, Int.toNat_natCast, List.take_length, List.drop_zero]
      obtain ⟨m, rfl⟩ : ∃ m : Nat, n = m := ⟨n.toNat, by omega⟩
      have e1 : apS a (List.replicate m 0) 50 = (appA (max a 0 % 64).toNat true (List.replicate m 0), 0) := by
        unfold apS; rw [if_neg (by rw [List.length_replicate]; omega)]
      repeat (refine br_go ?_ ?_; (focus (((repeat' first | exact rfl | exact ordB_st rfl | exact ordB_of rfl | apply band | apply tst_t | apply nt_t)  <;> (try dsimp only [Ty.den, dflt_kv]) <;> (try simp only [List.length_append, List.length_cons, List.length_nil, List.length_take, List.length_drop, List.length_replicate]) <;> (first | trivial | assumption | omega | (change (_ : Int) ≤ _; omega) | (change (_ : Int) < _; omega) | (change (_ : Nat) * 1 ≤ _; omega) | (change (_ : Nat) * 48 ≤ _; omega) | (change (_ : Nat) * 24 ≤ _; omega) | (change (_ : Nat) * 8 ≤ _; omega) | (change (_ : Nat) * 64 ≤ _; omega) | decide)); done)); (conv => lhs; whnf); (try simp (maxSteps := 2000000) (disch := omega) only [nI64, nU64, nU32, nU8, nSubL, nAddL, nAdd, nSub, nDiv, nMod, nZ, nLit, row_3, row_4, row_5, row_16, row_22, row_85, Ty.den, dflt_it, dflt_li, dflt_kv, Int.toNat_natCast, List.take_length, List.drop_zero]))
      rw [List.take_of_length_le (by simp), e1]
end Go.Proofs.YtbcfagackcnpkaaDoor.Ev
/- The law's known answer holds: run on given data. -/
namespace Go.Proofs.YtbcfagackcnpkaaDoor.Ev
open Go Go.RowKit
set_option linter.unusedVariables false
set_option maxRecDepth 100000
set_option maxHeartbeats 8000000
theorem farRes_one (a b : Tst) {P : Program} {g : FuncId} {xs : List V} {v : V} (h : FarRes (tI := a) P g xs v) : FarRes (tI := b) P g xs v := by rw [Tst.one b a]; exact h
theorem tabFar_one (a b : Tst) {P : Program} {T : Tab} (h : TabFar (tI := a) P T) : TabFar (tI := b) P T := by rw [Tst.one b a]; exact h
theorem known_ev : evFn (tI := fastT) (ctxOf 10) (autoTab (tI := fastT) tab0 20 7) (inlH (tI := fastT) ctxOf (autoTab (tI := fastT) tab0 20 7) 20 fnOf 7) 20 F10 [] [] (fun v S => exportV (tI := fastT) S v) = some (.d .bo true) := by kernel_rfl
theorem auto_ok : TabOK Tryd.prog (autoTab (tI := fastT) tab0 20 7) := tabFar_ok (tI := fastT) (autoTab_far (tI := fastT) (tabFar_one slowT fastT tab0_far) 20 7)
theorem known_far : FarRes Tryd.prog 10 [] (.d .bo true) :=
  farRes_one fastT slowT (far_fn (tI := fastT) (rows_ok _) auto_ok (inl_ok (tI := fastT) (fun _ => rows_ok _) auto_ok mixed fnsOK 7) mixed 20 at10 known_ev)
def knownSp : Sp := ⟨[], fun _ => true, fun _ => .d .bo true⟩
end Go.Proofs.YtbcfagackcnpkaaDoor.Ev
/- Lists of bytes: held against one another, and bounded, by the laws' helps. -/
namespace Go.Proofs.YtbcfagackcnpkaaDoor.Ev
open Go Go.RowKit
set_option linter.unusedVariables false
set_option linter.unusedSimpArgs false
set_option maxRecDepth 100000
set_option maxHeartbeats 8000000
noncomputable def listsSp : Sp := ⟨[.li byl, .li byl], fun _ => true, fun x => vT ((x.1 : List (List Int)) = x.2.1)⟩
abbrev listsC : Ctx := ⟨rows, (fun | 0 => ([0, 1, 5], []) | 1 => ([], [0, 1, 5]) | _ => ([], []))⟩
theorem lists_ok (T : Tab) : listsSp.Ok T listsC F13 := by
  rintro ⟨(a : List (List Int)), (b : List (List Int)), _⟩ hf _
  have hla : a.length ≤ 140737488355328 := hf.1.1
  have hlb : b.length ≤ 140737488355328 := hf.2.1.1
  obtain ⟨F, hF⟩ : ∃ F : Nat, F = a.length + 5 := ⟨_, rfl⟩
  refine ⟨F, 0, ?_⟩
  show evFn _ _ _ _ _ [.d (.li byl) a, .d (.li byl) b] [] _ = some (vT (a = b) : V)
  conv => lhs; whnf
  try simp (maxSteps := 2000000) (disch := omega) only [nI64, nU64, nU32, nU8, nSubL, nAddL, nAdd, nSub, nDiv, nMod, nZ, nLit, row_3, row_4, row_5, row_16, row_22, row_85, Ty.den, dflt_it, dflt_li, dflt_kv, Int.toNat_natCast, List.take_length, List.drop_zero]
  by_cases h0 : a.length = b.length
  · refine br_no (tst_f (by omega)) ?_
    conv => lhs; whnf
    try simp (maxSteps := 2000000) (disch := omega) only [nI64, nU64, nU32, nU8, nSubL, nAddL, nAdd, nSub, nDiv, nMod, nZ, nLit, row_3, row_4, row_5, row_16, row_22, row_85, Ty.den, dflt_it, dflt_li, dflt_kv, Int.toNat_natCast, List.take_length, List.drop_zero]
    repeat (refine br_go ?_ ?_; (focus (((repeat' first | exact rfl | exact ordB_st rfl | exact ordB_of rfl | apply band | apply tst_t | apply nt_t)  <;> (try dsimp only [Ty.den, dflt_kv]) <;> (try simp only [List.length_append, List.length_cons, List.length_nil, List.length_take, List.length_drop, List.length_replicate]) <;> (first | trivial | assumption | omega | (change (_ : Int) ≤ _; omega) | (change (_ : Int) < _; omega) | (change (_ : Nat) * 1 ≤ _; omega) | (change (_ : Nat) * 48 ≤ _; omega) | (change (_ : Nat) * 24 ≤ _; omega) | (change (_ : Nat) * 8 ≤ _; omega) | (change (_ : Nat) * 64 ≤ _; omega) | decide)); done)); (conv => lhs; whnf); (try simp (maxSteps := 2000000) (disch := omega) only [nI64, nU64, nU32, nU8, nSubL, nAddL, nAdd, nSub, nDiv, nMod, nZ, nLit, row_3, row_4, row_5, row_16, row_22, row_85, Ty.den, dflt_it, dflt_li, dflt_kv, Int.toNat_natCast, List.take_length, List.drop_zero]))
    refine loop_rule (α := Nat) (fun i => i ≤ a.length ∧ a.take i = b.take i) (fun i => a.length - i)
      (fun i => (V.d (.li byl) a :: V.d (.li byl) b :: V.bad :: V.bad :: V.bad :: vI i :: V.bad :: V.bad :: V.bad :: V.bad :: V.bad :: V.bad :: V.bad :: V.bad :: V.bad :: V.bad :: V.bad :: V.bad :: V.bad :: V.bad :: V.bad :: V.bad :: V.bad :: V.bad :: V.bad :: V.bad :: V.bad :: V.bad :: []))
      (fun i => [.gone, .gone]) (fun i => some (vT (a = b))) ?_ F 0 ⟨Nat.zero_le _, rfl⟩ (by show a.length - 0 < F; omega)
    rintro i K ⟨k1, k2⟩ hK
    conv => lhs; whnf
    try simp (maxSteps := 2000000) (disch := omega) only [nI64, nU64, nU32, nU8, nSubL, nAddL, nAdd, nSub, nDiv, nMod, nZ, nLit, row_3, row_4, row_5, row_16, row_22, row_85, Ty.den, dflt_it, dflt_li, dflt_kv, Int.toNat_natCast, List.take_length, List.drop_zero]
    by_cases hi : i < a.length
    · refine br_go (tst_t (by omega)) ?_
      conv => lhs; whnf
      try simp (maxSteps := 2000000) (disch := omega) only [nI64, nU64, nU32, nU8, nSubL, nAddL, nAdd, nSub, nDiv, nMod, nZ, nLit, row_3, row_4, row_5, row_16, row_22, row_85, Ty.den, dflt_it, dflt_li, dflt_kv, Int.toNat_natCast, List.take_length, List.drop_zero]
      repeat (refine br_go ?_ ?_; (focus (((repeat' first | exact rfl | exact ordB_st rfl | exact ordB_of rfl | apply band | apply tst_t | apply nt_t)  <;> (try dsimp only [Ty.den, dflt_kv]) <;> (try simp only [List.length_append, List.length_cons, List.length_nil, List.length_take, List.length_drop, List.length_replicate]) <;> (first | trivial | assumption | omega | (change (_ : Int) ≤ _; omega) | (change (_ : Int) < _; omega) | (change (_ : Nat) * 1 ≤ _; omega) | (change (_ : Nat) * 48 ≤ _; omega) | (change (_ : Nat) * 24 ≤ _; omega) | (change (_ : Nat) * 8 ≤ _; omega) | (change (_ : Nat) * 64 ≤ _; omega) | decide)); done)); (conv => lhs; whnf); (try simp (maxSteps := 2000000) (disch := omega) only [nI64, nU64, nU32, nU8, nSubL, nAddL, nAdd, nSub, nDiv, nMod, nZ, nLit, row_3, row_4, row_5, row_16, row_22, row_85, Ty.den, dflt_it, dflt_li, dflt_kv, Int.toNat_natCast, List.take_length, List.drop_zero]))
      by_cases hq : a.getD i [] = b.getD i []
      · refine br_no (tst_f ((fun h => h hq))) ?_
        conv => lhs; whnf
        try simp (maxSteps := 2000000) (disch := omega) only [nI64, nU64, nU32, nU8, nSubL, nAddL, nAdd, nSub, nDiv, nMod, nZ, nLit, row_3, row_4, row_5, row_16, row_22, row_85, Ty.den, dflt_it, dflt_li, dflt_kv, Int.toNat_natCast, List.take_length, List.drop_zero]
        repeat (refine br_go ?_ ?_; (focus (((repeat' first | exact rfl | exact ordB_st rfl | exact ordB_of rfl | apply band | apply tst_t | apply nt_t)  <;> (try dsimp only [Ty.den, dflt_kv]) <;> (try simp only [List.length_append, List.length_cons, List.length_nil, List.length_take, List.length_drop, List.length_replicate]) <;> (first | trivial | assumption | omega | (change (_ : Int) ≤ _; omega) | (change (_ : Int) < _; omega) | (change (_ : Nat) * 1 ≤ _; omega) | (change (_ : Nat) * 48 ≤ _; omega) | (change (_ : Nat) * 24 ≤ _; omega) | (change (_ : Nat) * 8 ≤ _; omega) | (change (_ : Nat) * 64 ≤ _; omega) | decide)); done)); (conv => lhs; whnf); (try simp (maxSteps := 2000000) (disch := omega) only [nI64, nU64, nU32, nU8, nSubL, nAddL, nAdd, nSub, nDiv, nMod, nZ, nLit, row_3, row_4, row_5, row_16, row_22, row_85, Ty.den, dflt_it, dflt_li, dflt_kv, Int.toNat_natCast, List.take_length, List.drop_zero]))
        exact hK (i + 1) ⟨by omega, by rw [take_at (d := ([] : List Int)) hi, take_at (d := ([] : List Int)) (show i < b.length by omega), k2, hq]⟩ (by omega)
      · refine br_go (tst_t (hq)) ?_
        conv => lhs; whnf
        try simp (maxSteps := 2000000) (disch := omega) only [nI64, nU64, nU32, nU8, nSubL, nAddL, nAdd, nSub, nDiv, nMod, nZ, nLit, row_3, row_4, row_5, row_16, row_22, row_85, Ty.den, dflt_it, dflt_li, dflt_kv, Int.toNat_natCast, List.take_length, List.drop_zero]
        repeat (refine br_go ?_ ?_; (focus (((repeat' first | exact rfl | exact ordB_st rfl | exact ordB_of rfl | apply band | apply tst_t | apply nt_t)  <;> (try dsimp only [Ty.den, dflt_kv]) <;> (try simp only [List.length_append, List.length_cons, List.length_nil, List.length_take, List.length_drop, List.length_replicate]) <;> (first | trivial | assumption | omega | (change (_ : Int) ≤ _; omega) | (change (_ : Int) < _; omega) | (change (_ : Nat) * 1 ≤ _; omega) | (change (_ : Nat) * 48 ≤ _; omega) | (change (_ : Nat) * 24 ≤ _; omega) | (change (_ : Nat) * 8 ≤ _; omega) | (change (_ : Nat) * 64 ≤ _; omega) | decide)); done)); (conv => lhs; whnf); (try simp (maxSteps := 2000000) (disch := omega) only [nI64, nU64, nU32, nU8, nSubL, nAddL, nAdd, nSub, nDiv, nMod, nZ, nLit, row_3, row_4, row_5, row_16, row_22, row_85, Ty.den, dflt_it, dflt_li, dflt_kv, Int.toNat_natCast, List.take_length, List.drop_zero]))
        exact bo_f (fun h => hq (by rw [h]))
    · refine br_no (tst_f (by omega)) ?_
      conv => lhs; whnf
      try simp (maxSteps := 2000000) (disch := omega) only [nI64, nU64, nU32, nU8, nSubL, nAddL, nAdd, nSub, nDiv, nMod, nZ, nLit, row_3, row_4, row_5, row_16, row_22, row_85, Ty.den, dflt_it, dflt_li, dflt_kv, Int.toNat_natCast, List.take_length, List.drop_zero]
      repeat (refine br_go ?_ ?_; (focus (((repeat' first | exact rfl | exact ordB_st rfl | exact ordB_of rfl | apply band | apply tst_t | apply nt_t)  <;> (try dsimp only [Ty.den, dflt_kv]) <;> (try simp only [List.length_append, List.length_cons, List.length_nil, List.length_take, List.length_drop, List.length_replicate]) <;> (first | trivial | assumption | omega | (change (_ : Int) ≤ _; omega) | (change (_ : Int) < _; omega) | (change (_ : Nat) * 1 ≤ _; omega) | (change (_ : Nat) * 48 ≤ _; omega) | (change (_ : Nat) * 24 ≤ _; omega) | (change (_ : Nat) * 8 ≤ _; omega) | (change (_ : Nat) * 64 ≤ _; omega) | decide)); done)); (conv => lhs; whnf); (try simp (maxSteps := 2000000) (disch := omega) only [nI64, nU64, nU32, nU8, nSubL, nAddL, nAdd, nSub, nDiv, nMod, nZ, nLit, row_3, row_4, row_5, row_16, row_22, row_85, Ty.den, dflt_it, dflt_li, dflt_kv, Int.toNat_natCast, List.take_length, List.drop_zero]))
      refine bo_t ?_
      rw [List.take_of_length_le (by omega), List.take_of_length_le (by omega)] at k2
      exact k2
  · refine br_go (tst_t (by omega)) ?_
    conv => lhs; whnf
    try simp (maxSteps := 2000000) (disch := omega) only [nI64, nU64, nU32, nU8, nSubL, nAddL, nAdd, nSub, nDiv, nMod, nZ, nLit, row_3, row_4, row_5, row_16, row_22, row_85, Ty.den, dflt_it, dflt_li, dflt_kv, Int.toNat_natCast, List.take_length, List.drop_zero]
    repeat (refine br_go ?_ ?_; (focus (((repeat' first | exact rfl | exact ordB_st rfl | exact ordB_of rfl | apply band | apply tst_t | apply nt_t)  <;> (try dsimp only [Ty.den, dflt_kv]) <;> (try simp only [List.length_append, List.length_cons, List.length_nil, List.length_take, List.length_drop, List.length_replicate]) <;> (first | trivial | assumption | omega | (change (_ : Int) ≤ _; omega) | (change (_ : Int) < _; omega) | (change (_ : Nat) * 1 ≤ _; omega) | (change (_ : Nat) * 48 ≤ _; omega) | (change (_ : Nat) * 24 ≤ _; omega) | (change (_ : Nat) * 8 ≤ _; omega) | (change (_ : Nat) * 64 ≤ _; omega) | decide)); done)); (conv => lhs; whnf); (try simp (maxSteps := 2000000) (disch := omega) only [nI64, nU64, nU32, nU8, nSubL, nAddL, nAdd, nSub, nDiv, nMod, nZ, nLit, row_3, row_4, row_5, row_16, row_22, row_85, Ty.den, dflt_it, dflt_li, dflt_kv, Int.toNat_natCast, List.take_length, List.drop_zero]))
    exact bo_f (fun h => h0 (by rw [h]))
def totB : List (List Int) → Nat
  | [] => 0
  | x :: l => x.length + totB l
def few5 (l : List (List Int)) : Prop := l.length ≤ 30 ∧ totB l ≤ 3000
instance (l : List (List Int)) : Decidable (few5 l) := inferInstanceAs (Decidable (_ ∧ _))
noncomputable def few5Sp : Sp := ⟨[.li byl], fun _ => true, fun x => vT (few5 x.1)⟩
abbrev few5C : Ctx := ⟨rows, (fun | 0 => ([0, 3, 4], [0, 3]) | 1 => ([], [0, 3, 4]) | _ => ([], []))⟩
theorem few5_ok (T : Tab) : few5Sp.Ok T few5C F16 := by
  rintro ⟨(l : List (List Int)), _⟩ hf _
  have hl : l.length ≤ 140737488355328 := hf.1.1
  have hx : ∀ i, i < l.length → (l.getD i []).length ≤ 140737488355328 := fun i hi => by
    have := hf.1.2 (l.getD i []) (by rw [getD_at hi]; exact List.getElem_mem hi)
    exact (fits_by.1 this).1
  obtain ⟨F, hF⟩ : ∃ F : Nat, F = l.length + 5 := ⟨_, rfl⟩
  refine ⟨F, 0, ?_⟩
  show evFn _ _ _ _ _ [.d (.li byl) l] [] _ = some (vT (few5 l) : V)
  conv => lhs; whnf
  try simp (maxSteps := 2000000) (disch := omega) only [nI64, nU64, nU32, nU8, nSubL, nAddL, nAdd, nSub, nDiv, nMod, nZ, nLit, row_3, row_4, row_5, row_16, row_22, row_85, Ty.den, dflt_it, dflt_li, dflt_kv, Int.toNat_natCast, List.take_length, List.drop_zero]
  refine loop_rule (α := Nat × Nat) (fun a => a.1 ≤ l.length ∧ a.2 + totB (l.drop a.1) = totB l ∧ a.2 ≤ 140737488365000) (fun a => l.length - a.1)
    (fun a => (V.d (.li byl) l :: V.bad :: V.bad :: vI a.2 :: vI a.1 :: V.bad :: V.bad :: V.bad :: V.bad :: V.bad :: V.bad :: V.bad :: V.bad :: V.bad :: V.bad :: V.bad :: V.bad :: V.bad :: V.bad :: V.bad :: V.bad :: V.bad :: V.bad :: V.bad :: V.bad :: V.bad :: V.bad :: V.bad :: V.bad :: []))
    (fun a => []) (fun a => some (vT (few5 l))) ?_ F (0, 0) ⟨Nat.zero_le _, by rw [Nat.zero_add]; rfl, by omega⟩ (by show l.length - 0 < F; omega)
  rintro ⟨i, n⟩ K ⟨k1, k2, k3⟩ hK
  simp only at k1 k2 k3 hK ⊢
  conv => lhs; whnf
  try simp (maxSteps := 2000000) (disch := omega) only [nI64, nU64, nU32, nU8, nSubL, nAddL, nAdd, nSub, nDiv, nMod, nZ, nLit, row_3, row_4, row_5, row_16, row_22, row_85, Ty.den, dflt_it, dflt_li, dflt_kv, Int.toNat_natCast, List.take_length, List.drop_zero]
  by_cases hi : i < l.length
  · refine br_go (tst_t (by omega)) ?_
    conv => lhs; whnf
    try simp (maxSteps := 2000000) (disch := omega) only [nI64, nU64, nU32, nU8, nSubL, nAddL, nAdd, nSub, nDiv, nMod, nZ, nLit, row_3, row_4, row_5, row_16, row_22, row_85, Ty.den, dflt_it, dflt_li, dflt_kv, Int.toNat_natCast, List.take_length, List.drop_zero]
    have hd := drop_at (d := ([] : List Int)) hi
    rw [hd, totB] at k2
    have hxi := hx i hi
    by_cases hn : n ≤ 3000
    · refine br_go (tst_t (by omega)) ?_
      conv => lhs; whnf
      try simp (maxSteps := 2000000) (disch := omega) only [nI64, nU64, nU32, nU8, nSubL, nAddL, nAdd, nSub, nDiv, nMod, nZ, nLit, row_3, row_4, row_5, row_16, row_22, row_85, Ty.den, dflt_it, dflt_li, dflt_kv, Int.toNat_natCast, List.take_length, List.drop_zero]
      repeat (refine br_go ?_ ?_; (focus (((repeat' first | exact rfl | exact ordB_st rfl | exact ordB_of rfl | apply band | apply tst_t | apply nt_t)  <;> (try dsimp only [Ty.den, dflt_kv]) <;> (try simp only [List.length_append, List.length_cons, List.length_nil, List.length_take, List.length_drop, List.length_replicate]) <;> (first | trivial | assumption | omega | (change (_ : Int) ≤ _; omega) | (change (_ : Int) < _; omega) | (change (_ : Nat) * 1 ≤ _; omega) | (change (_ : Nat) * 48 ≤ _; omega) | (change (_ : Nat) * 24 ≤ _; omega) | (change (_ : Nat) * 8 ≤ _; omega) | (change (_ : Nat) * 64 ≤ _; omega) | decide)); done)); (conv => lhs; whnf); (try simp (maxSteps := 2000000) (disch := omega) only [nI64, nU64, nU32, nU8, nSubL, nAddL, nAdd, nSub, nDiv, nMod, nZ, nLit, row_3, row_4, row_5, row_16, row_22, row_85, Ty.den, dflt_it, dflt_li, dflt_kv, Int.toNat_natCast, List.take_length, List.drop_zero]))
      exact hK (i + 1, n + (l.getD i []).length) ⟨by show i + 1 ≤ l.length; omega, by show n + (l.getD i []).length + totB (l.drop (i + 1)) = totB l; omega, by show n + (l.getD i []).length ≤ 140737488365000; omega⟩ (by show l.length - (i + 1) < l.length - i; omega)
    · refine br_no (tst_f (by omega)) ?_
      conv => lhs; whnf
      try simp (maxSteps := 2000000) (disch := omega) only [nI64, nU64, nU32, nU8, nSubL, nAddL, nAdd, nSub, nDiv, nMod, nZ, nLit, row_3, row_4, row_5, row_16, row_22, row_85, Ty.den, dflt_it, dflt_li, dflt_kv, Int.toNat_natCast, List.take_length, List.drop_zero]
      repeat (refine br_go ?_ ?_; (focus (((repeat' first | exact rfl | exact ordB_st rfl | exact ordB_of rfl | apply band | apply tst_t | apply nt_t)  <;> (try dsimp only [Ty.den, dflt_kv]) <;> (try simp only [List.length_append, List.length_cons, List.length_nil, List.length_take, List.length_drop, List.length_replicate]) <;> (first | trivial | assumption | omega | (change (_ : Int) ≤ _; omega) | (change (_ : Int) < _; omega) | (change (_ : Nat) * 1 ≤ _; omega) | (change (_ : Nat) * 48 ≤ _; omega) | (change (_ : Nat) * 24 ≤ _; omega) | (change (_ : Nat) * 8 ≤ _; omega) | (change (_ : Nat) * 64 ≤ _; omega) | decide)); done)); (conv => lhs; whnf); (try simp (maxSteps := 2000000) (disch := omega) only [nI64, nU64, nU32, nU8, nSubL, nAddL, nAdd, nSub, nDiv, nMod, nZ, nLit, row_3, row_4, row_5, row_16, row_22, row_85, Ty.den, dflt_it, dflt_li, dflt_kv, Int.toNat_natCast, List.take_length, List.drop_zero]))
      have hs : ¬ few5 l := fun h => by have := h.2; omega
      by_cases h6 : (l.length : Int) ≤ 30
      · refine br_go (tst_t (h6)) ?_
        conv => lhs; whnf
        try simp (maxSteps := 2000000) (disch := omega) only [nI64, nU64, nU32, nU8, nSubL, nAddL, nAdd, nSub, nDiv, nMod, nZ, nLit, row_3, row_4, row_5, row_16, row_22, row_85, Ty.den, dflt_it, dflt_li, dflt_kv, Int.toNat_natCast, List.take_length, List.drop_zero]
        repeat (refine br_go ?_ ?_; (focus (((repeat' first | exact rfl | exact ordB_st rfl | exact ordB_of rfl | apply band | apply tst_t | apply nt_t)  <;> (try dsimp only [Ty.den, dflt_kv]) <;> (try simp only [List.length_append, List.length_cons, List.length_nil, List.length_take, List.length_drop, List.length_replicate]) <;> (first | trivial | assumption | omega | (change (_ : Int) ≤ _; omega) | (change (_ : Int) < _; omega) | (change (_ : Nat) * 1 ≤ _; omega) | (change (_ : Nat) * 48 ≤ _; omega) | (change (_ : Nat) * 24 ≤ _; omega) | (change (_ : Nat) * 8 ≤ _; omega) | (change (_ : Nat) * 64 ≤ _; omega) | decide)); done)); (conv => lhs; whnf); (try simp (maxSteps := 2000000) (disch := omega) only [nI64, nU64, nU32, nU8, nSubL, nAddL, nAdd, nSub, nDiv, nMod, nZ, nLit, row_3, row_4, row_5, row_16, row_22, row_85, Ty.den, dflt_it, dflt_li, dflt_kv, Int.toNat_natCast, List.take_length, List.drop_zero]))
        exact bo_tst ⟨fun h => by omega, fun h => absurd h hs⟩
      · refine br_no (tst_f (h6)) ?_
        conv => lhs; whnf
        try simp (maxSteps := 2000000) (disch := omega) only [nI64, nU64, nU32, nU8, nSubL, nAddL, nAdd, nSub, nDiv, nMod, nZ, nLit, row_3, row_4, row_5, row_16, row_22, row_85, Ty.den, dflt_it, dflt_li, dflt_kv, Int.toNat_natCast, List.take_length, List.drop_zero]
        repeat (refine br_go ?_ ?_; (focus (((repeat' first | exact rfl | exact ordB_st rfl | exact ordB_of rfl | apply band | apply tst_t | apply nt_t)  <;> (try dsimp only [Ty.den, dflt_kv]) <;> (try simp only [List.length_append, List.length_cons, List.length_nil, List.length_take, List.length_drop, List.length_replicate]) <;> (first | trivial | assumption | omega | (change (_ : Int) ≤ _; omega) | (change (_ : Int) < _; omega) | (change (_ : Nat) * 1 ≤ _; omega) | (change (_ : Nat) * 48 ≤ _; omega) | (change (_ : Nat) * 24 ≤ _; omega) | (change (_ : Nat) * 8 ≤ _; omega) | (change (_ : Nat) * 64 ≤ _; omega) | decide)); done)); (conv => lhs; whnf); (try simp (maxSteps := 2000000) (disch := omega) only [nI64, nU64, nU32, nU8, nSubL, nAddL, nAdd, nSub, nDiv, nMod, nZ, nLit, row_3, row_4, row_5, row_16, row_22, row_85, Ty.den, dflt_it, dflt_li, dflt_kv, Int.toNat_natCast, List.take_length, List.drop_zero]))
        exact bo_f hs
  · refine br_no (tst_f (by omega)) ?_
    conv => lhs; whnf
    try simp (maxSteps := 2000000) (disch := omega) only [nI64, nU64, nU32, nU8, nSubL, nAddL, nAdd, nSub, nDiv, nMod, nZ, nLit, row_3, row_4, row_5, row_16, row_22, row_85, Ty.den, dflt_it, dflt_li, dflt_kv, Int.toNat_natCast, List.take_length, List.drop_zero]
    rw [List.drop_eq_nil_of_le (by omega)] at k2
    have k2 : n = totB l := k2
    by_cases h6 : (l.length : Int) ≤ 30
    · refine br_go (tst_t (h6)) ?_
      conv => lhs; whnf
      try simp (maxSteps := 2000000) (disch := omega) only [nI64, nU64, nU32, nU8, nSubL, nAddL, nAdd, nSub, nDiv, nMod, nZ, nLit, row_3, row_4, row_5, row_16, row_22, row_85, Ty.den, dflt_it, dflt_li, dflt_kv, Int.toNat_natCast, List.take_length, List.drop_zero]
      repeat (refine br_go ?_ ?_; (focus (((repeat' first | exact rfl | exact ordB_st rfl | exact ordB_of rfl | apply band | apply tst_t | apply nt_t)  <;> (try dsimp only [Ty.den, dflt_kv]) <;> (try simp only [List.length_append, List.length_cons, List.length_nil, List.length_take, List.length_drop, List.length_replicate]) <;> (first | trivial | assumption | omega | (change (_ : Int) ≤ _; omega) | (change (_ : Int) < _; omega) | (change (_ : Nat) * 1 ≤ _; omega) | (change (_ : Nat) * 48 ≤ _; omega) | (change (_ : Nat) * 24 ≤ _; omega) | (change (_ : Nat) * 8 ≤ _; omega) | (change (_ : Nat) * 64 ≤ _; omega) | decide)); done)); (conv => lhs; whnf); (try simp (maxSteps := 2000000) (disch := omega) only [nI64, nU64, nU32, nU8, nSubL, nAddL, nAdd, nSub, nDiv, nMod, nZ, nLit, row_3, row_4, row_5, row_16, row_22, row_85, Ty.den, dflt_it, dflt_li, dflt_kv, Int.toNat_natCast, List.take_length, List.drop_zero]))
      exact bo_tst ⟨fun h => ⟨by omega, by omega⟩, fun h => by have := h.2; omega⟩
    · refine br_no (tst_f (h6)) ?_
      conv => lhs; whnf
      try simp (maxSteps := 2000000) (disch := omega) only [nI64, nU64, nU32, nU8, nSubL, nAddL, nAdd, nSub, nDiv, nMod, nZ, nLit, row_3, row_4, row_5, row_16, row_22, row_85, Ty.den, dflt_it, dflt_li, dflt_kv, Int.toNat_natCast, List.take_length, List.drop_zero]
      repeat (refine br_go ?_ ?_; (focus (((repeat' first | exact rfl | exact ordB_st rfl | exact ordB_of rfl | apply band | apply tst_t | apply nt_t)  <;> (try dsimp only [Ty.den, dflt_kv]) <;> (try simp only [List.length_append, List.length_cons, List.length_nil, List.length_take, List.length_drop, List.length_replicate]) <;> (first | trivial | assumption | omega | (change (_ : Int) ≤ _; omega) | (change (_ : Int) < _; omega) | (change (_ : Nat) * 1 ≤ _; omega) | (change (_ : Nat) * 48 ≤ _; omega) | (change (_ : Nat) * 24 ≤ _; omega) | (change (_ : Nat) * 8 ≤ _; omega) | (change (_ : Nat) * 64 ≤ _; omega) | decide)); done)); (conv => lhs; whnf); (try simp (maxSteps := 2000000) (disch := omega) only [nI64, nU64, nU32, nU8, nSubL, nAddL, nAdd, nSub, nDiv, nMod, nZ, nLit, row_3, row_4, row_5, row_16, row_22, row_85, Ty.den, dflt_it, dflt_li, dflt_kv, Int.toNat_natCast, List.take_length, List.drop_zero]))
      exact bo_f (fun h => by have := h.1; omega)
theorem few5_each {l : List (List Int)} (h : totB l ≤ 3000) : ∀ x ∈ l, x.length ≤ 3000 := by
  induction l with
  | nil => intro x hx; cases hx
  | cons y l ih =>
    rw [totB] at h
    intro x hx
    rcases List.mem_cons.1 hx with rfl | hx
    · omega
    · exact ih (by omega) x hx
end Go.Proofs.YtbcfagackcnpkaaDoor.Ev
/- Calls by contract on a row that is read alone: what is told lies apart from the row, so that the caller may write to it later. -/
namespace Go.Proofs.YtbcfagackcnpkaaDoor.Ev
open Go Go.RowKit
set_option linter.unusedVariables false
set_option linter.unusedSimpArgs false
set_option maxRecDepth 100000

/-- what a function tells of a row of bytes, its first argument, and of data -/
structure AEnt where
  ts : List Ty
  F : List Int → List V → Option (Bool × V)
abbrev ATab := FuncId → Option AEnt
def apartH {R : Type} [tI : Tst] (A : ATab) (next : CallH R) : CallH R := fun g args id S k =>
  match A g with
  | none => next g args id S k
  | some e => match args with
    | .sr o j a n _ _ :: rest => match rowOf (ent S o) with
      | some (i, ⟨s, xs⟩) => match cast? (.li s) (.li by8) xs with
        | some (xs : List Int) => match argsV e.ts rest with
          | some ys => match e.F (List.take n (List.drop a xs)) ys with
            | some (b, v) => br (tst (j = i) && tst (a + n ≤ List.length xs)) (br b (importK id S v k) none) none
            | none => none
          | none => none
        | none => none
      | none => none
    | _ => none

/-- the world of such a function: the row is known to it, and may not be told -/
def Env.rd (m : Mem) (w : World) (u : Value) : Env := ⟨m, fun _ => 0, fun _ => 1, fun _ => u, fun _ => 0, fun _ => none, fun o => o = 0, m, fun _ => False, memOf w⟩
def ARes [tI : Tst] (P : Program) (g : FuncId) (xs : List Int) (ys : List V) (v : V) : Prop :=
  ∀ (m : Mem) (w : World) (u0 : Value) (us : List Value) (R : Ending → World → Prop), m.lies w → RepL (memOf w) (.li by8) xs [u0] → RepVs (Env.of m) ys us →
    (∀ E' S' v' u w', (Env.rd m w u0).Le E' → Sim w.heap.size w E' S' w' → RepV E' v' u → exportV S' v' = some v → R (.returned u) w') →
    Calls P g (u0 :: us).toArray w R
theorem sim_rd [tI : Tst] {m : Mem} {w : World} {u : Value} {xs : List Int} (hm : m.lies w) (hx : RepL (memOf w) (.li by8) xs [u]) : Sim w.heap.size w (Env.rd m w u) [.rdo 0 by8 xs] w where
  below := below_toX (Below.refl _ _)
  base_le := Nat.le_refl _
  mem := hm
  ents o := by
    cases o with
    | zero =>
      refine ⟨rfl, rfl, rfl, rfl, ?_⟩
      obtain ⟨a, c, h1, h2, h3, h4, h5⟩ := hx
      obtain rfl : u = .slice a (List.length xs) c := by simpa using h1
      show ReadAt _ (memOf w) 0 by8 xs
      unfold ReadAt
      show (match (Value.slice a (List.length xs) c) with
        | .slice (some p) _ cap => (0 < cap → p.spot = none) ∧ List.length xs ≤ cap ∧ ∀ i (h : i < List.length xs), ∃ vs, Lies (memOf w) p.block (p.off + i * by8.size) vs ∧ RepL m by8 xs[i] vs
        | .slice none _ _ => xs = []
        | _ => False)
      cases a with
      | none => exact List.eq_nil_of_length_eq_zero h5.1
      | some ad =>
        refine ⟨h5.1, h2, fun i hi => ?_⟩
        obtain ⟨vs, k1, k2⟩ := h5.2 i hi
        exact ⟨vs, k1, k2⟩
    | succ o => simp [ent, EntOK]
  apart o o' B _ h := by cases o <;> simp [ent, owns] at h
  lt o l := by have : o = 0 := l; subst this; simp
  old _ _ _ := rfl
  rmem b j v h := by
    refine ⟨?_, fun h => h, h⟩
    exact World.block_lt_of_cell? w _ h
theorem rd_arg [tI : Tst] {m : Mem} {w : World} {u : Value} {xs : List Int} (hx : RepL (memOf w) (.li by8) xs [u]) : RepV (Env.rd m w u) (.sr 0 0 0 (List.length xs) 1 .unk) u := by
  obtain ⟨a, c, h1, h2, h3, h4, h5⟩ := hx
  obtain rfl : u = .slice a (List.length xs) c := by simpa using h1
  simp only [RepV]
  refine ⟨rfl, rfl, Nat.zero_le _, h3, a, c, rfl, h2, h4, ?_, fun _ => ?_⟩
  · cases a with
    | none => intro h; have := h5.2; omega
    | some ad => intro h; exact ⟨ad, rfl, h5.1 h⟩
  · show Win (.slice a (List.length xs) c) 0 1 .unk a (List.length xs) c
    unfold Win
    cases a with
    | none => exact ⟨rfl, h5.1, h5.2, rfl⟩
    | some ad =>
      refine ⟨ad, rfl, fun h => ?_, by omega, trivial⟩
      have := h5.1 h
      cases ad with
      | mk b o s => simp only at this; subst this; simp
theorem apart_fn [tI : Tst] {P : Program} {C : Ctx} {tab : Tab} {call : CallH V} (hC : RowsOK P C) (hT : TabOK P tab) (hcall : CallOK P call) (hm : P.follows .mixedOrders = true) (fuel : Nat) {f : FuncId} {fn : Func} (hf : P.funcs[f]? = some fn)
    {ex : V → List Ent → Option V} (hex : ∀ {v r : V} {S : List Ent}, ex v S = some r → notBad v = true ∧ ∀ (base : Nat) (w0 : World) (E : Env) (w : World) (u : Value), Sim base w0 E S w → RepV E v u → ∃ E' S' v', E.Le E' ∧ Sim base w0 E' S' w ∧ RepV E' v' u ∧ exportV S' v' = some r)
    {xs : List Int} {ys : List V} {v : V} (hy : ∀ (E E2 : Env) us, E2.m = E.m → RepVs E ys us → RepVs E2 ys us)
    {m : Mem} {w : World} {u0 : Value} {us : List Value} {R : Ending → World → Prop} (hl : m.lies w) (hx : RepL (memOf w) (.li by8) xs [u0]) (hr : RepVs (Env.of m) ys us)
    (hR : ∀ E' S' v' u w', (Env.rd m w u0).Le E' → Sim w.heap.size w E' S' w' → RepV E' v' u → exportV S' v' = some v → R (.returned u) w')
    (h : evFn C tab call fuel fn (.sr 0 0 0 (List.length xs) 1 .unk :: ys) [.rdo 0 by8 xs] ex = some v) : Calls P f (u0 :: us).toArray w R := by
  obtain ⟨v', S', h1, h2⟩ := fn_ok hC hT hcall hm fuel hf h
  obtain ⟨hnb, h4⟩ := hex h1
  have h3 := h2 hnb
  refine h3.2 w.heap.size w (Env.rd m w u0) w (u0 :: us) R (sim_rd hl hx) ?_ ?_
  · simp only [RepVs]
    exact ⟨rd_arg hx, hy (Env.of m) _ us rfl hr⟩
  · intro E' u w' k1 k0 k2 k3
    obtain ⟨E2, S2, v2, l1, l2, l3, l4⟩ := h4 _ _ E' w' u k2 k3
    exact hR E2 S2 v2 u w' (k1.trans l1) l2 l3 l4

/-- the contracts hold -/
def ATabOK [tI : Tst] (P : Program) (A : ATab) : Prop :=
  ∀ g e, A g = some e → (∃ fn, P.funcs[g]? = some fn ∧ (fn.name == "runtime.NumGoroutine") = false ∧ fn.body.isNone = false) ∧ ∀ xs vs ys v, argsV e.ts vs = some ys → e.F xs ys = some (true, v) → ARes P g xs ys v
theorem apart_ok {R : Type} [tI : Tst] {P : Program} {A : ATab} {next : CallH R} (hA : ATabOK P A) (hnext : CallOK P next) : CallOK P (apartH A next) := by
  intro g args id S k r h
  unfold apartH at h
  cases hg : A g with
  | none => rw [hg] at h; exact hnext g args id S k r h
  | some e =>
    rw [hg] at h
    simp only at h
    obtain ⟨⟨fn, hfn, hn, hbd⟩, hres⟩ := hA g e hg
    split at h
    case h_2 => simp at h
    rename_i o j a n zz cc rest
    split at h
    case h_2 => simp at h
    rename_i i s xs0 hrow
    split at h
    case h_2 => simp at h
    rename_i xs hcast
    split at h
    case h_2 => simp at h
    rename_i ys hys
    split at h
    case h_2 => simp at h
    rename_i b v hF
    cases hq : (tst (j = i) && tst (a + n ≤ List.length xs)) with
    | false => rw [hq] at h; simp [br] at h
    | true =>
    rw [hq] at h
    cases b with
    | false => simp [br] at h
    | true =>
    simp only [br] at h
    rw [Bool.and_eq_true, tst_iff, tst_iff] at hq
    obtain ⟨hji, hb⟩ := hq
    obtain rfl : s = by8 := by
      unfold cast? at hcast
      split at hcast
      · rename_i he; cases he; rfl
      · simp at hcast
    obtain rfl : xs0 = xs := by
      unfold cast? at hcast
      simpa using hcast
    have hfar := hres _ rest ys v hys hF
    have hrun : ∀ (us : List Value) (w : World), (callFunc g us.toArray).run P w = .ok (.enter g us.toArray) w := by
      intro us w
      have hn' : fn.name ≠ "runtime.NumGoroutine" := by simpa using hn
      have hb' : fn.body ≠ none := by intro e; rw [e] at hbd; simp at hbd
      simp [callFunc, hfn, hn', hb']
    unfold importK at h
    have main : ∀ (base : Nat) (w0 : World) (E : Env) (w : World) (us : List Value) (Q : Value → World → Prop), Sim base w0 E S w → RepVs E (V.sr o j a n zz cc :: rest) us →
        (∀ (E' : Env) (S' : List Ent) (v' : V) (u : Value) (w' : World), E.m.le E'.m → (∀ b, b < w.heap.size → ∀ j, E'.m b j = E.m b j) → Below w.heap.size w w' → Sim w.heap.size w E' S' w' → RepV E' v' u → exportV S' v' = some v → Q u w') → Called P g us.toArray w Q := by
      intro base w0 E w us Q sim hargs hQ
      cases us with
      | nil => simp [RepVs] at hargs
      | cons u0 us =>
      simp only [RepVs] at hargs
      obtain ⟨hu0, hrest⟩ := hargs
      unfold Called
      rw [hrun]
      refine hfar E.m w u0 us _ sim.mem (sr_memOf sim hrow hu0 hji hb) ((argsV_rep hys hrest).2 _ rfl) ?_
      intro E' S' v' u w' k1 k2 k3 k4
      refine ⟨u, rfl, hQ E' S' v' u w' k1.m (fun b hb j => by rw [k2.old b hb j, k1.m0]; rfl) (by have := k2.below; rw [k1.lent] at this; exact this.to) k2 k3 k4⟩
    split at h
    · rename_i v1 nn himp
      rw [setE_eq] at h
      refine ⟨v1, _, h, by simp, ?_⟩
      intro base w0 E w us sim hargs hid
      refine main base w0 E w us _ sim hargs ?_
      intro E' S' v' u w' k1 hold kb k2 k3 k4
      have hbel : BelowX E.lent base w w' := below_toX ⟨kb.os, kb.tape, kb.output, kb.size, fun k hk => kb.block k (Nat.lt_of_lt_of_le hk sim.base_le)⟩
      have hblk : ∀ o B, owns E o (ent S o) = some B → w'.heap[B]? = w.heap[B]? ∧ ∀ j, E'.m B j = E.m B j := fun o B hB => ⟨kb.block B (owns_lt sim hB).2, hold B (owns_lt sim hB).2⟩
      rcases import_rep (E := E) id k4 k3 with ⟨hi, _⟩ | ⟨o2, n2, ho, hi, hr⟩
      · rw [himp] at hi; simp at hi
      · rw [himp] at hi hr
        simp only [Option.some.injEq] at hi
        subst hi
        have hle : E.Le (E.imp E' id o2) := (Env.le_setM k1).trans (Env.le_add (E := E.setM E'.m) hid.1 _ _ _ _ _)
        refine ⟨E.imp E' id o2, hle, ?_, hr, fun x l => l.elim (fun h => .inr (.inl h)) (fun h => .inl h)⟩
        have he := k2.ents o2
        obtain ⟨f1, f2, f3⟩ : E'.live o2 ∧ nn = E'.len o2 ∧ FamOK E' w.heap.size w' o2 := by
          rcases ho with ho | ho
          · rw [ho] at he; exact he
          · rw [ho] at he; exact he.1
        refine sim.step hle hbel (fun i => i = id) ?_ (fun o B _ hB => hblk o B hB) k2.mem ?_ ?_ ?_ ?_ (fun b hb j => hold b (Nat.lt_of_lt_of_le hb sim.base_le) j)
        · intro i hi
          exact ⟨ent_set_ne _ hi, fun _ => ⟨if_neg (h := instDecidableEqNat i id) hi, if_neg (h := instDecidableEqNat i id) hi⟩⟩
        · rintro i rfl
          rw [ent_set_same _ hid.2]
          refine ⟨.inl rfl, by simp [Env.imp, Env.add, f2], ?_⟩
          unfold FamOK at f3 ⊢
          simp only [Env.imp, Env.add, Env.setM, if_true]
          cases hx : E'.ex o2 with
          | none => rw [hx] at f3; exact f3
          | some g =>
            rw [hx] at f3
            obtain ⟨cap, cur, e, q1, q2, q3⟩ := f3
            exact ⟨cap, cur, e, q1, Nat.le_trans sim.base_le q2, q3⟩
        · rintro i B rfl hB i' hi' hB'
          rw [ent_set_same _ hid.2] at hB
          simp only [owns, Env.imp, Env.add, if_true] at hB
          unfold FamOK at f3
          rw [hB] at f3
          obtain ⟨cap, cur, e, q1, q2, q3⟩ := f3
          have := (owns_lt sim hB').2
          omega
        · rintro i i' B rfl rfl hne; exact absurd rfl hne
        · rintro i (rfl | l)
          · rw [List.length_set]; exact hid.2
          · rw [List.length_set]; exact sim.lt _ l
    · rename_i v1 himp
      refine ⟨v1, _, h, by simp, ?_⟩
      intro base w0 E w us sim hargs hid
      refine main base w0 E w us _ sim hargs ?_
      intro E' S' v' u w' k1 hold kb k2 k3 k4
      have hbel : BelowX E.lent base w w' := below_toX ⟨kb.os, kb.tape, kb.output, kb.size, fun k hk => kb.block k (Nat.lt_of_lt_of_le hk sim.base_le)⟩
      have hblk : ∀ o B, owns E o (ent S o) = some B → w'.heap[B]? = w.heap[B]? ∧ ∀ j, E'.m B j = E.m B j := fun o B hB => ⟨kb.block B (owns_lt sim hB).2, hold B (owns_lt sim hB).2⟩
      rcases import_rep (E := E) id k4 k3 with ⟨hi, hr⟩ | ⟨o2, n2, ho, hi, _⟩
      · rw [himp] at hr
        refine ⟨E.setM E'.m, Env.le_setM k1, ?_, hr _ rfl, fun _ l => .inl l⟩
        exact sim.step (Env.le_setM k1) hbel (fun _ => False) (fun _ _ => ⟨rfl, fun _ => ⟨rfl, rfl⟩⟩) (fun o B _ hB => hblk o B hB) k2.mem (fun _ h => h.elim) (fun _ _ h => h.elim) (fun _ _ _ h => h.elim) sim.lt (fun b hb j => hold b (Nat.lt_of_lt_of_le hb sim.base_le) j)
      · rw [himp] at hi; simp at hi

/-! ### contracts -/
structure ASp where
  ts : List Ty
  pre : List Int → dens ts → Bool
  res : List Int → dens ts → V
def ASp.ent (s : ASp) : AEnt := ⟨s.ts, fun xs vs => toDens s.ts vs fun ys => some (s.pre xs ys, s.res xs ys)⟩
def A0 : ATab := fun _ => none
def aAdd (A : ATab) (g : FuncId) (s : ASp) : ATab := fun i => match Nat.beq i g with | true => some s.ent | false => A i
noncomputable abbrev callA {R : Type} (A : ATab) (T : Tab) (F d : Nat) : CallH R := apartH A (inl T F d)
def ASp.Ok (s : ASp) (A : ATab) (T : Tab) (C : Ctx) (fn : Func) : Prop :=
  ∀ (xs : List Int) (ys : dens s.ts), Fits (.li by8) xs → FitsD s.ts ys → s.pre xs ys = true → ∃ F d, evFn C T (callA A T F d) F fn (.sr 0 0 0 (List.length xs) 1 .unk :: ofDens s.ts ys) [.rdo 0 by8 xs] (fun v S => exportF C fn.resultTypes.toList v S) = some (s.res xs ys)
def ASp.OkW (s : ASp) (A : ATab) (T : Tab) (C : Ctx) (fn : Func) : Prop :=
  ∀ (xs : List Int) (ys : dens s.ts), Fits (.li by8) xs → FitsD s.ts ys → s.pre xs ys = true → ∃ F d, evFn C T (callA A T F d) F fn (.sr 0 0 0 (List.length xs) 1 .unk :: ofDens s.ts ys) [.rdo 0 by8 xs] (fun v S => exportFW C fn.resultTypes.toList v S) = some (s.res xs ys)
def Sp.OkA (s : Sp) (A : ATab) (T : Tab) (C : Ctx) (fn : Func) : Prop :=
  ∀ x : dens s.ts, FitsD s.ts x → s.pre x = true → ∃ F d, evFn C T (callA A T F d) F fn (ofDens s.ts x) [] (fun v S => exportF C fn.resultTypes.toList v S) = some (s.res x)
theorem a0_ok {P : Program} : ATabOK P A0 := by intro g e h; simp [A0] at h
theorem callA_ok {R : Type} {A : ATab} {T : Tab} (hA : ATabOK Tryd.prog A) (hT : TabFar Tryd.prog T) (F d : Nat) : CallOK Tryd.prog (callA A T F d : CallH R) :=
  apart_ok hA (inl_ok (fun _ => rows_ok _) (tabFar_ok hT) mixed fnsOK d)
theorem aadd_ok {A : ATab} {T : Tab} {g : FuncId} {C : Ctx} {fn : Func} (s : ASp) (hA : ATabOK Tryd.prog A) (hT : TabFar Tryd.prog T) (hC : RowsOK Tryd.prog C) (hf : Tryd.prog.funcs[g]? = some fn) (hn : (fn.name == "runtime.NumGoroutine") = false) (hb : fn.body.isNone = false)
    (h : s.Ok A T C fn) : ATabOK Tryd.prog (aAdd A g s) := by
  intro i e hi
  unfold aAdd at hi
  split at hi
  · rename_i he
    obtain rfl := Nat.eq_of_beq_eq_true he
    obtain rfl := Option.some.inj hi
    refine ⟨⟨fn, hf, hn, hb⟩, ?_⟩
    intro xs vs zs v h1 h2
    obtain ⟨ys, rfl, h3⟩ := toDens_some h2
    obtain ⟨h4, rfl⟩ := Prod.mk.inj (Option.some.inj h3)
    intro m w u0 us R hl hx hr hR
    obtain ⟨F, d, h5⟩ := h xs ys (RepL.fits _ _ _ hx) (fitsD_rep hr) h4
    exact apart_fn hC (tabFar_ok hT) (callA_ok hA hT F d) mixed F hf (fun h => exportF_rep h) (ofDens_env s.ts ys) hl hx hr hR h5
  · exact hA i e hi
theorem aadd_okW {A : ATab} {T : Tab} {g : FuncId} {C : Ctx} {fn : Func} (s : ASp) (hA : ATabOK Tryd.prog A) (hT : TabFar Tryd.prog T) (hC : RowsOK Tryd.prog C) (hf : Tryd.prog.funcs[g]? = some fn) (hn : (fn.name == "runtime.NumGoroutine") = false) (hb : fn.body.isNone = false)
    (h : s.OkW A T C fn) : ATabOK Tryd.prog (aAdd A g s) := by
  intro i e hi
  unfold aAdd at hi
  split at hi
  · rename_i he
    obtain rfl := Nat.eq_of_beq_eq_true he
    obtain rfl := Option.some.inj hi
    refine ⟨⟨fn, hf, hn, hb⟩, ?_⟩
    intro xs vs zs v h1 h2
    obtain ⟨ys, rfl, h3⟩ := toDens_some h2
    obtain ⟨h4, rfl⟩ := Prod.mk.inj (Option.some.inj h3)
    intro m w u0 us R hl hx hr hR
    obtain ⟨F, d, h5⟩ := h xs ys (RepL.fits _ _ _ hx) (fitsD_rep hr) h4
    exact apart_fn hC (tabFar_ok hT) (callA_ok hA hT F d) mixed F hf (fun h => by
      obtain ⟨e1, e2, e3⟩ := exportFW_rep h
      refine ⟨e1, fun base w0 E w u sim hr => ?_⟩
      obtain ⟨E2, S2, l1, l2, l3⟩ := e3 base w0 E w u sim hr
      exact ⟨E2, S2, _, l1, l2, l3, e2 S2⟩) (ofDens_env s.ts ys) hl hx hr hR h5
  · exact hA i e hi
theorem add_okA {A : ATab} {T : Tab} {g : FuncId} {C : Ctx} {fn : Func} (s : Sp) (hA : ATabOK Tryd.prog A) (hT : TabFar Tryd.prog T) (hC : RowsOK Tryd.prog C) (hf : Tryd.prog.funcs[g]? = some fn) (hn : (fn.name == "runtime.NumGoroutine") = false) (hb : fn.body.isNone = false)
    (h : s.OkA A T C fn) : TabFar Tryd.prog (tabAdd T g s.ts s.F) := by
  intro i ts' F' hi
  unfold tabAdd at hi
  split at hi
  · rename_i he
    obtain rfl := Nat.eq_of_beq_eq_true he
    simp only [Option.some.injEq, Prod.mk.injEq] at hi
    obtain ⟨rfl, rfl⟩ := hi
    intro vs xs v h1 h2
    refine .inl ⟨⟨fn, hf, hn, hb⟩, ?_⟩
    intro m w us R hl hr hR
    obtain ⟨x, rfl, h3⟩ := toDens_some h2
    obtain ⟨h4, rfl⟩ := Prod.mk.inj (Option.some.inj h3)
    obtain ⟨F, d, h5⟩ := h x (fitsD_of (argsV_fits h1 hr)) h4
    exact far_fnF hC (tabFar_ok hT) (callA_ok hA hT F d) mixed F hf h5 m w us R hl hr hR
  · exact hT i ts' F' hi
/-- a law that asks for it, of the machine -/
theorem far_of_okA {A : ATab} {T : Tab} {g : FuncId} {C : Ctx} {fn : Func} (s : Sp) (hA : ATabOK Tryd.prog A) (hT : TabFar Tryd.prog T) (hC : RowsOK Tryd.prog C) (hf : Tryd.prog.funcs[g]? = some fn) (h : s.OkA A T C fn) (x : dens s.ts) (hp : FitsD s.ts x → s.pre x = true) : FarRes Tryd.prog g (ofDens s.ts x) (s.res x) := by
  intro m w us R hl hr hR
  have hx := fitsD_rep hr
  obtain ⟨F, d, h5⟩ := h x hx (hp hx)
  exact far_fnF hC (tabFar_ok hT) (callA_ok hA hT F d) mixed F hf h5 m w us R hl hr hR
theorem a_on_top {A : ATab} {g : FuncId} {s : ASp} (h : A g = some s.ent) : A = aAdd A g s := by
  funext i
  unfold aAdd
  split
  · rename_i he
    obtain rfl := Nat.eq_of_beq_eq_true he
    exact h
  · rfl
end Go.Proofs.YtbcfagackcnpkaaDoor.Ev
