/- Numbers of fixed width, least byte first: what the program and the document lay down and read back. -/
import Derived.Test.YteogjahkccmfaaaBase
import Derived.Test.YteogjahkccmfaaaPx2
import Derived.Test.YteogjahkccmfaaaPx10
import Derived.Test.YteogjahkccmfaaaPx13
import Derived.Test.YteogjahkccmfaaaPx16
namespace Go.Proofs.Yteogjahkccmfaaa.Base
open Go Go.RowKit Go.Proofs.YteogjahkccmfaaaW.PrintWords Go.Proofs.YteogjahkccmfaaaW.PrintLast Go.Proofs.YteogjahkccmfaaaW.PrintMore Go.Proofs.Yteogjahkccmfaaa.P

theorem shr_u64 {a : Int} {n : Nat} (h : n ≤ 8) : shr .u64 a (8 * (n : Int)) = a / ((256 ^ n : Nat) : Int) := by
  unfold shr
  have e1 : min (8 * (n : Int)).toNat IntKind.u64.bits = 8 * n := by simp only [IntKind.bits]; omega
  rw [e1, Int.natCast_pow]
  congr 1
  have : (256 : Int) = 2 ^ 8 := by decide
  show (2 : Int) ^ (8 * n) = (256 : Int) ^ n
  rw [this, ← Int.pow_mul]
theorem shl_u64 {x : Int} {n : Nat} (h : n ≤ 7) (hx : 0 ≤ x ∧ x < 256) : shl .u64 (IntKind.u64.wrap x) (8 * (n : Int)) = x * ((256 ^ n : Nat) : Int) := by
  rw [wrapU64_id hx.1 (by omega)]
  unfold shl
  have e1 : min (8 * (n : Int)).toNat IntKind.u64.bits = 8 * n := by simp only [IntKind.bits]; omega
  have e2 : (2 : Int) ^ (8 * n) = ((256 ^ n : Nat) : Int) := by
    rw [Int.natCast_pow]
    have : (256 : Int) = 2 ^ 8 := by decide
    show (2 : Int) ^ (8 * n) = (256 : Int) ^ n
    rw [this, ← Int.pow_mul]
  rw [e1, e2, wrapU64_id]
  · exact Int.mul_nonneg hx.1 (Int.natCast_nonneg _)
  · have p : (256 : Nat) ^ n ≤ 256 ^ 7 := Nat.pow_le_pow_right (by decide) h
    have p' : ((256 ^ n : Nat) : Int) ≤ 72057594037927936 := by
      have : (256 : Nat) ^ 7 = 72057594037927936 := by decide
      omega
    calc x * ((256 ^ n : Nat) : Int) ≤ 255 * ((256 ^ n : Nat) : Int) := Int.mul_le_mul_of_nonneg_right (by omega) (Int.natCast_nonneg _)
      _ < 18446744073709551616 := by omega

/-- so many bytes of a number, the least first -/
def fixedL (a : Int) : Nat → List Int
  | 0 => []
  | n + 1 => fixedL a n ++ [a / ((256 ^ n : Nat) : Int) % 256]
theorem fixedL_length (a : Int) (n : Nat) : (fixedL a n).length = n := by
  induction n with
  | zero => rfl
  | succ n ih => simp [fixedL, ih]
theorem fixedL_bytes (a : Int) (n : Nat) : Bytes (fixedL a n) := by
  induction n with
  | zero => intro x hx; cases hx
  | succ n ih => exact ih.append fun x hx => by rw [List.mem_singleton.mp hx]; omega
def leVal : List Int → Int
  | [] => 0
  | x :: l => x + 256 * leVal l
theorem leVal_append (a b : List Int) : leVal (a ++ b) = leVal a + ((256 ^ a.length : Nat) : Int) * leVal b := by
  induction a with
  | nil => simp [leVal]
  | cons x l ih =>
    simp only [List.cons_append, leVal, ih, List.length_cons, Nat.pow_succ, Int.natCast_mul]
    rw [Int.mul_add, Int.add_assoc, ← Int.mul_assoc]
    congr 3
    rw [Int.mul_comm]; rfl
theorem leVal_range {l : List Int} (h : Bytes l) : 0 ≤ leVal l ∧ leVal l < ((256 ^ l.length : Nat) : Int) := by
  induction l with
  | nil => simp [leVal]
  | cons x l ih =>
    have := ih fun y hy => h y (List.mem_cons_of_mem _ hy)
    have := h x List.mem_cons_self
    simp only [leVal, List.length_cons, Nat.pow_succ, Int.natCast_mul]
    omega
theorem leVal_fixedL {a : Int} (ha : 0 ≤ a) (n : Nat) : leVal (fixedL a n) = a % ((256 ^ n : Nat) : Int) := by
  obtain ⟨m, rfl⟩ := Int.eq_ofNat_of_zero_le ha
  induction n with
  | zero => simp [fixedL, leVal, Int.emod_one]
  | succ n ih =>
    have e := @Nat.mod_mul (256 ^ n) 256 m
    rw [fixedL, leVal_append, ih, fixedL_length, Nat.pow_succ]
    simp only [leVal]
    have e' : ((m % (256 ^ n * 256) : Nat) : Int) = ((m % 256 ^ n + 256 ^ n * (m / 256 ^ n % 256) : Nat) : Int) := by rw [e]
    have e1 : ((m % (256 ^ n * 256) : Nat) : Int) = (m : Int) % ((256 ^ n * 256 : Nat) : Int) := Int.natCast_emod _ _
    have e2 : ((m % 256 ^ n + 256 ^ n * (m / 256 ^ n % 256) : Nat) : Int) = (m : Int) % ((256 ^ n : Nat) : Int) + ((256 ^ n : Nat) : Int) * ((m : Int) / ((256 ^ n : Nat) : Int) % 256) := by
      rw [Int.natCast_add, Int.natCast_mul, Int.natCast_emod, Int.natCast_emod, Int.natCast_ediv]; rfl
    rw [← e1, e', e2, Int.mul_zero, Int.add_zero]

theorem fixed_l0 {a : Int} (m : Nat) (hm : m ≤ 8) (n : Nat) : ∀ i : Nat, i + n = m → Conv (fun k => codec_fixed.l0 k a (fixedL a i) (m : Int) (i : Int)) (fixedL a m) := by
  induction n with
  | zero =>
    intro i hi
    obtain rfl : i = m := by omega
    refine Conv.succ ?_
    simp only [codec_fixed.l0]
    exact Conv.iteF (by omega) (Conv.pure _)
  | succ n ih =>
    intro i hi
    refine Conv.succ ?_
    simp only [codec_fixed.l0]
    rw [wrap64_id (n := 8 * (i : Int)) (by omega) (by omega), wrap64_id (n := (i : Int) + 1) (by omega) (by omega), shr_u64 (by omega)]
    refine Conv.iteT (by omega) (Conv.iteT (by omega) (Conv.iteT (by rw [fixedL_length]; omega) ?_))
    exact ih (i + 1) (by omega)
theorem rfixed_l0 {a : Int} (m : Nat) (hm : m ≤ 8) (n : Nat) : ∀ i : Nat, i + n = m → Conv (fun k => moraineref2_Fixed.l0 k a (m : Int) (fixedL a i) (i : Int)) (fixedL a m) := by
  induction n with
  | zero =>
    intro i hi
    obtain rfl : i = m := by omega
    refine Conv.succ ?_
    simp only [moraineref2_Fixed.l0]
    exact Conv.iteF (by omega) (Conv.pure _)
  | succ n ih =>
    intro i hi
    refine Conv.succ ?_
    simp only [moraineref2_Fixed.l0]
    rw [wrap64_id (n := 8 * (i : Int)) (by omega) (by omega), wrap64_id (n := (i : Int) + 1) (by omega) (by omega), shr_u64 (by omega)]
    refine Conv.iteT (by omega) (Conv.iteT (by omega) (Conv.iteT (by rw [fixedL_length]; omega) ?_))
    exact ih (i + 1) (by omega)
theorem fixed_conv (a : Int) (m : Nat) (hm : m ≤ 8) : Conv (fun k => codec_fixed.f k a (m : Int)) (fixedL a m) := fixed_l0 m hm m 0 (by omega)
theorem rfixed_conv (a : Int) (m : Nat) (hm : m ≤ 8) : Conv (fun k => moraineref2_Fixed.f k a (m : Int)) (fixedL a m) := rfixed_l0 m hm m 0 (by omega)

theorem bits_or64 {x y : Int} {n : Nat} (hn : n ≤ 8) (hx : 0 ≤ x ∧ x < ((256 ^ n : Nat) : Int)) (hy : 0 ≤ y ∧ y * ((256 ^ n : Nat) : Int) < 18446744073709551616) :
    Go.bits .or .u64 x (y * ((256 ^ n : Nat) : Int)) = x + y * ((256 ^ n : Nat) : Int) := by
  obtain ⟨a, rfl⟩ := Int.eq_ofNat_of_zero_le hx.1
  obtain ⟨b, rfl⟩ := Int.eq_ofNat_of_zero_le hy.1
  have e2 : (256 : Nat) ^ n = 2 ^ (8 * n) := by
    have : (256 : Nat) = 2 ^ 8 := by decide
    rw [this, ← Nat.pow_mul]
  have h1 : a < 2 ^ (8 * n) := by rw [← e2]; omega
  have h2 : b * 2 ^ (8 * n) < 18446744073709551616 := by
    rw [← e2]
    have := hy.2
    rw [← Int.natCast_mul] at this
    omega
  have hp : (2 : Nat) ^ (8 * n) ≤ 2 ^ 64 := Nat.pow_le_pow_right (by decide) (by omega)
  have h3 : a < 18446744073709551616 := by
    have : (2 : Nat) ^ 64 = 18446744073709551616 := by decide
    omega
  rw [e2, ← Int.natCast_mul]
  unfold Go.bits
  rw [wrapU64]
  have eo : BitVec.ofInt IntKind.u64.bits (a : Int) ||| BitVec.ofInt IntKind.u64.bits ((b * 2 ^ (8 * n) : Nat) : Int) = BitVec.ofNat 64 (a + b * 2 ^ (8 * n)) := by
    apply BitVec.eq_of_toNat_eq
    rw [BitVec.toNat_or, BitVec.ofInt_natCast, BitVec.ofInt_natCast]
    simp only [IntKind.bits, BitVec.toNat_ofNat]
    rw [Nat.mod_eq_of_lt (by omega), Nat.mod_eq_of_lt (by omega)]
    have := Nat.shiftLeft_add_eq_or_of_lt h1 b
    rw [Nat.shiftLeft_eq] at this
    rw [Nat.or_comm, ← this, Nat.add_comm (b * _), Nat.mod_eq_of_lt]
    rw [Nat.add_comm, this]
    exact Nat.or_lt_two_pow (n := 64) (by omega) (by omega)
  have hl : a + b * 2 ^ (8 * n) < 18446744073709551616 := by
    have := Nat.shiftLeft_add_eq_or_of_lt h1 b
    rw [Nat.shiftLeft_eq] at this
    rw [Nat.add_comm, this]
    exact Nat.or_lt_two_pow (n := 64) (by omega) (by omega)
  show ((BitVec.ofInt IntKind.u64.bits (a : Int) ||| BitVec.ofInt IntKind.u64.bits ((b * 2 ^ (8 * n) : Nat) : Int)).toNat : Int) % 18446744073709551616 = _
  have et : (BitVec.ofInt IntKind.u64.bits (a : Int) ||| BitVec.ofInt IntKind.u64.bits ((b * 2 ^ (8 * n) : Nat) : Int)).toNat = a + b * 2 ^ (8 * n) := by
    rw [eo]
    show (BitVec.ofNat 64 (a + b * 2 ^ (8 * n))).toNat = _
    rw [BitVec.toNat_ofNat, Nat.mod_eq_of_lt (by omega)]
  rw [et]
  omega
theorem take_succ' {l : List Int} {n : Nat} (h : n < l.length) : l.take (n + 1) = l.take n ++ [rd l (n : Int)] := by
  rw [rd_get h, List.take_append_getElem h]
theorem unfixed_l0 {l : List Int} (hl : Bytes l) (m : Nat) (hm : m ≤ 8) (hml : m ≤ l.length) (n : Nat) : ∀ i : Nat, i + n = m →
    Conv (fun k => codec_unfixed.l0 k l (leVal (l.take i)) (m : Int) (i : Int)) (leVal (l.take m), 0) := by
  induction n with
  | zero =>
    intro i hi
    obtain rfl : i = m := by omega
    refine Conv.succ ?_
    simp only [codec_unfixed.l0]
    exact Conv.iteF (by omega) (Conv.pure _)
  | succ n ih =>
    intro i hi
    refine Conv.succ ?_
    simp only [codec_unfixed.l0]
    have hb := rd_bytes hl (i : Int)
    rw [wrap64_id (n := 8 * (i : Int)) (by omega) (by omega), wrap64_id (n := (i : Int) + 1) (by omega) (by omega), shl_u64 (by omega) hb]
    refine Conv.iteT (by omega) (Conv.iteT (by omega) (Conv.iteT (by omega) (Conv.iteT (by omega) ?_)))
    have hr := leVal_range (hl.take i)
    have hlen : (l.take i).length = i := by rw [List.length_take]; omega
    rw [hlen] at hr
    have p : (256 : Nat) ^ i ≤ 256 ^ 7 := Nat.pow_le_pow_right (by decide) (by omega)
    have p' : ((256 ^ i : Nat) : Int) ≤ 72057594037927936 := by
      have : (256 : Nat) ^ 7 = 72057594037927936 := by decide
      omega
    rw [bits_or64 (by omega) hr ⟨hb.1, ?_⟩]
    · have e : leVal (l.take i) + rd l (i : Int) * ((256 ^ i : Nat) : Int) = leVal (l.take (i + 1)) := by
        rw [take_succ' (by omega), leVal_append, hlen]
        simp [leVal, Int.mul_comm]
      rw [e]
      exact ih (i + 1) (by omega)
    · calc rd l (i : Int) * ((256 ^ i : Nat) : Int) ≤ 255 * ((256 ^ i : Nat) : Int) := Int.mul_le_mul_of_nonneg_right (by omega) (Int.natCast_nonneg _)
        _ < 18446744073709551616 := by omega
theorem unfixed_conv {l : List Int} (hl : Bytes l) (m : Nat) (hm : m ≤ 8) (hml : m ≤ l.length) : Conv (fun k => codec_unfixed.f k l (m : Int)) (leVal (l.take m), 0) := by
  unfold codec_unfixed.f
  exact Conv.iteF (by omega) (unfixed_l0 hl m hm hml m 0 (by omega))
theorem unfixed_short {l : List Int} (m : Nat) (hml : l.length < m) : Conv (fun k => codec_unfixed.f k l (m : Int)) (0, 20) := by
  unfold codec_unfixed.f
  exact Conv.iteT (by omega) (Conv.pure _)
theorem runfixed_l0 {l : List Int} (hl : Bytes l) (a : Nat) (m : Nat) (hm : m ≤ 8) (hml : a + m ≤ l.length) (hlen : l.length < 4611686018427387904) (n : Nat) : n ≤ m →
    Conv (fun k => moraineref2_Unfixed.l0 k l (a : Int) (leVal ((l.drop (a + n)).take (m - n))) ((n : Int) - 1)) (leVal ((l.drop a).take m)) := by
  induction n with
  | zero =>
    intro _
    refine Conv.succ ?_
    simp only [moraineref2_Unfixed.l0]
    exact Conv.iteF (by omega) (Conv.pure _)
  | succ n ih =>
    intro hn
    refine Conv.succ ?_
    simp only [moraineref2_Unfixed.l0]
    have e0 : ((n + 1 : Nat) : Int) - 1 = (n : Int) := by omega
    have e1 : (a : Int) + (n : Int) = ((a + n : Nat) : Int) := by omega
    rw [e0, wrap64_id (n := (a : Int) + (n : Int)) (by omega) (by omega), wrap64_id (n := (n : Int) - 1) (by omega) (by omega), e1]
    have hb := rd_bytes hl ((a + n : Nat) : Int)
    refine Conv.iteT (by omega) (Conv.iteT (by omega) (Conv.iteT (by omega) ?_))
    have ht := (hl.drop (a + (n + 1))).take (m - (n + 1))
    have hr := leVal_range ht
    have p : (256 : Nat) ^ ((l.drop (a + (n + 1))).take (m - (n + 1))).length ≤ 256 ^ 7 := Nat.pow_le_pow_right (by decide) (by rw [List.length_take]; omega)
    have p' : ((256 ^ ((l.drop (a + (n + 1))).take (m - (n + 1))).length : Nat) : Int) ≤ 72057594037927936 := by
      have : (256 : Nat) ^ 7 = 72057594037927936 := by decide
      omega
    rw [wrapU64_id hb.1 (by omega), wrapU64_id (n := 256 * _) (by omega) (by omega), wrapU64_id (by omega) (by omega)]
    have e : 256 * leVal ((l.drop (a + (n + 1))).take (m - (n + 1))) + rd l ((a + n : Nat) : Int) = leVal ((l.drop (a + n)).take (m - n)) := by
      have em : m - n = (m - (n + 1)) + 1 := by omega
      rw [drop_cons (l := l) (i := a + n) (by omega), em, List.take_succ_cons, leVal, Int.add_comm]
      rfl
    rw [e]
    exact ih (by omega)
theorem runfixed_conv {l : List Int} (hl : Bytes l) (a m : Nat) (hm : m ≤ 8) (hml : a + m ≤ l.length) (hlen : l.length < 4611686018427387904) : Conv (fun k => moraineref2_Unfixed.f k l (a : Int) (m : Int)) (leVal ((l.drop a).take m)) := by
  have := runfixed_l0 hl a m hm hml hlen m (Nat.le_refl _)
  unfold moraineref2_Unfixed.f
  rw [wrap64_id (by omega) (by omega)]
  simpa [leVal] using this
end Go.Proofs.Yteogjahkccmfaaa.Base
