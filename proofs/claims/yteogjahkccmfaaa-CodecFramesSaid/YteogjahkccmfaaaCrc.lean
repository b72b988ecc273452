/- The sum CRC-32C as it is computed by the program and by the document, bit by bit: both are one fold over the bytes, and that fold is linear. -/
import Derived.Test.YteogjahkccmfaaaBase
import Derived.Test.YteogjahkccmfaaaPx1
import Derived.Test.YteogjahkccmfaaaPx27
namespace Go.Proofs.Yteogjahkccmfaaa.Base
open Go Go.RowKit Go.Proofs.YteogjahkccmfaaaW.PrintWords Go.Proofs.YteogjahkccmfaaaW.PrintLast Go.Proofs.YteogjahkccmfaaaW.PrintMore Go.Proofs.Yteogjahkccmfaaa.P

def poly : BitVec 32 := 2197175160#32
/-- one bit's step -/
def step (b : BitVec 32) : BitVec 32 := (b >>> 1) ^^^ (if b.getLsbD 0 then poly else 0#32)
def steps : Nat → BitVec 32 → BitVec 32
  | 0, b => b
  | n + 1, b => steps n (step b)
/-- all bytes -/
def crcF (c : BitVec 32) : List Int → BitVec 32
  | [] => c
  | x :: l => crcF (steps 8 (c ^^^ BitVec.ofInt 32 x)) l
def crc (l : List Int) : BitVec 32 := BitVec.allOnes 32 ^^^ crcF (BitVec.allOnes 32) l

theorem step_xor (a b : BitVec 32) : step (a ^^^ b) = step a ^^^ step b := by
  unfold step
  rw [BitVec.ushiftRight_xor_distrib, BitVec.getLsbD_xor]
  have e : ∀ p q r : BitVec 32, (p ^^^ r) ^^^ (q ^^^ r) = p ^^^ q := by
    intro p q r
    refine BitVec.eq_of_getLsbD_eq fun i _ => ?_
    simp only [BitVec.getLsbD_xor]
    cases p.getLsbD i <;> cases q.getLsbD i <;> cases r.getLsbD i <;> rfl
  cases a.getLsbD 0 <;> cases b.getLsbD 0 <;> simp [e] <;> ac_rfl
theorem steps_xor (n : Nat) (a b : BitVec 32) : steps n (a ^^^ b) = steps n a ^^^ steps n b := by
  induction n generalizing a b with
  | zero => rfl
  | succ n ih => simp only [steps, step_xor, ih]
theorem step_inj {a b : BitVec 32} (h : step a = step b) : a = b := by
  have top : ∀ x : BitVec 32, (step x).getLsbD 31 = x.getLsbD 0 := by
    intro x
    unfold step
    rw [BitVec.getLsbD_xor, BitVec.getLsbD_ushiftRight]
    cases x.getLsbD 0 <;> simp [poly]
  have h0 : a.getLsbD 0 = b.getLsbD 0 := by rw [← top a, ← top b, h]
  have hs : a >>> 1 = b >>> 1 := by
    unfold step at h
    rw [h0] at h
    have := congrArg (· ^^^ (if b.getLsbD 0 then poly else 0#32)) h
    simpa [BitVec.xor_assoc] using this
  refine BitVec.eq_of_getLsbD_eq fun i hi => ?_
  cases i with
  | zero => exact h0
  | succ i =>
    have := congrArg (·.getLsbD i) hs
    simpa [BitVec.getLsbD_ushiftRight, Nat.add_comm] using this
theorem steps_inj {n : Nat} {a b : BitVec 32} (h : steps n a = steps n b) : a = b := by
  induction n generalizing a b with
  | zero => exact h
  | succ n ih => exact step_inj (ih h)
theorem crcF_inj {l : List Int} {a b : BitVec 32} (h : crcF a l = crcF b l) : a = b := by
  induction l generalizing a b with
  | nil => exact h
  | cons x l ih =>
    have := steps_inj (ih h)
    have := congrArg (· ^^^ BitVec.ofInt 32 x) this
    simpa [BitVec.xor_assoc] using this
theorem crcF_append (c : BitVec 32) (a b : List Int) : crcF c (a ++ b) = crcF (crcF c a) b := by
  induction a generalizing c with
  | nil => rfl
  | cons x l ih => exact ih _

theorem step_prog (x : BitVec 32) : Go.bits .xor .u32 ((x.toNat : Int) / 2) (Go.bits .and .u32 2197175160 ((-(Go.bits .and .u32 (x.toNat : Int) 1)) % 4294967296)) = ((step x).toNat : Int) := by
  rw [bits_xor32, bits_and32, bits_and32]
  have e1 : BitVec.ofInt 32 ((x.toNat : Int) / 2) = x >>> 1 := by
    have : ((x.toNat : Int) / (2 : Int)) = ((x >>> 1).toNat : Int) := by
      rw [BitVec.toNat_ushiftRight, Nat.shiftRight_eq_div_pow]; omega
    rw [this, ofInt_toNat]
  have e2 : BitVec.ofInt 32 (x.toNat : Int) &&& BitVec.ofInt 32 1 = if x.getLsbD 0 then 1#32 else 0#32 := by
    rw [ofInt_toNat]
    refine BitVec.eq_of_getLsbD_eq fun i hi => ?_
    have : BitVec.ofInt 32 1 = 1#32 := by decide
    rw [this]
    cases i with
    | zero => cases h : x.getLsbD 0 <;> simp only [BitVec.getLsbD_and, h] <;> decide
    | succ i => cases h : x.getLsbD 0 <;> simp [BitVec.getLsbD_one]
  rw [e1, e2]
  congr 2
  unfold step
  congr 1
  cases x.getLsbD 0 <;> decide
theorem tdiv_nat (n : Nat) : Int.tdiv (n : Int) 2 = ((n / 2 : Nat) : Int) := by
  rw [Int.tdiv_eq_ediv_of_nonneg (Int.natCast_nonneg _)]; omega
theorem tmod_nat (n : Nat) : Int.tmod (n : Int) 2 = ((n % 2 : Nat) : Int) := by
  rw [Int.tmod_eq_emod_of_nonneg (Int.natCast_nonneg _)]; omega
theorem div2 (x : BitVec 32) : BitVec.ofInt 32 (((x.toNat / 2 : Nat) : Int) % 4294967296) = x >>> 1 := by
  have hx := x.isLt
  have : (((x.toNat / 2 : Nat) : Int) % (4294967296 : Int)) = ((x >>> 1).toNat : Int) := by
    rw [BitVec.toNat_ushiftRight, Nat.shiftRight_eq_div_pow]; omega
  rw [this, ofInt_toNat]
theorem lsb_true (x : BitVec 32) : x.getLsbD 0 = true ↔ x.toNat % 2 = 1 := by
  simp [BitVec.getLsbD, Nat.testBit_zero]
theorem step_ref1 {x : BitVec 32} (h : Int.tmod (x.toNat : Int) 2 = 1) : Go.bits .xor .u32 ((Int.tdiv (x.toNat : Int) 2) % 4294967296) 2197175160 = ((step x).toNat : Int) := by
  have hx := x.isLt
  rw [tmod_nat] at h
  rw [bits_xor32, tdiv_nat, div2]
  have hb : x.getLsbD 0 = true := by rw [lsb_true]; omega
  unfold step
  rw [hb, if_pos rfl]
  rfl
theorem step_ref0 {x : BitVec 32} (h : ¬ Int.tmod (x.toNat : Int) 2 = 1) : (Int.tdiv (x.toNat : Int) 2) % 4294967296 = ((step x).toNat : Int) := by
  have hx := x.isLt
  rw [tmod_nat] at h
  have hb : x.getLsbD 0 = false := by
    rw [← Bool.not_eq_true, lsb_true]; omega
  unfold step
  rw [hb, if_neg (by decide), BitVec.xor_zero, BitVec.toNat_ushiftRight, Nat.shiftRight_eq_div_pow, tdiv_nat]
  omega

theorem xor_byte {c : BitVec 32} {x : Int} (h : 0 ≤ x ∧ x < 256) : Go.bits .xor .u32 (c.toNat : Int) (x % 4294967296) = ((c ^^^ BitVec.ofInt 32 x).toNat : Int) := by
  rw [bits_xor32, ofInt_toNat, Int.emod_eq_of_lt h.1 (by omega)]

theorem sum_l1 {x6 : List Int} {x7 x8 v : Int} (n : Nat) : ∀ (j : Nat) (c : BitVec 32), j + n = 8 →
    Conv (fun k => codec_Sum.l0 k ((steps n c).toNat : Int) x6 x7 (wrap64 (x8 + 1))) v → Conv (fun k => codec_Sum.l1 k (c.toNat : Int) x6 x7 x8 (j : Int)) v := by
  induction n with
  | zero =>
    intro j c hj h
    refine Conv.succ ?_
    simp only [codec_Sum.l1]
    exact Conv.iteF (by omega) h
  | succ n ih =>
    intro j c hj h
    refine Conv.succ ?_
    simp only [codec_Sum.l1, step_prog]
    refine Conv.iteT (by omega) ?_
    rw [wrap64_id (by omega) (by omega)]
    exact ih (j + 1) (step c) (by omega) h
theorem sum_l0 {l : List Int} (hl : Bytes l) (hlen : l.length < 9223372036854775807) (n : Nat) : ∀ (i : Nat) (c : BitVec 32), i + n = l.length →
    Conv (fun k => codec_Sum.l0 k (c.toNat : Int) l (l.length : Int) (i : Int)) ((BitVec.allOnes 32 ^^^ crcF c (l.drop i)).toNat : Int) := by
  induction n with
  | zero =>
    intro i c hi
    refine Conv.succ ?_
    simp only [codec_Sum.l0]
    refine Conv.iteF (by omega) ?_
    rw [List.drop_eq_nil_of_le (by omega), bits_xor32, ofInt_toNat]
    exact Conv.pure _
  | succ n ih =>
    intro i c hi
    refine Conv.succ ?_
    simp only [codec_Sum.l0]
    refine Conv.iteT (by omega) (Conv.iteT (by omega) (Conv.iteT (by omega) ?_))
    rw [xor_byte (rd_bytes hl _), drop_cons (by omega)]
    refine sum_l1 8 0 _ rfl ?_
    rw [wrap64_id (by omega) (by omega)]
    exact ih (i + 1) _ (by omega)
theorem sum_conv {l : List Int} (hl : Bytes l) (hlen : l.length < 9223372036854775807) : Conv (fun k => codec_Sum.f k l) ((crc l).toNat : Int) := by
  have := sum_l0 hl hlen l.length 0 (BitVec.allOnes 32) (by omega)
  simpa [codec_Sum.f, crc] using this

theorem rsum_l1 {x0 : List Int} {x4 v : Int} (n : Nat) : ∀ (j : Nat) (c : BitVec 32), j + n = 8 →
    Conv (fun k => moraineref2_Sum.l0 k x0 ((steps n c).toNat : Int) (wrap64 (x4 + 1))) v → Conv (fun k => moraineref2_Sum.l1 k x0 (c.toNat : Int) x4 (j : Int)) v := by
  induction n with
  | zero =>
    intro j c hj h
    refine Conv.succ ?_
    simp only [moraineref2_Sum.l1]
    exact Conv.iteF (by omega) h
  | succ n ih =>
    intro j c hj h
    refine Conv.succ ?_
    simp only [moraineref2_Sum.l1]
    refine Conv.iteT (by omega) ?_
    rw [wrap64_id (by omega) (by omega)]
    by_cases hc : Int.tmod (c.toNat : Int) 2 = 1
    · refine Conv.iteT hc ?_
      rw [step_ref1 hc]
      exact ih (j + 1) (step c) (by omega) h
    · refine Conv.iteF hc ?_
      rw [step_ref0 hc]
      exact ih (j + 1) (step c) (by omega) h
theorem rsum_l0 {l : List Int} (hl : Bytes l) (hlen : l.length < 9223372036854775807) (n : Nat) : ∀ (i : Nat) (c : BitVec 32), i + n = l.length →
    Conv (fun k => moraineref2_Sum.l0 k l (c.toNat : Int) (i : Int)) ((BitVec.allOnes 32 ^^^ crcF c (l.drop i)).toNat : Int) := by
  induction n with
  | zero =>
    intro i c hi
    refine Conv.succ ?_
    simp only [moraineref2_Sum.l0]
    refine Conv.iteF (by omega) ?_
    rw [List.drop_eq_nil_of_le (by omega), bits_xor32, ofInt_toNat]
    exact Conv.pure _
  | succ n ih =>
    intro i c hi
    refine Conv.succ ?_
    simp only [moraineref2_Sum.l0]
    refine Conv.iteT (by omega) (Conv.iteT (by omega) ?_)
    rw [xor_byte (rd_bytes hl _), drop_cons (by omega)]
    refine rsum_l1 8 0 _ rfl ?_
    rw [wrap64_id (by omega) (by omega)]
    exact ih (i + 1) _ (by omega)
theorem rsum_conv {l : List Int} (hl : Bytes l) (hlen : l.length < 9223372036854775807) : Conv (fun k => moraineref2_Sum.f k l) ((crc l).toNat : Int) := by
  have := rsum_l0 hl hlen l.length 0 (BitVec.allOnes 32) (by omega)
  simpa [moraineref2_Sum.f, crc] using this
end Go.Proofs.Yteogjahkccmfaaa.Base
