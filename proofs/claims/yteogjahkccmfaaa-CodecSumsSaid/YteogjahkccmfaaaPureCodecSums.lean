/- CodecSums' pure statement: the sum of three rows of bytes laid over one another by xor is the xor of their sums, for every three rows. -/
import Derived.Test.YteogjahkccmfaaaPx9
import Derived.Test.YteogjahkccmfaaaCrc
namespace Go.Proofs.Yteogjahkccmfaaa.Pure
open Go Go.RowKit Go.Proofs.Yteogjahkccmfaaa.P Go.Proofs.YteogjahkccmfaaaW.PrintWords Go.Proofs.YteogjahkccmfaaaW.PrintLast Go.Proofs.Yteogjahkccmfaaa.Base

theorem ofInt_bits8 {x y : Int} (hx : 0 ≤ x ∧ x < 256) (hy : 0 ≤ y ∧ y < 256) : BitVec.ofInt 32 (Go.bits .xor .u8 x y) = BitVec.ofInt 32 x ^^^ BitVec.ofInt 32 y := by
  obtain ⟨a, rfl⟩ := Int.eq_ofNat_of_zero_le hx.1
  obtain ⟨b, rfl⟩ := Int.eq_ofNat_of_zero_le hy.1
  rw [bits_xor8]
  simp only [BitVec.ofInt_natCast, BitVec.toNat_xor, BitVec.toNat_ofNat]
  rw [Nat.mod_eq_of_lt (by omega), Nat.mod_eq_of_lt (by omega)]
  apply BitVec.eq_of_toNat_eq
  rw [BitVec.toNat_xor, BitVec.toNat_ofNat, BitVec.toNat_ofNat, BitVec.toNat_ofNat, Nat.xor_mod_two_pow]
theorem bits8_byte (x y : Int) : 0 ≤ Go.bits .xor .u8 x y ∧ Go.bits .xor .u8 x y < 256 := by
  rw [bits_xor8]
  have := (BitVec.ofInt 8 x ^^^ BitVec.ofInt 8 y).isLt
  omega
/-- the three rows laid over one another, so many -/
def over (a b c : List Int) : Nat → List Int
  | 0 => []
  | n + 1 => over a b c n ++ [Go.bits .xor .u8 (Go.bits .xor .u8 (rd a (n : Int)) (rd b (n : Int))) (rd c (n : Int))]
theorem over_length (a b c : List Int) (n : Nat) : (over a b c n).length = n := by
  induction n with
  | zero => rfl
  | succ n ih => simp [over, ih]
theorem over_bytes (a b c : List Int) (n : Nat) : Bytes (over a b c n) := by
  induction n with
  | zero => intro x hx; cases hx
  | succ n ih => exact ih.append fun x hx => by rw [List.mem_singleton.mp hx]; exact bits8_byte _ _
theorem take_succ' {l : List Int} {n : Nat} (h : n < l.length) : l.take (n + 1) = l.take n ++ [rd l (n : Int)] := by
  rw [rd_get h, List.take_append_getElem h]
theorem over_crcF {a b c : List Int} (ha : Bytes a) (hb : Bytes b) (hc : Bytes c) (n : Nat) (h1 : n ≤ a.length) (h2 : n ≤ b.length) (h3 : n ≤ c.length) (i j k : BitVec 32) :
    crcF (i ^^^ j ^^^ k) (over a b c n) = crcF i (a.take n) ^^^ crcF j (b.take n) ^^^ crcF k (c.take n) := by
  induction n with
  | zero => simp [over, crcF]
  | succ n ih =>
    rw [take_succ' (by omega), take_succ' (by omega), take_succ' (by omega), over, crcF_append, crcF_append, crcF_append, crcF_append, ih (by omega) (by omega) (by omega)]
    simp only [crcF]
    rw [ofInt_bits8 (bits8_byte _ _) (rd_bytes hc _), ofInt_bits8 (rd_bytes ha _) (rd_bytes hb _), ← steps_xor, ← steps_xor]
    congr 1
    ac_rfl
theorem sums_l0 {a b c : List Int} (ha : Bytes a) (hb : Bytes b) (hc : Bytes c) (m : Nat) (hm : m ≤ 2000) (h1 : m ≤ a.length) (h2 : m ≤ b.length) (h3 : m ≤ c.length)
    (n : Nat) : ∀ i : Nat, i + n = m → Conv (fun k => morainelaw2_CodecSums.l0 k a b c (m : Int) (over a b c i) (i : Int)) true := by
  induction n with
  | zero =>
    intro i hi
    obtain rfl : i = m := by omega
    refine Conv.succ ?_
    simp only [morainelaw2_CodecSums.l0]
    refine Conv.iteF (by omega) ?_
    refine Conv.bind (sum_conv (over_bytes a b c i) (by rw [over_length]; omega)) ?_
    refine Conv.iteT (by omega) (Conv.iteT (by omega) ?_)
    simp only [Int.toNat_natCast]
    refine Conv.bind (sum_conv (ha.take i) (by rw [List.length_take]; omega)) ?_
    refine Conv.iteT (by omega) ?_
    refine Conv.bind (sum_conv (hb.take i) (by rw [List.length_take]; omega)) ?_
    refine Conv.iteT (by omega) ?_
    refine Conv.bind (sum_conv (hc.take i) (by rw [List.length_take]; omega)) ?_
    refine Conv.const ?_
    rw [bits_xor32, bits_xor32, ofInt_toNat, ofInt_toNat, ofInt_toNat, ofInt_toNat]
    have : crc (over a b c i) = crc (a.take i) ^^^ crc (b.take i) ^^^ crc (c.take i) := by
      have := over_crcF ha hb hc i h1 h2 h3 (BitVec.allOnes 32) (BitVec.allOnes 32) (BitVec.allOnes 32)
      rw [BitVec.xor_self, BitVec.zero_xor] at this
      unfold crc
      rw [this]
      have e : ∀ o x y z : BitVec 32, o ^^^ (x ^^^ y ^^^ z) = (o ^^^ x) ^^^ (o ^^^ y) ^^^ (o ^^^ z) := by
        intro o x y z
        refine BitVec.eq_of_getLsbD_eq fun i _ => ?_
        simp only [BitVec.getLsbD_xor]
        cases o.getLsbD i <;> cases x.getLsbD i <;> cases y.getLsbD i <;> cases z.getLsbD i <;> rfl
      exact e _ _ _ _
    rw [this, beq_self_eq_true]
  | succ n ih =>
    intro i hi
    refine Conv.succ ?_
    simp only [morainelaw2_CodecSums.l0]
    refine Conv.iteT (by omega) (Conv.iteT (by omega) (Conv.iteT (by omega) (Conv.iteT (by omega) (Conv.iteT (by omega) (Conv.iteT (by rw [over_length]; omega) ?_)))))
    rw [wrap64_id (by omega) (by omega)]
    exact ih (i + 1) (by omega)
theorem CodecSums : morainelaw2_CodecSums.Pure := by
  intro l0 l1 l2 _ _ w0 _ _ w1 _ _ w2
  have ha := bytes_of_wf w0
  have hb := bytes_of_wf w1
  have hc := bytes_of_wf w2
  refine Conv.ex ?_
  simp only [morainelaw2_CodecSums.f, morainelaw2_known.f]
  refine Conv.bindc rfl (Conv.iteT rfl ?_)
  refine Conv.ite (fun c1 => Conv.ite (fun c2 => Conv.ite (fun _ => Conv.pure _) fun c3 => ?_) fun c2 => Conv.ite (fun _ => Conv.pure _) fun c3 => ?_) fun c1 => Conv.ite (fun c2 => Conv.ite (fun _ => Conv.pure _) fun c3 => ?_) fun c2 => Conv.ite (fun _ => Conv.pure _) fun c3 => ?_
  · exact sums_l0 ha hb hc l2.length (by omega) (by omega) (by omega) (by omega) l2.length 0 (by omega)
  · exact sums_l0 ha hb hc l1.length (by omega) (by omega) (by omega) (by omega) l1.length 0 (by omega)
  · exact sums_l0 ha hb hc l2.length (by omega) (by omega) (by omega) (by omega) l2.length 0 (by omega)
  · exact sums_l0 ha hb hc l0.length (by omega) (by omega) (by omega) (by omega) l0.length 0 (by omega)

end Go.Proofs.Yteogjahkccmfaaa.Pure
