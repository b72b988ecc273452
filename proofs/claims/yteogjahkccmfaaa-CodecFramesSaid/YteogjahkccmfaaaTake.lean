/- Numbers of seven bits a byte: laid down and read, by the program and by the document. -/
import Derived.Test.YteogjahkccmfaaaFix
import Derived.Test.YteogjahkccmfaaaPx7
import Derived.Test.YteogjahkccmfaaaPx19
import Derived.Test.YteogjahkccmfaaaPx20
import Derived.Test.YteogjahkccmfaaaPx23
namespace Go.Proofs.Yteogjahkccmfaaa.Base
open Go Go.RowKit Go.Proofs.YteogjahkccmfaaaW.PrintWords Go.Proofs.YteogjahkccmfaaaW.PrintLast Go.Proofs.YteogjahkccmfaaaW.PrintMore Go.Proofs.Yteogjahkccmfaaa.P

theorem andNot128 {c : Int} (h : 0 ≤ c ∧ c < 256) : Go.bits .andNot .u8 c 128 = c % 128 := by
  have all : ∀ n : Fin 256, Go.bits .andNot .u8 (n.val : Int) 128 = (n.val : Int) % 128 := by decide +kernel
  have := all ⟨c.toNat, by omega⟩
  simp only at this
  rwa [Int.toNat_of_nonneg h.1] at this
theorem or128 {c : Int} (h : 0 ≤ c ∧ c < 256) : Go.bits .or .u8 c 128 = c % 128 + 128 := by
  have all : ∀ n : Fin 256, Go.bits .or .u8 (n.val : Int) 128 = (n.val : Int) % 128 + 128 := by decide +kernel
  have := all ⟨c.toNat, by omega⟩
  simp only at this
  rwa [Int.toNat_of_nonneg h.1] at this
theorem pow7 (n : Nat) : (2 : Nat) ^ (7 * n) = 128 ^ n := by
  have : (128 : Nat) = 2 ^ 7 := by decide
  rw [this, ← Nat.pow_mul]
theorem shl7 {x : Int} {n : Nat} (h : n ≤ 9) (h0 : 0 ≤ x) (hx : x * ((128 ^ n : Nat) : Int) < 18446744073709551616) (hx' : x < 18446744073709551616) : shl .u64 (IntKind.u64.wrap x) (7 * (n : Int)) = x * ((128 ^ n : Nat) : Int) := by
  rw [wrapU64_id h0 hx']
  unfold shl
  have e1 : min (7 * (n : Int)).toNat IntKind.u64.bits = 7 * n := by simp only [IntKind.bits]; omega
  have e2 : (2 : Int) ^ (7 * n) = ((128 ^ n : Nat) : Int) := by
    rw [← pow7, Int.natCast_pow]; rfl
  rw [e1, e2, wrapU64_id (Int.mul_nonneg h0 (Int.natCast_nonneg _)) hx]
theorem or_at {x y : Int} {m : Nat} (hx : 0 ≤ x ∧ x < ((2 ^ m : Nat) : Int)) (hy : 0 ≤ y ∧ y * ((2 ^ m : Nat) : Int) < 18446744073709551616) (hx64 : x < 18446744073709551616) :
    Go.bits .or .u64 x (y * ((2 ^ m : Nat) : Int)) = x + y * ((2 ^ m : Nat) : Int) := by
  obtain ⟨a, rfl⟩ := Int.eq_ofNat_of_zero_le hx.1
  obtain ⟨b, rfl⟩ := Int.eq_ofNat_of_zero_le hy.1
  have h1 : a < 2 ^ m := by omega
  have h2 : b * 2 ^ m < 18446744073709551616 := by
    have := hy.2
    rw [← Int.natCast_mul] at this
    omega
  rw [← Int.natCast_mul]
  unfold Go.bits
  rw [wrapU64]
  have hl : a + b * 2 ^ m < 18446744073709551616 := by
    have := Nat.shiftLeft_add_eq_or_of_lt h1 b
    rw [Nat.shiftLeft_eq] at this
    rw [Nat.add_comm, this]
    exact Nat.or_lt_two_pow (n := 64) (by omega) (by omega)
  have eo : BitVec.ofInt IntKind.u64.bits (a : Int) ||| BitVec.ofInt IntKind.u64.bits ((b * 2 ^ m : Nat) : Int) = BitVec.ofNat 64 (a + b * 2 ^ m) := by
    apply BitVec.eq_of_toNat_eq
    rw [BitVec.toNat_or, BitVec.ofInt_natCast, BitVec.ofInt_natCast]
    simp only [IntKind.bits, BitVec.toNat_ofNat]
    rw [Nat.mod_eq_of_lt (by omega), Nat.mod_eq_of_lt (by omega)]
    have := Nat.shiftLeft_add_eq_or_of_lt h1 b
    rw [Nat.shiftLeft_eq] at this
    rw [Nat.or_comm, ← this, Nat.add_comm (b * _), Nat.mod_eq_of_lt (by omega)]
  have et : (BitVec.ofInt IntKind.u64.bits (a : Int) ||| BitVec.ofInt IntKind.u64.bits ((b * 2 ^ m : Nat) : Int)).toNat = a + b * 2 ^ m := by
    rw [eo]
    show (BitVec.ofNat 64 (a + b * 2 ^ m)).toNat = _
    rw [BitVec.toNat_ofNat, Nat.mod_eq_of_lt (by omega)]
  show ((BitVec.ofInt IntKind.u64.bits (a : Int) ||| BitVec.ofInt IntKind.u64.bits ((b * 2 ^ m : Nat) : Int)).toNat : Int) % 18446744073709551616 = _
  rw [et]
  omega

/-- what is read of a row, from the i-th byte on -/
def takeS : List Int → Nat → Int → Int × Int × Int
  | [], _, _ => (0, 0, 20)
  | c :: l, i, acc => if (i = 9 ∧ 1 < c) ∨ (0 < i ∧ c = 0) then (0, 0, 21) else if c < 128 then (acc + c % 128 * ((128 ^ i : Nat) : Int), (i : Int) + 1, 0) else takeS l (i + 1) (acc + c % 128 * ((128 ^ i : Nat) : Int))
theorem pow128_le {i : Nat} (h : i ≤ 9) : ((128 ^ i : Nat) : Int) ≤ 9223372036854775808 := by
  have p : (128 : Nat) ^ i ≤ 128 ^ 9 := Nat.pow_le_pow_right (by decide) h
  have : (128 : Nat) ^ 9 = 9223372036854775808 := by decide
  omega
theorem pow128_le8 {i : Nat} (h : i ≤ 8) : ((128 ^ i : Nat) : Int) ≤ 72057594037927936 := by
  have p : (128 : Nat) ^ i ≤ 128 ^ 8 := Nat.pow_le_pow_right (by decide) h
  have : (128 : Nat) ^ 8 = 72057594037927936 := by decide
  omega
/-- a byte that is let in at its place: its part -/
theorem part {c acc : Int} {i : Nat} (hi : i ≤ 9) (hc : 0 ≤ c ∧ c < 256) (hn : ¬ ((i = 9 ∧ 1 < c) ∨ (0 < i ∧ c = 0))) (ha : 0 ≤ acc ∧ acc < ((128 ^ i : Nat) : Int)) :
    0 ≤ acc + c % 128 * ((128 ^ i : Nat) : Int) ∧ acc + c % 128 * ((128 ^ i : Nat) : Int) < ((128 ^ (i + 1) : Nat) : Int) ∧ acc + c % 128 * ((128 ^ i : Nat) : Int) < 18446744073709551616 ∧ c % 128 * ((128 ^ i : Nat) : Int) < 18446744073709551616 := by
  have hm : 0 ≤ c % 128 * ((128 ^ i : Nat) : Int) := Int.mul_nonneg (by omega) (Int.natCast_nonneg _)
  have hle : c % 128 * ((128 ^ i : Nat) : Int) ≤ 127 * ((128 ^ i : Nat) : Int) := Int.mul_le_mul_of_nonneg_right (by omega) (Int.natCast_nonneg _)
  have e : ((128 ^ (i + 1) : Nat) : Int) = 128 * ((128 ^ i : Nat) : Int) := by rw [Nat.pow_succ]; omega
  refine ⟨by omega, by omega, ?_⟩
  by_cases h9 : i = 9
  · subst h9
    have hle1 : c % 128 * ((128 ^ 9 : Nat) : Int) ≤ 1 * ((128 ^ 9 : Nat) : Int) := Int.mul_le_mul_of_nonneg_right (by omega) (Int.natCast_nonneg _)
    have := pow128_le (i := 9) (by omega)
    omega
  · have := pow128_le8 (i := i) (by omega)
    omega
theorem take_l0 {l : List Int} (hl : Bytes l) (hlen : l.length < 4611686018427387904) (n : Nat) : ∀ (i : Nat) (acc : Int), i + n = l.length → i ≤ 9 ∨ n = 0 → 0 ≤ acc ∧ acc < ((128 ^ i : Nat) : Int) →
    Conv (fun k => codec_Take.l0 k acc l (l.length : Int) (i : Int)) (takeS (l.drop i) i acc) := by
  induction n with
  | zero =>
    intro i acc hi _ _
    refine Conv.succ ?_
    simp only [codec_Take.l0]
    rw [List.drop_eq_nil_of_le (by omega)]
    exact Conv.iteF (by omega) (Conv.pure _)
  | succ n ih =>
    intro i acc hi h9 ha
    have h9 : i ≤ 9 := by omega
    refine Conv.succ ?_
    simp only [codec_Take.l0]
    refine Conv.iteT (by omega) (Conv.iteT (by omega) (Conv.iteT (by omega) ?_))
    rw [drop_cons (l := l) (i := i) (by omega)]
    have hb := rd_bytes hl (i : Int)
    generalize rd l (i : Int) = c at hb ⊢
    have bad : ∀ {v}, v = (0, 0, 21) → Conv (fun k => codec_Take.j1 k acc (i : Int) c l (l.length : Int) (i : Int) true) v := by
      intro v e
      subst e
      refine Conv.succ ?_
      simp only [codec_Take.j1]
      exact Conv.iteT (by trivial) (Conv.pure _)
    have good : ∀ b : Bool, b = false → ¬ ((i = 9 ∧ 1 < c) ∨ (0 < i ∧ c = 0)) → Conv (fun k => codec_Take.j1 k acc (i : Int) c l (l.length : Int) (i : Int) b) (takeS (c :: l.drop (i + 1)) i acc) := by
      intro b hbf hn
      subst hbf
      obtain ⟨p1, p2, p3, p4⟩ := part h9 hb hn ha
      refine Conv.succ ?_
      simp only [codec_Take.j1, takeS]
      rw [if_neg hn, wrap64_id (n := 7 * (i : Int)) (by omega) (by omega), wrap64_id (n := (i : Int) + 1) (by omega) (by omega), andNot128 hb, shl7 (by omega) (by omega) p4 (by omega), ← pow7,
        or_at (by rw [pow7]; exact ha) ⟨by omega, by rw [pow7]; exact p4⟩ (by have := pow128_le h9; omega), pow7]
      refine Conv.iteF (by decide) (Conv.iteT (by omega) ?_)
      refine Conv.ite (fun c1 => ?_) fun c1 => ?_
      · rw [if_pos c1]; exact Conv.pure _
      · rw [if_neg c1]
        exact ih (i + 1) _ (by omega) (by omega) ⟨p1, p2⟩
    refine Conv.ite (fun c1 => Conv.ite (fun c2 => ?_) fun c2 => Conv.ite (fun c3 => ?_) fun c3 => ?_) fun c1 => Conv.ite (fun c3 => ?_) fun c3 => ?_
    · exact bad (by simp only [takeS]; rw [if_pos (by omega)])
    · by_cases c4 : c = 0
      · rw [show (c == 0) = true from beq_iff_eq.mpr c4]
        exact bad (by simp only [takeS]; rw [if_pos (by omega)])
      · exact good _ (beq_eq_false_iff_ne.mpr c4) (by omega)
    · exact good _ rfl (by omega)
    · by_cases c4 : c = 0
      · rw [show (c == 0) = true from beq_iff_eq.mpr c4]
        exact bad (by simp only [takeS]; rw [if_pos (by omega)])
      · exact good _ (beq_eq_false_iff_ne.mpr c4) (by omega)
    · exact good _ rfl (by omega)
theorem take_conv {l : List Int} (hl : Bytes l) (hlen : l.length < 4611686018427387904) : Conv (fun k => codec_Take.f k l) (takeS l 0 0) := by
  have := take_l0 hl hlen l.length 0 0 (by omega) (by omega) (by decide)
  simpa [codec_Take.f] using this
theorem rtake_l0 {l : List Int} (hl : Bytes l) (hlen : l.length < 4611686018427387904) (a : Nat) (n : Nat) : ∀ (i : Nat) (acc : Int), a + i + n = l.length → i ≤ 9 ∨ n = 0 → 0 ≤ acc ∧ acc < ((128 ^ i : Nat) : Int) →
    Conv (fun k => moraineref2_Take.l0 k l (a : Int) acc (i : Int)) (takeS (l.drop (a + i)) i acc) := by
  induction n with
  | zero =>
    intro i acc hi _ _
    refine Conv.succ ?_
    simp only [moraineref2_Take.l0]
    rw [List.drop_eq_nil_of_le (by omega), wrap64_id (by omega) (by omega)]
    exact Conv.iteT (by omega) (Conv.pure _)
  | succ n ih =>
    intro i acc hi h9 ha
    have h9 : i ≤ 9 := by omega
    refine Conv.succ ?_
    simp only [moraineref2_Take.l0]
    have e : (a : Int) + (i : Int) = ((a + i : Nat) : Int) := by omega
    rw [wrap64_id (n := (a : Int) + (i : Int)) (by omega) (by omega), e]
    refine Conv.iteF (by omega) (Conv.iteT (by omega) (Conv.iteT (by omega) ?_))
    rw [drop_cons (l := l) (i := a + i) (by omega)]
    have hb := rd_bytes hl ((a + i : Nat) : Int)
    rw [wrapU64_id hb.1 (by omega)]
    generalize rd l ((a + i : Nat) : Int) = c at hb ⊢
    have bad : ∀ {v}, v = (0, 0, 21) → Conv (fun k => moraineref2_Take.j1 k l (a : Int) acc (i : Int) c true) v := by
      intro v e
      subst e
      refine Conv.succ ?_
      simp only [moraineref2_Take.j1]
      exact Conv.iteT (by trivial) (Conv.pure _)
    have good : ∀ b : Bool, b = false → ¬ ((i = 9 ∧ 1 < c) ∨ (0 < i ∧ c = 0)) → Conv (fun k => moraineref2_Take.j1 k l (a : Int) acc (i : Int) c b) (takeS (c :: l.drop (a + i + 1)) i acc) := by
      intro b hbf hn
      subst hbf
      obtain ⟨p1, p2, p3, p4⟩ := part h9 hb hn ha
      refine Conv.succ ?_
      simp only [moraineref2_Take.j1, takeS]
      have es : shl .u64 (Int.tmod c 128) (7 * (i : Int)) = c % 128 * ((128 ^ i : Nat) : Int) := by
        rw [Int.tmod_eq_emod_of_nonneg hb.1, ← wrapU64_id (n := c % 128) (by omega) (by omega), shl7 (by omega) (by omega) p4 (by omega), wrapU64_id (by omega) (by omega)]
      rw [if_neg hn, wrap64_id (n := 7 * (i : Int)) (by omega) (by omega), wrap64_id (n := (i : Int) + 1) (by omega) (by omega), es, wrapU64_id p1 p3]
      refine Conv.iteF (by decide) (Conv.iteT (by omega) ?_)
      refine Conv.ite (fun c1 => ?_) fun c1 => ?_
      · rw [if_pos c1]; exact Conv.pure _
      · rw [if_neg c1]
        exact ih (i + 1) _ (by omega) (by omega) ⟨p1, p2⟩
    refine Conv.ite (fun c1 => Conv.ite (fun c2 => ?_) fun c2 => Conv.ite (fun c3 => ?_) fun c3 => ?_) fun c1 => Conv.ite (fun c3 => ?_) fun c3 => ?_
    · exact bad (by simp only [takeS]; rw [if_pos (by omega)])
    · by_cases c4 : c = 0
      · rw [show (c == 0) = true from beq_iff_eq.mpr c4]
        exact bad (by simp only [takeS]; rw [if_pos (by omega)])
      · exact good _ (beq_eq_false_iff_ne.mpr c4) (by omega)
    · exact good _ rfl (by omega)
    · by_cases c4 : c = 0
      · rw [show (c == 0) = true from beq_iff_eq.mpr c4]
        exact bad (by simp only [takeS]; rw [if_pos (by omega)])
      · exact good _ (beq_eq_false_iff_ne.mpr c4) (by omega)
    · exact good _ rfl (by omega)
theorem rtake_conv {l : List Int} (hl : Bytes l) (hlen : l.length < 4611686018427387904) (a : Nat) (ha : a ≤ l.length) : Conv (fun k => moraineref2_Take.f k l (a : Int)) (takeS (l.drop a) 0 0) :=
  rtake_l0 hl hlen a (l.length - a) 0 0 (by omega) (by omega) (by decide)

/-- a number's bytes: as many as its size asks for -/
def putS (n : Nat) : List Int := if h : n < 128 then [(n : Int)] else ((n % 128 + 128 : Nat) : Int) :: putS (n / 128)
termination_by n
decreasing_by omega
theorem putS_bytes (n : Nat) : Bytes (putS n) := by
  induction n using Nat.strongRecOn with
  | ind n ih =>
    unfold putS
    split
    · intro x hx; rw [List.mem_singleton.mp hx]; omega
    · intro x hx
      rcases List.mem_cons.mp hx with h | h
      · rw [h]; omega
      · exact ih (n / 128) (by omega) x h
theorem putS_length (j : Nat) : ∀ n : Nat, n < 128 ^ (j + 1) → (putS n).length ≤ j + 1 := by
  induction j with
  | zero => intro n h; unfold putS; rw [dif_pos (by omega)]; simp
  | succ j ih =>
    intro n h
    unfold putS
    split
    · simp
    · rw [List.length_cons]
      have := ih (n / 128) (by rw [Nat.div_lt_iff_lt_mul (by decide)]; rw [Nat.pow_succ] at h; exact h)
      omega
theorem putS_length64 {n : Nat} (h : n < 18446744073709551616) : (putS n).length ≤ 10 := by
  refine putS_length 9 n ?_
  have : (128 : Nat) ^ (9 + 1) = 1180591620717411303424 := by decide
  omega
theorem put_l0 (n : Nat) : ∀ acc : List Int, acc.length + (putS n).length < 140737488355328 → Conv (fun k => codec_Put.l0 k (n : Int) acc) (acc ++ putS n) := by
  induction n using Nat.strongRecOn with
  | ind n ih =>
    intro acc hlen
    refine Conv.succ ?_
    simp only [codec_Put.l0]
    by_cases h : n < 128
    · have e : putS n = [(n : Int)] := by unfold putS; rw [dif_pos h]
      rw [e] at hlen ⊢
      refine Conv.iteF (by omega) (Conv.iteT (by simp at hlen; omega) ?_)
      rw [Int.emod_eq_of_lt (by omega) (by omega)]
      exact Conv.pure _
    · have e : putS n = ((n % 128 + 128 : Nat) : Int) :: putS (n / 128) := by rw [putS, dif_neg h]
      rw [e] at hlen ⊢
      refine Conv.iteT (by omega) (Conv.iteT (by simp at hlen; omega) ?_)
      rw [or128 (by omega)]
      have e1 : (n : Int) % 256 % 128 + 128 = ((n % 128 + 128 : Nat) : Int) := by omega
      have e2 : (n : Int) / 128 = ((n / 128 : Nat) : Int) := by omega
      rw [e1, e2]
      have := ih (n / 128) (by omega) (acc ++ [((n % 128 + 128 : Nat) : Int)]) (by simp at hlen ⊢; omega)
      rwa [List.append_assoc] at this
theorem put_conv {a : Int} (h : 0 ≤ a ∧ a < 18446744073709551616) : Conv (fun k => codec_Put.f k a) (putS a.toNat) := by
  have := put_l0 a.toNat [] (by have := putS_length64 (n := a.toNat) (by omega); simp; omega)
  rwa [Int.toNat_of_nonneg h.1] at this
theorem rput_l0 (n : Nat) : n < 18446744073709551616 → ∀ acc : List Int, acc.length + (putS n).length < 140737488355328 → Conv (fun k => moraineref2_Put.l0 k (n : Int) acc) (acc ++ putS n) := by
  induction n using Nat.strongRecOn with
  | ind n ih =>
    intro hn acc hlen
    refine Conv.succ ?_
    simp only [moraineref2_Put.l0]
    by_cases h : n < 128
    · have e : putS n = [(n : Int)] := by unfold putS; rw [dif_pos h]
      rw [e] at hlen ⊢
      refine Conv.iteF (by omega) (Conv.iteT (by simp at hlen; omega) ?_)
      rw [Int.emod_eq_of_lt (by omega) (by omega)]
      exact Conv.pure _
    · have e : putS n = ((n % 128 + 128 : Nat) : Int) :: putS (n / 128) := by rw [putS, dif_neg h]
      rw [e] at hlen ⊢
      refine Conv.iteT (by omega) (Conv.iteT (by simp at hlen; omega) ?_)
      rw [Int.tdiv_eq_ediv_of_nonneg (by omega), Int.tmod_eq_emod_of_nonneg (by omega), wrapU64_id (by omega) (by omega), wrapU64_id (by omega) (by omega)]
      have e1 : (128 + (n : Int) % 128) % 256 = ((n % 128 + 128 : Nat) : Int) := by omega
      have e2 : (n : Int) / 128 = ((n / 128 : Nat) : Int) := by omega
      rw [e1, e2]
      have := ih (n / 128) (by omega) (by omega) (acc ++ [((n % 128 + 128 : Nat) : Int)]) (by simp at hlen ⊢; omega)
      rwa [List.append_assoc] at this
theorem rput_conv {a : Int} (h : 0 ≤ a ∧ a < 18446744073709551616) : Conv (fun k => moraineref2_Put.f k a) (putS a.toNat) := by
  have := rput_l0 a.toNat (by omega) [] (by have := putS_length64 (n := a.toNat) (by omega); simp; omega)
  rwa [Int.toNat_of_nonneg h.1] at this
theorem takeS_putS (n : Nat) : ∀ (i : Nat) (acc : Int) (rest : List Int), i ≤ 9 → n * 128 ^ i < 18446744073709551616 → i = 0 ∨ 0 < n →
    takeS (putS n ++ rest) i acc = (acc + (n : Int) * ((128 ^ i : Nat) : Int), (i : Int) + ((putS n).length : Int), 0) := by
  induction n using Nat.strongRecOn with
  | ind n ih =>
    intro i acc rest hi hn h0
    have h9 : i = 9 → n ≤ 1 := by
      intro e
      subst e
      have : (128 : Nat) ^ 9 = 9223372036854775808 := by decide
      omega
    by_cases h : n < 128
    · have e : putS n = [(n : Int)] := by unfold putS; rw [dif_pos h]
      rw [e]
      simp only [List.cons_append, List.nil_append, takeS, List.length_cons, List.length_nil]
      rw [if_neg (by omega), if_pos (by omega), Int.emod_eq_of_lt (by omega) (by omega)]
      rfl
    · have e : putS n = ((n % 128 + 128 : Nat) : Int) :: putS (n / 128) := by rw [putS, dif_neg h]
      rw [e]
      simp only [List.cons_append, takeS, List.length_cons]
      have hp : n / 128 * 128 ^ (i + 1) ≤ n * 128 ^ i := by
        rw [Nat.pow_succ, Nat.mul_comm (128 ^ i), ← Nat.mul_assoc]
        exact Nat.mul_le_mul_right _ (Nat.div_mul_le_self _ _)
      rw [if_neg (by omega), if_neg (by omega), ih (n / 128) (by omega) (i + 1) _ rest (by omega) (by omega) (by omega)]
      have e1 : (((n % 128 + 128 : Nat) : Int)) % 128 = ((n % 128 : Nat) : Int) := by omega
      rw [e1]
      congr 1
      · rw [Int.add_assoc]
        congr 1
        rw [← Int.natCast_mul, ← Int.natCast_mul, ← Int.natCast_mul, ← Int.natCast_add]
        congr 1
        rw [Nat.pow_succ, Nat.mul_comm (128 ^ i) 128, ← Nat.mul_assoc, ← Nat.add_mul]
        congr 1
        omega
      · congr 1
        omega
theorem take_put {a : Int} (h : 0 ≤ a ∧ a < 18446744073709551616) (rest : List Int) : takeS (putS a.toNat ++ rest) 0 0 = (a, ((putS a.toNat).length : Int), 0) := by
  rw [takeS_putS a.toNat 0 0 rest (by omega) (by simp; omega) (.inl rfl)]
  simp
  omega
end Go.Proofs.Yteogjahkccmfaaa.Base
