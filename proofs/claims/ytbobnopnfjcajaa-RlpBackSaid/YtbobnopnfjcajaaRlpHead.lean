/- What a head says: the program's words and the reference's, told as one plain function. -/
import Derived.Test.YtbobnopnfjcajaaRlp
import Derived.Test.YtbobnopnfjcajaaPx3
namespace Go.Proofs.Ytbobnopnfjcajaa.Base
set_option linter.unusedVariables false
set_option linter.unusedSimpArgs false
open Go Go.RowKit Go.Proofs.YtbobnopnfjcajaaW.PrintWords Go.Proofs.YtbobnopnfjcajaaW.PrintLast Go.Proofs.YtbobnopnfjcajaaW.PrintMore Go.Proofs.Ytbobnopnfjcajaa.P

theorem or_low {y x : Int} (hx : 0 ≤ x ∧ x < 256) (hy : 0 ≤ y ∧ y * 256 < 18446744073709551616) : Go.bits .or .u64 (y * 256) x = 256 * y + x := by
  obtain ⟨a, rfl⟩ := Int.eq_ofNat_of_zero_le hx.1
  obtain ⟨b, rfl⟩ := Int.eq_ofNat_of_zero_le hy.1
  have h1 : a < 2 ^ 8 := by omega
  have h2 : b * 2 ^ 8 < 18446744073709551616 := by omega
  rw [show (b : Int) * 256 = ((b * 2 ^ 8 : Nat) : Int) by omega]
  unfold Go.bits
  rw [wrapU64]
  have eo : BitVec.ofInt IntKind.u64.bits ((b * 2 ^ 8 : Nat) : Int) ||| BitVec.ofInt IntKind.u64.bits (a : Int) = BitVec.ofNat 64 (a + b * 2 ^ 8) := by
    apply BitVec.eq_of_toNat_eq
    rw [BitVec.toNat_or, BitVec.ofInt_natCast, BitVec.ofInt_natCast]
    simp only [IntKind.bits, BitVec.toNat_ofNat]
    rw [Nat.mod_eq_of_lt (by omega), Nat.mod_eq_of_lt (by omega)]
    have := Nat.shiftLeft_add_eq_or_of_lt h1 b
    rw [Nat.shiftLeft_eq] at this
    rw [← this, Nat.add_comm (b * _), Nat.mod_eq_of_lt (by omega)]
  have et : (BitVec.ofInt IntKind.u64.bits ((b * 2 ^ 8 : Nat) : Int) ||| BitVec.ofInt IntKind.u64.bits (a : Int)).toNat = a + b * 2 ^ 8 := by
    rw [eo]
    show (BitVec.ofNat 64 (a + b * 2 ^ 8)).toNat = _
    rw [BitVec.toNat_ofNat, Nat.mod_eq_of_lt (by omega)]
  show ((BitVec.ofInt IntKind.u64.bits ((b * 2 ^ 8 : Nat) : Int) ||| BitVec.ofInt IntKind.u64.bits (a : Int)).toNat : Int) % 18446744073709551616 = _
  rw [et]
  omega
/-- the number that bytes are, the highest first -/
def numS : List Int → Int → Int
  | [], n => n
  | x :: l, n => numS l (256 * n + x)
theorem numS_range {L : List Int} (hL : Bytes L) : ∀ n : Int, 0 ≤ n → n * ((256 ^ L.length : Nat) : Int) ≤ numS L n ∧ numS L n < (n + 1) * ((256 ^ L.length : Nat) : Int) := by
  induction L with
  | nil => intro n h; simp only [numS, List.length_nil, Nat.pow_zero]; omega
  | cons x L ih =>
    intro n h
    have hx := hL x List.mem_cons_self
    have := ih (fun y hy => hL y (List.mem_cons_of_mem _ hy)) (256 * n + x) (by omega)
    rw [numS, List.length_cons, Nat.pow_succ]
    have e : ((256 ^ L.length * 256 : Nat) : Int) = 256 * ((256 ^ L.length : Nat) : Int) := by omega
    have hp : (0 : Int) ≤ ((256 ^ L.length : Nat) : Int) := Int.natCast_nonneg _
    generalize ((256 ^ L.length : Nat) : Int) = P at *
    rw [e]
    refine ⟨?_, ?_⟩
    · refine Int.le_trans ?_ this.1
      rw [← Int.mul_assoc]
      refine Int.mul_le_mul_of_nonneg_right (by omega) hp
    · refine Int.lt_of_lt_of_le this.2 ?_
      rw [← Int.mul_assoc]
      refine Int.mul_le_mul_of_nonneg_right (by omega) hp
theorem num_eq {L : List Int} (hL : Bytes L) : ∀ n : Int, 0 ≤ n → (n + 1) * ((256 ^ L.length : Nat) : Int) ≤ 18446744073709551616 → rlp_reads.num L n = numS L n := by
  induction L with
  | nil => intro n h hn; rfl
  | cons x L ih =>
    intro n h hn
    have hx := hL x List.mem_cons_self
    rw [List.length_cons, Nat.pow_succ] at hn
    have e : ((256 ^ L.length * 256 : Nat) : Int) = 256 * ((256 ^ L.length : Nat) : Int) := by omega
    have hp : (1 : Int) ≤ ((256 ^ L.length : Nat) : Int) := by have := Nat.pow_pos (n := L.length) (show 0 < 256 by decide); omega
    rw [e, ← Int.mul_assoc] at hn
    have h2 : (n + 1) * 256 ≤ 18446744073709551616 := by
      refine Int.le_trans ?_ hn
      have := Int.mul_le_mul_of_nonneg_left hp (show (0 : Int) ≤ (n + 1) * 256 by omega)
      omega
    rw [rlp_reads.num, numS, wrapU64_id (n := n * 256) (by omega) (by omega), wrapU64_id (by omega) (by omega), or_low hx ⟨h, by omega⟩]
    refine ih (fun y hy => hL y (List.mem_cons_of_mem _ hy)) _ (by omega) ?_
    refine Int.le_trans (Int.mul_le_mul_of_nonneg_right (by omega) (by omega)) hn
theorem num_eq0 {L : List Int} (hL : Bytes L) (h8 : L.length ≤ 8) : rlp_reads.num L 0 = numS L 0 := by
  refine num_eq hL 0 (by omega) ?_
  have : (256 : Nat) ^ L.length ≤ 256 ^ 8 := Nat.pow_le_pow_right (by decide) h8
  have h2 : (256 : Nat) ^ 8 = 18446744073709551616 := by decide
  omega
theorem numS_snoc (L : List Int) (x : Int) : ∀ n, numS (L ++ [x]) n = 256 * numS L n + x := by
  induction L with
  | nil => intro n; rfl
  | cons y L ih => intro n; exact ih _
theorem numS_digS (n : Nat) : numS (digS n) 0 = (n : Int) := by
  induction n using Nat.strongRecOn with
  | ind n ih =>
    by_cases h0 : n = 0
    · rw [h0, digS_zero]; rfl
    · rw [digS_pos (by omega), numS_snoc, ih (n / 256) (by omega)]; omega
theorem digS_head (n : Nat) : ∀ (h : 0 < (digS n).length), 0 < (digS n)[0] := by
  induction n using Nat.strongRecOn with
  | ind n ih =>
    intro h
    by_cases h0 : n = 0
    · subst h0; rw [digS_zero] at h; simp at h
    · have e := digS_pos (n := n) (by omega)
      simp only [e]
      by_cases h1 : n / 256 = 0
      · simp only [h1, digS_zero, List.nil_append, List.getElem_cons_zero]; omega
      · have h2 : 0 < (digS (n / 256)).length := by rw [digS_pos (by omega)]; simp
        rw [List.getElem_append_left h2]
        exact ih (n / 256) (by omega) h2
/-- bytes with none of them 0 ahead are a number's -/
theorem digS_numS (j : Nat) : ∀ (L : List Int), L.length = j → Bytes L → (L.length = 0 ∨ 0 < rd L 0) → digS (numS L 0).toNat = L := by
  induction j with
  | zero =>
    intro L hl hL h0
    rw [List.eq_nil_of_length_eq_zero hl]
    exact digS_zero
  | succ j ih =>
    intro L hl hL h0
    obtain ⟨M, x, rfl⟩ : ∃ M x, L = M ++ [x] := ⟨L.dropLast, L.getLast (by intro e; rw [e] at hl; simp at hl), (List.dropLast_concat_getLast _).symm⟩
    rw [List.length_append, List.length_singleton] at hl
    have hx := hL x (by simp)
    have hM : Bytes M := fun y hy => hL y (by simp [hy])
    have h0' : M.length = 0 ∨ 0 < rd M 0 := by
      by_cases e : M.length = 0
      · exact .inl e
      · refine .inr ?_
        rcases h0 with h0 | h0
        · simp at h0
        · have e1 := rd_get (l := M) (i := 0) (by omega)
          have e2 := rd_get (l := M ++ [x]) (i := 0) (by simp)
          simp only [Int.natCast_zero] at e1 e2
          rw [e1]
          rw [e2, List.getElem_append_left (by omega)] at h0
          exact h0
    have h1 := ih M (by omega) hM h0'
    have hr := numS_range hM 0 (by omega)
    rw [numS_snoc]
    have hpos : 0 < (256 * numS M 0 + x).toNat := by
      rcases h0' with e | e
      · have := List.eq_nil_of_length_eq_zero e
        subst this
        rcases h0 with h0 | h0
        · simp at h0
        · have : rd ([] ++ [x]) 0 = x := by simp [rd]
          rw [this] at h0
          simp only [numS]; omega
      · by_cases hz : numS M 0 = 0
        · rw [hz] at h1
          simp only [Int.toNat_zero, digS_zero] at h1
          rw [← h1] at e
          simp [rd] at e
        · omega
    rw [digS_pos hpos, show (256 * numS M 0 + x).toNat / 256 = (numS M 0).toNat by omega, show (256 * numS M 0 + x).toNat % 256 = x.toNat by omega, h1, Int.toNat_of_nonneg hx.1]
/-- the reference's number, that goes on no further than it must -/
def refS : List Int → Int → Int
  | [], n => n
  | x :: l, n => refS l (if n ≤ 2147483648 then 256 * n + x else n)
theorem refS_range {L : List Int} (hL : Bytes L) : ∀ n : Int, 0 ≤ n ∧ n ≤ 549755814143 → 0 ≤ refS L n ∧ refS L n ≤ 549755814143 := by
  induction L with
  | nil => intro n h; exact h
  | cons x L ih =>
    intro n h
    have hx := hL x List.mem_cons_self
    refine ih (fun y hy => hL y (List.mem_cons_of_mem _ hy)) _ ?_
    split <;> omega
theorem refS_great {L : List Int} : ∀ n : Int, ¬ n ≤ 2147483648 → refS L n = n := by
  induction L with
  | nil => intro n h; rfl
  | cons x L ih => intro n h; rw [refS, if_neg h]; exact ih n h
theorem numS_le {L : List Int} (hL : Bytes L) (n : Int) (h : 0 ≤ n) : n ≤ numS L n := by
  have := (numS_range hL n h).1
  refine Int.le_trans ?_ this
  have hp : (1 : Int) ≤ ((256 ^ L.length : Nat) : Int) := by have := Nat.pow_pos (n := L.length) (show 0 < 256 by decide); omega
  have := Int.mul_le_mul_of_nonneg_left hp h
  omega
theorem refS_eq {L : List Int} (hL : Bytes L) : ∀ n : Int, 0 ≤ n → (numS L n ≤ 2147483648 → refS L n = numS L n) ∧ (numS L n > 2147483648 → refS L n > 2147483648) := by
  induction L with
  | nil => intro n h; exact ⟨fun _ => rfl, fun h => h⟩
  | cons x L ih =>
    intro n h
    have hx := hL x List.mem_cons_self
    have hL' : Bytes L := fun y hy => hL y (List.mem_cons_of_mem _ hy)
    rw [numS, refS]
    by_cases c : n ≤ 2147483648
    · rw [if_pos c]; exact ih hL' _ (by omega)
    · rw [if_neg c, refS_great n c]
      have := numS_le hL' (256 * n + x) (by omega)
      refine ⟨fun h => ?_, fun _ => ?_⟩ <;> omega
/-- of a head of 128 or more: where what is in it begins, how much that is, the fault -/
def hdS (b : List Int) : Nat × Nat × Int :=
  if (rd b 0).toNat - (if 192 ≤ rd b 0 then 192 else 128) ≤ 55 then (1, (rd b 0).toNat - (if 192 ≤ rd b 0 then 192 else 128), 0)
  else if b.length < 1 + ((rd b 0).toNat - (if 192 ≤ rd b 0 then 192 else 128) - 55) then (0, 0, 41)
  else if rd b 1 = 0 ∨ numS ((b.drop 1).take ((rd b 0).toNat - (if 192 ≤ rd b 0 then 192 else 128) - 55)) 0 ≤ 55 ∨ numS ((b.drop 1).take ((rd b 0).toNat - (if 192 ≤ rd b 0 then 192 else 128) - 55)) 0 > 2147483648 then (0, 0, 40)
  else (1 + ((rd b 0).toNat - (if 192 ≤ rd b 0 then 192 else 128) - 55), (numS ((b.drop 1).take ((rd b 0).toNat - (if 192 ≤ rd b 0 then 192 else 128) - 55)) 0).toNat, 0)
theorem reads_own {b : List Int} (hb : Bytes b) (hl : 0 < b.length) (hc : rd b 0 < 128) : rlp_reads.f b = some (false, 0, 1, true, false, 0) := by
  have := rd_bytes hb 0
  rw [rlp_reads.f, if_pos ⟨hl, this.1, this.2⟩, if_pos hc]
theorem reads_hd {b : List Int} (hb : Bytes b) (hl : 0 < b.length) (hc : ¬ rd b 0 < 128) :
    (hdS b).2.2 = 0 ∧ rlp_reads.f b = some (decide (192 ≤ rd b 0), ((hdS b).1 : Int), ((hdS b).2.1 : Int), false, false, 0) ∨ (hdS b).2.2 ≠ 0 ∧ ∃ x y z, rlp_reads.f b = some (x, y, z, false, false, (hdS b).2.2) := by
  have h0 := rd_bytes hb 0
  have key : ∀ (base : Nat), (base = if 192 ≤ rd b 0 then 192 else 128) → rlp_reads.f b = rlp_reads.long b (decide (192 ≤ rd b 0)) (base : Int) := by
    intro base e
    rw [rlp_reads.f, if_pos ⟨hl, h0.1, h0.2⟩, if_neg hc]
    by_cases h : 192 ≤ rd b 0
    · rw [if_pos h, e, if_pos h, decide_eq_true h]; rfl
    · rw [if_neg h, e, if_neg h, decide_eq_false h]; rfl
  obtain ⟨base, hbase⟩ : ∃ base : Nat, base = if 192 ≤ rd b 0 then 192 else 128 := ⟨_, rfl⟩
  rw [key base hbase]
  unfold hdS rlp_reads.long
  rw [← hbase]
  have hb1 : (base : Int) ≤ rd b 0 ∧ rd b 0 - base ≤ 63 := by split at hbase <;> omega
  by_cases h1 : (rd b 0).toNat - base ≤ 55
  · rw [if_pos h1, if_pos (show rd b 0 - (base : Int) ≤ 55 by omega)]
    refine .inl ⟨rfl, ?_⟩
    simp only [Option.some.injEq, Prod.mk.injEq, true_and, and_true]
    omega
  · rw [if_neg h1, if_neg (show ¬ rd b 0 - (base : Int) ≤ 55 by omega)]
    by_cases h2 : b.length < 1 + ((rd b 0).toNat - base - 55)
    · rw [if_pos h2, if_pos (show (b.length : Int) < 1 + (rd b 0 - (base : Int) - 55) by omega)]
      exact .inr ⟨by decide, _, _, _, rfl⟩
    · rw [if_neg h2, if_neg (show ¬ (b.length : Int) < 1 + (rd b 0 - (base : Int) - 55) by omega), show (rd b 0 - (base : Int) - 55).toNat = (rd b 0).toNat - base - 55 by omega]
      rw [num_eq0 ((hb.drop 1).take _) (by rw [List.length_take, List.length_drop]; omega)]
      by_cases h3 : rd b 1 = 0 ∨ numS ((b.drop 1).take ((rd b 0).toNat - base - 55)) 0 ≤ 55 ∨ numS ((b.drop 1).take ((rd b 0).toNat - base - 55)) 0 > 2147483648
      · rw [if_pos h3, if_pos h3]
        exact .inr ⟨by decide, _, _, _, rfl⟩
      · rw [if_neg h3, if_neg h3]
        refine .inl ⟨rfl, ?_⟩
        simp only [Option.some.injEq, Prod.mk.injEq, true_and, and_true]
        omega
/-- what a head that is right is made of -/
theorem hd_head {b : List Int} (hb : Bytes b) (hl : 0 < b.length) (hc : ¬ rd b 0 < 128) (h : (hdS b).2.2 = 0) :
    1 ≤ (hdS b).1 ∧ (hdS b).1 ≤ b.length ∧ (hdS b).1 ≤ 9 ∧ (hdS b).2.1 ≤ 2147483648 ∧ b.take (hdS b).1 = headS (if 192 ≤ rd b 0 then 192 else 128) (hdS b).2.1 := by
  have h0 := rd_bytes hb 0
  obtain ⟨base, hbase⟩ : ∃ base : Nat, base = if 192 ≤ rd b 0 then 192 else 128 := ⟨_, rfl⟩
  unfold hdS at h ⊢
  rw [← hbase] at h ⊢
  have hb1 : (base : Int) ≤ rd b 0 ∧ rd b 0 - base ≤ 63 := by split at hbase <;> omega
  have hcons : b = rd b 0 :: b.drop 1 := by
    have := drop_cons (l := b) (i := 0) hl
    simpa using this
  by_cases h1 : (rd b 0).toNat - base ≤ 55
  · rw [if_pos h1]
    refine ⟨by simp, by simp; omega, by simp, by simp; omega, ?_⟩
    simp only
    unfold headS
    rw [if_pos h1]
    have : b.take 1 = [rd b 0] := by rw [hcons]; simp [rd]
    rw [this]
    congr 1
    omega
  · rw [if_neg h1] at h ⊢
    by_cases h2 : b.length < 1 + ((rd b 0).toNat - base - 55)
    · rw [if_pos h2] at h; exact absurd h (by decide)
    · rw [if_neg h2] at h ⊢
      by_cases h3 : rd b 1 = 0 ∨ numS ((b.drop 1).take ((rd b 0).toNat - base - 55)) 0 ≤ 55 ∨ numS ((b.drop 1).take ((rd b 0).toNat - base - 55)) 0 > 2147483648
      · rw [if_pos h3] at h; exact absurd h (by decide)
      · rw [if_neg h3] at h ⊢
        refine ⟨by dsimp only; omega, by dsimp only; omega, by dsimp only; omega, by dsimp only; omega, ?_⟩
        simp only
        have hBt := (hb.drop 1).take ((rd b 0).toNat - base - 55)
        have hlt : ((b.drop 1).take ((rd b 0).toNat - base - 55)).length = (rd b 0).toNat - base - 55 := by rw [List.length_take, List.length_drop]; omega
        have hdg := digS_numS _ _ rfl hBt (.inr (by
          have e1 := rd_get (l := b) (i := 1) (by omega)
          have e2 := rd_get (l := (b.drop 1).take ((rd b 0).toNat - base - 55)) (i := 0) (by omega)
          have h4 := rd_bytes hb 1
          simp only [Int.natCast_zero, Int.natCast_one] at e1 e2
          rw [e2]
          simp only [List.getElem_take, List.getElem_drop]
          have e3 : b[1 + 0]'(by omega) = rd b 1 := by rw [e1]
          rw [e3]; omega))
        unfold headS
        rw [if_neg (by omega), hdg, hlt]
        rw [Nat.add_comm 1, hcons]
        simp only [List.take_succ_cons, List.drop_succ_cons, List.drop_zero]
        have e5 : rd (rd b 0 :: b.drop 1) 0 = rd b 0 := by simp [rd]
        congr 1
        omega
/-- and the other way -/
theorem hd_of {base n : Nat} (hbase : base = 192 ∨ base = 128) (hn : n ≤ 2147483648) (more : List Int) :
    ¬ rd (headS base n ++ more) 0 < 128 ∧ decide (192 ≤ rd (headS base n ++ more) 0) = decide (base = 192) ∧ hdS (headS base n ++ more) = ((headS base n).length, n, 0) := by
  have hl8 := digS_length 8 n (by have : (256 : Nat) ^ 8 = 18446744073709551616 := by decide
                                  rw [this]; omega)
  by_cases h1 : n ≤ 55
  · have e : headS base n = [((base + n : Nat) : Int)] := by unfold headS; rw [if_pos h1]
    have er : rd (headS base n ++ more) 0 = ((base + n : Nat) : Int) := by rw [e]; simp [rd]
    have hd : (if 192 ≤ rd (headS base n ++ more) 0 then 192 else 128) = base := by
      rw [er]; split <;> omega
    refine ⟨by rw [er]; omega, by rw [er]; exact decide_eq_decide.mpr (by omega), ?_⟩
    unfold hdS
    rw [hd, er, if_pos (by omega), e]
    simp only [List.length_singleton, Prod.mk.injEq, true_and, and_true]
    omega
  · have e : headS base n = ((base + 55 + (digS n).length : Nat) : Int) :: digS n := by unfold headS; rw [if_neg h1]
    have er : rd (headS base n ++ more) 0 = ((base + 55 + (digS n).length : Nat) : Int) := by rw [e]; simp [rd]
    have hpos : 0 < (digS n).length := by rw [digS_pos (by omega)]; simp
    have hl4 := digS_length 4 n (by have : (256 : Nat) ^ 4 = 4294967296 := by decide
                                    rw [this]; omega)
    have hd : (if 192 ≤ rd (headS base n ++ more) 0 then 192 else 128) = base := by
      rw [er]; split <;> omega
    refine ⟨by rw [er]; omega, by rw [er]; exact decide_eq_decide.mpr (by omega), ?_⟩
    have ek : ((((base + 55 + (digS n).length : Nat) : Int)).toNat - base - 55) = (digS n).length := by omega
    have et : ((headS base n ++ more).drop 1).take (digS n).length = digS n := by rw [e]; simp
    have e1 : 0 < rd (headS base n ++ more) 1 := by
      have h := digS_head n hpos
      have e2 := rd_get (l := headS base n ++ more) (i := 1) (by rw [e]; simp; omega)
      simp only [Int.natCast_one] at e2
      rw [e2]
      simp only [e, List.cons_append, List.getElem_cons_succ]
      rw [List.getElem_append_left hpos]
      exact h
    unfold hdS
    rw [hd, er, ek, et, numS_digS, if_neg (by omega), if_neg (by rw [List.length_append, e, List.length_cons]; omega), if_neg (by omega), e]
    simp only [List.length_cons, Prod.mk.injEq, and_true]
    omega
end Go.Proofs.Ytbobnopnfjcajaa.Base
