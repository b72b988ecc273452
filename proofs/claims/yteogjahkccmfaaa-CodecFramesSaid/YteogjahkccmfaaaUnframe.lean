/- A frame read: its sum, its length, its body; or the first fault. By the program and by the document. -/
import Derived.Test.YteogjahkccmfaaaTake
import Derived.Test.YteogjahkccmfaaaCrc
import Derived.Test.YteogjahkccmfaaaPx26
import Derived.Test.YteogjahkccmfaaaPx28
namespace Go.Proofs.Yteogjahkccmfaaa.Base
open Go Go.RowKit Go.Proofs.YteogjahkccmfaaaW.PrintWords Go.Proofs.YteogjahkccmfaaaW.PrintLast Go.Proofs.YteogjahkccmfaaaW.PrintMore Go.Proofs.Yteogjahkccmfaaa.P

theorem unf_leVal4 {l : List Int} (hl : Bytes l) : 0 ≤ leVal (l.take 4) ∧ leVal (l.take 4) < 4294967296 := by
  have := leVal_range (hl.take 4)
  have p : (256 : Nat) ^ (l.take 4).length ≤ 256 ^ 4 := Nat.pow_le_pow_right (by decide) (by rw [List.length_take]; omega)
  have e : (256 : Nat) ^ 4 = 4294967296 := by decide
  omega
theorem unf_unfixed4_conv {l : List Int} (hl : Bytes l) (h : 4 ≤ l.length) : Conv (fun k => codec_Unfixed4.f k l) (leVal (l.take 4), 0) := by
  unfold codec_Unfixed4.f
  refine Conv.bind (unfixed_conv hl 4 (by omega) (by omega)) (Conv.eq (Conv.pure _) ?_)
  have := unf_leVal4 hl
  rw [Int.emod_eq_of_lt (by omega) (by omega)]
theorem unf_unfixed4_short {l : List Int} (h : l.length < 4) : Conv (fun k => codec_Unfixed4.f k l) (0, 20) := by
  unfold codec_Unfixed4.f
  exact Conv.bind (unfixed_short 4 (by omega)) (Conv.eq (Conv.pure _) (by decide))
theorem takeS_range {l : List Int} (hl : Bytes l) : ∀ (i : Nat) (acc : Int), i ≤ 9 ∨ l = [] → 0 ≤ acc ∧ acc < ((128 ^ i : Nat) : Int) →
    0 ≤ (takeS l i acc).1 ∧ (takeS l i acc).1 < 18446744073709551616 ∧ 0 ≤ (takeS l i acc).2.1 ∧ (takeS l i acc).2.1 ≤ i + l.length ∧ ((takeS l i acc).2.2 = 0 ∨ (takeS l i acc).2.1 = 0) := by
  induction l with
  | nil => intro i acc _ _; simp [takeS]
  | cons c l ih =>
    intro i acc h9 ha
    have h9 : i ≤ 9 := h9.resolve_right (by simp)
    have hb := hl c List.mem_cons_self
    simp only [takeS]
    split
    · simp; omega
    · rename_i hn
      obtain ⟨p1, p2, p3, p4⟩ := part h9 hb hn ha
      split
      · refine ⟨p1, p3, ?_⟩
        simp; omega
      · have := ih (fun x hx => hl x (List.mem_cons_of_mem _ hx)) (i + 1) _ (by omega) ⟨p1, p2⟩
        simp only [List.length_cons]
        omega

/-- what is read of a row as a frame -/
def unframe (l : List Int) : List Int × Int × Int :=
  if l.length < 4 then ([], 0, 20)
  else if (takeS (l.drop 4) 0 0).2.2 ≠ 0 then ([], 0, (takeS (l.drop 4) 0 0).2.2)
  else if 1048576 < (takeS (l.drop 4) 0 0).1 then ([], 0, 21)
  else if (l.length : Int) < 4 + (takeS (l.drop 4) 0 0).2.1 + (takeS (l.drop 4) 0 0).1 then ([], 0, 20)
  else if leVal (l.take 4) = ((crc ((l.drop (4 + (takeS (l.drop 4) 0 0).2.1.toNat)).take (takeS (l.drop 4) 0 0).1.toNat)).toNat : Int)
    then ((l.drop (4 + (takeS (l.drop 4) 0 0).2.1.toNat)).take (takeS (l.drop 4) 0 0).1.toNat, 4 + (takeS (l.drop 4) 0 0).2.1 + (takeS (l.drop 4) 0 0).1, 0)
    else ([], 0, 22)
theorem unframe_bytes {l : List Int} (hl : Bytes l) : Bytes (unframe l).1 := by
  have nil : Bytes ([] : List Int) := by intro x hx; cases hx
  unfold unframe
  split
  · exact nil
  · split
    · exact nil
    · split
      · exact nil
      · split
        · exact nil
        · split
          · exact (hl.drop _).take _
          · exact nil
theorem unframe_conv {l : List Int} (hl : Bytes l) (hlen : l.length < 140737488355328) : Conv (fun k => codec_Unframe.f k l) (unframe l) := by
  unfold codec_Unframe.f
  by_cases h4 : l.length < 4
  · refine Conv.bind (unf_unfixed4_short h4) (Conv.iteF (by decide) (Conv.eq (Conv.pure _) ?_))
    unfold unframe; rw [if_pos h4]
  · refine Conv.bind (unf_unfixed4_conv hl (by omega)) (Conv.iteT (by trivial) (Conv.iteT (by omega) ?_))
    refine Conv.bind (take_conv (hl.drop 4) (by rw [List.length_drop]; omega)) ?_
    have hr := takeS_range (hl.drop 4) 0 0 (by omega) (by decide)
    rw [List.length_drop] at hr
    have hu : unframe l = if (takeS (l.drop 4) 0 0).2.2 ≠ 0 then ([], 0, (takeS (l.drop 4) 0 0).2.2)
      else if 1048576 < (takeS (l.drop 4) 0 0).1 then ([], 0, 21)
      else if (l.length : Int) < 4 + (takeS (l.drop 4) 0 0).2.1 + (takeS (l.drop 4) 0 0).1 then ([], 0, 20)
      else if leVal (l.take 4) = ((crc ((l.drop (4 + (takeS (l.drop 4) 0 0).2.1.toNat)).take (takeS (l.drop 4) 0 0).1.toNat)).toNat : Int)
        then ((l.drop (4 + (takeS (l.drop 4) 0 0).2.1.toNat)).take (takeS (l.drop 4) 0 0).1.toNat, 4 + (takeS (l.drop 4) 0 0).2.1 + (takeS (l.drop 4) 0 0).1, 0)
        else ([], 0, 22) := by
      conv => lhs; unfold unframe
      rw [if_neg h4]
    rw [hu]
    generalize ht : takeS (l.drop 4) 0 0 = t at hr
    obtain ⟨v, n, e⟩ := t
    simp only at hr ⊢
    have em : mn (l.length : Int) (wrap64 (4 + n)) = 4 + n := by
      unfold mn
      rw [wrap64_id (by omega) (by omega)]
      split <;> omega
    have en : (4 + n).toNat = 4 + n.toNat := by omega
    rw [em, en, wrap64_id (n := 4 + n) (by omega) (by omega)]
    refine Conv.iteT (by omega) (Conv.iteT (by omega) ?_)
    have hd : ((l.drop (4 + n.toNat)).length : Int) = l.length - (4 + n) := by rw [List.length_drop]; omega
    by_cases he : e = 0
    · subst he
      rw [if_neg (c := (0 : Int) ≠ 0) (by decide)]
      refine Conv.iteT (by trivial) ?_
      by_cases c1 : 1048576 < v
      · rw [if_pos c1]
        exact Conv.iteT c1 (Conv.pure _)
      · rw [if_neg (c := 1048576 < v) c1]
        refine Conv.iteF c1 ?_
        rw [hd, wrapU64_id (n := (l.length : Int) - (4 + n)) (by omega) (by omega)]
        by_cases c2 : (l.length : Int) < 4 + n + v
        · rw [if_pos (c := (l.length : Int) < 4 + n + v) c2]
          exact Conv.iteT (by omega) (Conv.pure _)
        · rw [if_neg (c := (l.length : Int) < 4 + n + v) c2]
          refine Conv.iteF (by omega) (Conv.iteT (by omega) (Conv.iteT (by omega) ?_))
          have hb : Bytes ((l.drop (4 + n.toNat)).take v.toNat) := (hl.drop _).take _
          have hbl : ((l.drop (4 + n.toNat)).take v.toNat).length < 140737488355328 := by rw [List.length_take, List.length_drop]; omega
          refine Conv.bind (sum_conv hb (by omega)) ?_
          by_cases c3 : leVal (l.take 4) = ((crc ((l.drop (4 + n.toNat)).take v.toNat)).toNat : Int)
          · rw [if_pos (c := leVal (l.take 4) = _) c3]
            refine Conv.iteT c3.symm ?_
            refine Conv.bindc (x := bytes_Clone.f _) (a := (l.drop (4 + n.toNat)).take v.toNat) (by unfold bytes_Clone.f; rw [if_pos hbl]) ?_
            rw [wrap64_id (n := v) (by omega) (by omega), wrap64_id (by omega) (by omega)]
            exact Conv.pure _
          · rw [if_neg (c := leVal (l.take 4) = _) c3]
            exact Conv.iteF (fun h => c3 h.symm) (Conv.pure _)
    · rw [if_pos (c := e ≠ 0) he]
      exact Conv.iteF he (Conv.pure _)
theorem runframe_conv {l : List Int} (hl : Bytes l) (hlen : l.length < 140737488355328) : Conv (fun k => moraineref2_Unframe.f k l) (unframe l) := by
  unfold moraineref2_Unframe.f
  by_cases h4 : l.length < 4
  · refine Conv.iteT (by omega) (Conv.eq (Conv.pure _) ?_)
    unfold unframe; rw [if_pos h4]
  · refine Conv.iteF (by omega) ?_
    refine Conv.bind (rtake_conv hl (by omega) 4 (by omega)) ?_
    have hr := takeS_range (hl.drop 4) 0 0 (by omega) (by decide)
    rw [List.length_drop] at hr
    have hu : unframe l = if (takeS (l.drop 4) 0 0).2.2 ≠ 0 then ([], 0, (takeS (l.drop 4) 0 0).2.2)
      else if 1048576 < (takeS (l.drop 4) 0 0).1 then ([], 0, 21)
      else if (l.length : Int) < 4 + (takeS (l.drop 4) 0 0).2.1 + (takeS (l.drop 4) 0 0).1 then ([], 0, 20)
      else if leVal (l.take 4) = ((crc ((l.drop (4 + (takeS (l.drop 4) 0 0).2.1.toNat)).take (takeS (l.drop 4) 0 0).1.toNat)).toNat : Int)
        then ((l.drop (4 + (takeS (l.drop 4) 0 0).2.1.toNat)).take (takeS (l.drop 4) 0 0).1.toNat, 4 + (takeS (l.drop 4) 0 0).2.1 + (takeS (l.drop 4) 0 0).1, 0)
        else ([], 0, 22) := by
      conv => lhs; unfold unframe
      rw [if_neg h4]
    rw [hu]
    generalize ht : takeS (l.drop 4) 0 0 = t at hr
    obtain ⟨v, n, e⟩ := t
    simp only at hr ⊢
    by_cases he : e = 0
    · subst he
      rw [if_neg (c := (0 : Int) ≠ 0) (by decide)]
      refine Conv.iteT (by trivial) ?_
      by_cases c1 : 1048576 < v
      · rw [if_pos c1]
        exact Conv.iteT c1 (Conv.pure _)
      · rw [if_neg (c := 1048576 < v) c1]
        refine Conv.iteF c1 ?_
        rw [wrap64_id (n := 4 + n) (by omega) (by omega), wrap64_id (n := v) (by omega) (by omega), wrap64_id (n := 4 + n + v) (by omega) (by omega)]
        by_cases c2 : (l.length : Int) < 4 + n + v
        · rw [if_pos (c := (l.length : Int) < 4 + n + v) c2]
          exact Conv.iteT (by omega) (Conv.pure _)
        · rw [if_neg (c := (l.length : Int) < 4 + n + v) c2]
          refine Conv.iteF (by omega) ?_
          have hf := runfixed_conv hl 0 4 (by omega) (by omega) (by omega)
          rw [List.drop_zero] at hf
          refine Conv.bind hf (Conv.iteT (by omega) (Conv.iteT (by omega) (Conv.iteT (by omega) ?_)))
          have ec : (l.take (4 + n + v).toNat).drop (4 + n).toNat = (l.drop (4 + n.toNat)).take v.toNat := by
            have e1 : (4 + n).toNat = 4 + n.toNat := by omega
            have e2 : (4 + n + v).toNat = 4 + n.toNat + v.toNat := by omega
            rw [e1, e2, List.drop_take, Nat.add_sub_cancel_left]
          rw [ec]
          refine Conv.bindc rfl ?_
          have hb : Bytes ((l.drop (4 + n.toNat)).take v.toNat) := (hl.drop _).take _
          have hbl : ((l.drop (4 + n.toNat)).take v.toNat).length < 140737488355328 := by rw [List.length_take, List.length_drop]; omega
          refine Conv.bind (rsum_conv hb (by omega)) ?_
          have hc := (crc ((l.drop (4 + n.toNat)).take v.toNat)).isLt
          rw [wrapU64_id (by omega) (by omega)]
          by_cases c3 : leVal (l.take 4) = ((crc ((l.drop (4 + n.toNat)).take v.toNat)).toNat : Int)
          · exact Conv.iteT c3 (Conv.eq (Conv.pure _) (by rw [if_pos c3]))
          · exact Conv.iteF c3 (Conv.eq (Conv.pure _) (by rw [if_neg c3]))
    · rw [if_pos (c := e ≠ 0) he]
      exact Conv.iteF he (Conv.pure _)
end Go.Proofs.Yteogjahkccmfaaa.Base
