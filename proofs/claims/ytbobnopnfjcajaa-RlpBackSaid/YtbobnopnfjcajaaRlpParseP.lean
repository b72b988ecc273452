/- Items read by the program: what is told of any bytes. -/
import Derived.Test.YtbobnopnfjcajaaRlpHead
import Derived.Test.YtbobnopnfjcajaaRlpCnt
import Derived.Test.YtbobnopnfjcajaaPx4
namespace Go.Proofs.Ytbobnopnfjcajaa.Base
set_option linter.unusedVariables false
set_option linter.unusedSimpArgs false
open Go Go.RowKit Go.Proofs.YtbobnopnfjcajaaW.PrintWords Go.Proofs.YtbobnopnfjcajaaW.PrintLast Go.Proofs.YtbobnopnfjcajaaW.PrintMore Go.Proofs.Ytbobnopnfjcajaa.P

/-- one item at the beginning -/
def PAp (b : List Int) : Prop := Bytes b → b.length ≤ 65536 → ∀ m d : Int, 0 ≤ m ∧ m ≤ 4096 → 1 ≤ d ∧ d ≤ 17 → ∃ (x : S25) (n : Nat) (e m' : Int), 0 ≤ m' ∧ m' ≤ 4096 ∧
  Conv (fun k => rlp_walker_first.f k m b d) (x.f0, x.f1, x.f2, (n : Int), e, m') ∧
  (e ≠ 0 → x = ⟨false, [], []⟩ ∧ n = 0) ∧ (e = 0 → 1 ≤ n ∧ n ≤ b.length ∧ encS x = b.take n ∧ sizeS x m d = ((n : Int), 0, m'))
/-- items to the end -/
def PLp (b : List Int) : Prop := Bytes b → b.length ≤ 65536 → ∀ m d : Int, 0 ≤ m ∧ m ≤ 4096 → 1 ≤ d ∧ d ≤ 16 → ∃ (l : List S25) (e m' : Int), 0 ≤ m' ∧ m' ≤ 4096 ∧
  (∀ (acc : List S25) (E : Int), acc.length + b.length ≤ 65536 → Conv (fun k => rlp_walker_first.l0 k d b E m true acc) (if e = 0 then (true, [], acc ++ l, E, 0, m') else (false, [], [], 0, e, m'))) ∧
  (e = 0 → encL l = b ∧ ∀ s : Int, 0 ≤ s → sizeL l m (d + 1) s = (s + (b.length : Int) + ((headS 0 (s + (b.length : Int)).toNat).length : Int), 0, m'))
theorem plp_of (b : List Int) (ha : PAp b) (ih : ∀ c : List Int, c.length < b.length → PLp c) : PLp b := by
  intro hb hl m d hm hd
  by_cases h0 : b.length = 0
  · have hb0 := List.eq_nil_of_length_eq_zero h0
    subst hb0
    refine ⟨[], 0, m, hm.1, hm.2, fun acc E hacc => Conv.succ ?_, fun _ => ⟨by rw [encL], fun s hs => by rw [sizeL]; simp⟩⟩
    · simp only [rlp_walker_first.l0]
      exact Conv.iteF (by simp) (Conv.eq (Conv.pure _) (by simp))
  · obtain ⟨⟨xb, xs, xl⟩, n, e, m1, hm1, hm2, hp, hbad, hok⟩ := ha hb hl m (d + 1) hm (by omega)
    by_cases h1 : e = 0
    · subst h1
      obtain ⟨hn1, hn2, henc, hsz⟩ := hok rfl
      obtain ⟨l, e, m2, hm3, hm4, hp2, hok2⟩ := ih (b.drop n) (by rw [List.length_drop]; omega) (hb.drop n) (by rw [List.length_drop]; omega) m1 d ⟨hm1, hm2⟩ hd
      refine ⟨⟨xb, xs, xl⟩ :: l, e, m2, hm3, hm4, fun acc E hacc => Conv.succ ?_, fun he => ?_⟩
      · simp only [rlp_walker_first.l0]
        rw [wrap64_id (n := d + 1) (by omega) (by omega)]
        refine Conv.iteT (by omega) (Conv.bind hp (Conv.iteT rfl (Conv.iteT (by omega) (Conv.iteT (by dsimp only; omega) (Conv.iteT (by dsimp only; omega) ?_)))))
        dsimp only
        have := hp2 (acc ++ [⟨xb, xs, xl⟩]) E (by rw [List.length_append, List.length_drop, List.length_singleton]; omega)
        rw [List.append_assoc, List.singleton_append] at this
        rw [Int.toNat_natCast]
        exact this
      · obtain ⟨k1, k2⟩ := hok2 he
        refine ⟨by rw [encL, henc, k1, List.take_append_drop], fun s hs => ?_⟩
        rw [sizeL, hsz]
        simp only
        rw [if_pos trivial, k2 (s + n) (by omega), List.length_drop, show s + (n : Int) + ((b.length - n : Nat) : Int) = s + (b.length : Int) by omega]
    · refine ⟨[], e, m1, hm1, hm2, fun acc E hacc => Conv.succ ?_, fun he => absurd he h1⟩
      · simp only [rlp_walker_first.l0]
        rw [wrap64_id (n := d + 1) (by omega) (by omega), if_neg h1]
        exact Conv.iteT (by omega) (Conv.bind hp (Conv.iteF h1 (Conv.pure _)))
theorem pap_of (b : List Int) (ih : ∀ c : List Int, c.length < b.length → PLp c) : PAp b := by
  intro hb hl m d hm hd
  by_cases h0 : b.length = 0
  · have hb0 := List.eq_nil_of_length_eq_zero h0
    subst hb0
    refine ⟨⟨false, [], []⟩, 0, 41, m, hm.1, hm.2, Conv.succ ?_, fun _ => ⟨rfl, rfl⟩, fun h => absurd h (by decide)⟩
    · simp only [rlp_walker_first.f]
      exact Conv.iteT (by simp) (Conv.pure _)
  by_cases hdeep : d > 16 ∨ m = 4096
  · refine ⟨⟨false, [], []⟩, 0, 43, m, hm.1, hm.2, Conv.succ ?_, fun _ => ⟨rfl, rfl⟩, fun h => absurd h (by decide)⟩
    · simp only [rlp_walker_first.f]
      refine Conv.iteF (by omega) (Conv.bindc (a := (43, m)) ?_ (Conv.iteF (show ¬ (43 : Int) = 0 by decide) (Conv.pure _)))
      unfold rlp_walker_meets.f
      by_cases h : d > 16
      · rw [if_pos h]
      · rw [if_neg h, if_pos (by omega)]
  have hmeets : rlp_walker_meets.f m d = some (0, m + 1) := by
    unfold rlp_walker_meets.f
    rw [if_neg (by omega), if_neg (by omega), wrap64_id (by omega) (by omega)]
  by_cases hc : rd b 0 < 128
  · have hr0 := rd_bytes hb 0
    have ht1 : b.take 1 = [rd b 0] := by
      have := drop_cons (l := b) (i := 0) (by omega)
      rw [List.drop_zero] at this
      rw [this]; simp [rd]
    refine ⟨⟨false, [rd b 0], []⟩, 1, 0, m + 1, by omega, by omega, Conv.succ ?_, fun h => absurd rfl h, fun _ => ⟨by omega, by omega, ?_, ?_⟩⟩
    · simp only [rlp_walker_first.f]
      refine Conv.iteF (by omega) (Conv.bindc hmeets (Conv.iteT rfl (Conv.bindc (reads_own hb (by omega) hc) (Conv.iteT rfl ?_))))
      simp only
      rw [wrap64_id (n := (b.length : Int) - 0) (by omega) (by omega), wrap64_id (n := (0 : Int) + 1) (by omega) (by omega)]
      refine Conv.iteF (by omega) (Conv.iteT (by omega) (Conv.iteT (by omega) (Conv.iteT (by omega) (Conv.bindc rfl (Conv.iteF (by decide) (Conv.iteT trivial ?_))))))
      refine Conv.bindc (a := [rd b 0]) ?_ (Conv.pure _)
      unfold bytes_Clone.f
      simp only [Int.toNat_zero, List.drop_zero, show (0 + 1 : Int).toNat = 1 by decide, ht1]
      rw [if_pos (by simp)]
    · have ho : ownS [rd b 0] = true := decide_eq_true ⟨rfl, by simpa [rd] using hc⟩
      rw [encS, if_neg (by decide), if_pos ho, ht1]
    · have ho : ownS [rd b 0] = true := decide_eq_true ⟨rfl, by simpa [rd] using hc⟩
      rw [sizeS, if_neg hdeep, if_neg (by simp), if_pos ho]
      rfl
  have hbl : 0 < b.length := by omega
  rcases reads_hd hb hbl hc with ⟨he, hrd⟩ | ⟨he, x1, x2, x3, hrd⟩
  case inr =>
    refine ⟨⟨false, [], []⟩, 0, (hdS b).2.2, m + 1, by omega, by omega, Conv.succ ?_, fun _ => ⟨rfl, rfl⟩, fun h => absurd h he⟩
    · simp only [rlp_walker_first.f]
      exact Conv.iteF (by omega) (Conv.bindc hmeets (Conv.iteT rfl (Conv.bindc hrd (Conv.iteF he (Conv.pure _)))))
  case inl =>
    obtain ⟨hh1, hh2, hh3, hh4, hh5⟩ := hd_head hb hbl hc he
    obtain ⟨a0, ha0⟩ : ∃ a0, a0 = (hdS b).1 := ⟨_, rfl⟩
    obtain ⟨n0, hn0⟩ : ∃ n0, n0 = (hdS b).2.1 := ⟨_, rfl⟩
    rw [← ha0, ← hn0] at hrd hh5
    rw [← ha0] at hh1 hh2 hh3
    rw [← hn0] at hh4
    by_cases hlong : b.length - a0 < n0
    · refine ⟨⟨false, [], []⟩, 0, 41, m + 1, by omega, by omega, Conv.succ ?_, fun _ => ⟨rfl, rfl⟩, fun h => absurd h (by decide)⟩
      · simp only [rlp_walker_first.f]
        refine Conv.iteF (by omega) (Conv.bindc hmeets (Conv.iteT rfl (Conv.bindc hrd (Conv.iteT rfl ?_))))
        simp only
        rw [wrap64_id (n := (b.length : Int) - a0) (by omega) (by omega)]
        exact Conv.iteT (by omega) (Conv.pure _)
    obtain ⟨inn, hinn⟩ : ∃ inn, inn = (b.take (a0 + n0)).drop a0 := ⟨_, rfl⟩
    have hil : inn.length = n0 := by rw [hinn, List.length_drop, List.length_take]; omega
    have hib : Bytes inn := by rw [hinn]; exact (hb.take _).drop _
    have htk : b.take (a0 + n0) = b.take a0 ++ inn := by
      have := List.take_append_drop a0 (b.take (a0 + n0))
      rw [List.take_take, Nat.min_eq_left (by omega)] at this
      rw [hinn, this]
    have prog : ∀ v, Conv (fun k => (if decide (192 ≤ rd b 0) = true then (rlp_walker_first.l0 k d inn ((a0 + n0 : Nat) : Int) (m + 1) true ([] : List (S25))) else ((rlp_own.f inn).bind fun t183 => (if t183 = true then (some (false, ([] : List Int), ([] : List (S25)), 0, 40, m + 1)) else ((bytes_Clone.f inn).bind fun t184 => (some (false, t184, ([] : List (S25)), ((a0 + n0 : Nat) : Int), 0, m + 1))))))) v → Conv (fun k => rlp_walker_first.f k m b d) v := by
      intro v hv
      refine Conv.succ ?_
      simp only [rlp_walker_first.f]
      refine Conv.iteF (by omega) (Conv.bindc hmeets (Conv.iteT rfl (Conv.bindc hrd (Conv.iteT rfl ?_))))
      simp only
      rw [wrap64_id (n := (b.length : Int) - a0) (by omega) (by omega), wrap64_id (n := (a0 : Int) + n0) (by omega) (by omega)]
      refine Conv.iteF (by omega) (Conv.iteT (by omega) (Conv.iteT (by omega) (Conv.iteT (by omega) (Conv.bindc (a := inn) ?_ ?_))))
      · rw [hinn, show ((a0 : Int) + (n0 : Int)).toNat = a0 + n0 by omega, Int.toNat_natCast]
      · rw [show (a0 : Int) + (n0 : Int) = ((a0 + n0 : Nat) : Int) by omega]
        simpa only [Bool.false_eq_true, if_false] using hv
    by_cases hlist : 192 ≤ rd b 0
    · have hhd : b.take a0 = headS 192 n0 := by rw [hh5, if_pos hlist]
      obtain ⟨l, e, m2, hm3, hm4, hp2, hok2⟩ := ih inn (by omega) hib (by omega) (m + 1) d (by omega) (by omega)
      have hp3 := hp2 [] ((a0 + n0 : Nat) : Int) (by simp; omega)
      by_cases h1 : e = 0
      · subst h1
        rw [if_pos rfl, List.nil_append] at hp3
        obtain ⟨k1, k2⟩ := hok2 rfl
        refine ⟨⟨true, [], l⟩, a0 + n0, 0, m2, hm3, hm4, prog _ (Conv.iteT (decide_eq_true hlist) hp3), fun h => absurd rfl h, fun _ => ⟨by omega, by omega, ?_, ?_⟩⟩
        · rw [encS, if_pos rfl, k1, hil, htk, hhd]
        · have hq : ¬ ownS [] = true := fun h => absurd (of_decide_eq_true h).1 (by simp)
          rw [sizeS, if_neg hdeep, if_neg (by simp), if_neg hq]
          have := k2 0 (by omega)
          simp only [List.length_nil, Int.natCast_zero]
          rw [this, Int.zero_add, hil, Int.toNat_natCast]
          have hl3 : (headS 0 n0).length = a0 := by rw [headS_length 0 192, ← hhd, List.length_take]; omega
          rw [hl3]
          simp only [Prod.mk.injEq, and_true]
          omega
      · rw [if_neg h1] at hp3
        refine ⟨⟨false, [], []⟩, 0, e, m2, hm3, hm4, prog _ (Conv.iteT (decide_eq_true hlist) hp3), fun _ => ⟨rfl, rfl⟩, fun h => absurd h h1⟩
    · have hhd : b.take a0 = headS 128 n0 := by rw [hh5, if_neg hlist]
      by_cases ho : ownS inn = true
      · refine ⟨⟨false, [], []⟩, 0, 40, m + 1, by omega, by omega, prog _ (Conv.iteF (by rw [decide_eq_false hlist]; decide) (Conv.bindc (own_eq inn) (Conv.iteT ho (Conv.pure _)))), fun _ => ⟨rfl, rfl⟩, fun h => absurd h (by decide)⟩
      · have hcl : bytes_Clone.f inn = some inn := by unfold bytes_Clone.f; rw [if_pos (by omega)]
        refine ⟨⟨false, inn, []⟩, a0 + n0, 0, m + 1, by omega, by omega, prog _ (Conv.iteF (by rw [decide_eq_false hlist]; decide) (Conv.bindc (own_eq inn) (Conv.iteF ho (Conv.bindc hcl (Conv.pure _))))), fun h => absurd rfl h, fun _ => ⟨by omega, by omega, ?_, ?_⟩⟩
        · rw [encS, if_neg (by decide), if_neg ho, hil, htk, hhd]
        · have hl3 : (headS 0 n0).length = a0 := by rw [headS_length 0 128, ← hhd, List.length_take]; omega
          rw [sizeS, if_neg hdeep, if_neg (by simp), if_neg ho, sizeL, hil, Int.toNat_natCast, hl3]
          simp only [Prod.mk.injEq, and_true]
          omega
theorem plp_all (j : Nat) : ∀ b : List Int, b.length ≤ j → PLp b := by
  induction j with
  | zero => intro b hb; exact plp_of b (pap_of b fun c hc => by omega) fun c hc => by omega
  | succ j ih => intro b hb; exact plp_of b (pap_of b fun c hc => ih c (by omega)) fun c hc => ih c (by omega)
theorem pap_all (b : List Int) : PAp b := pap_of b fun c _ => plp_all _ c (Nat.le_refl _)
theorem first_p {b : List Int} (hb : Bytes b) : ∃ (x : S25) (n : Nat) (e : Int), Conv (fun k => rlp_First.f k b) (x.f0, x.f1, x.f2, (n : Int), e) ∧
    (e ≠ 0 → x = ⟨false, [], []⟩ ∧ n = 0) ∧ (e = 0 → 1 ≤ n ∧ n ≤ b.length ∧ b.length ≤ 65536 ∧ encS x = b.take n ∧ ∃ m, sizeS x 0 1 = ((n : Int), 0, m)) := by
  by_cases hl : b.length ≤ 65536
  · obtain ⟨x, n, e, m, hm1, hm2, hp, hbad, hok⟩ := pap_all b hb hl 0 1 (by omega) (by omega)
    refine ⟨x, n, e, ?_, hbad, fun he => ?_⟩
    · unfold rlp_First.f
      exact Conv.iteF (by omega) (Conv.bind hp (Conv.pure _))
    · obtain ⟨h1, h2, h3, h4⟩ := hok he
      exact ⟨h1, h2, hl, h3, m, h4⟩
  · refine ⟨⟨false, [], []⟩, 0, 44, ?_, fun _ => ⟨rfl, rfl⟩, fun h => absurd h (by decide)⟩
    unfold rlp_First.f
    exact Conv.iteT (by omega) (Conv.pure _)
theorem decode_p {b : List Int} (hb : Bytes b) : ∃ (x : S25) (e : Int), Conv (fun k => rlp_Decode.f k b) (x.f0, x.f1, x.f2, e) ∧
    (e = 0 → b.length ≤ 65536 ∧ encS x = b ∧ ∃ m, sizeS x 0 1 = ((b.length : Int), 0, m)) := by
  obtain ⟨x, n, e, hp, hbad, hok⟩ := first_p hb
  by_cases he : e = 0
  · subst he
    obtain ⟨h1, h2, h3, h4, m, h5⟩ := hok rfl
    by_cases hn : n < b.length
    · refine ⟨⟨false, [], []⟩, 42, ?_, fun h => absurd h (by decide)⟩
      unfold rlp_Decode.f
      exact Conv.bind hp (Conv.iteT rfl (Conv.iteT (by dsimp only; omega) (Conv.pure _)))
    · have hnb : n = b.length := by omega
      refine ⟨x, 0, ?_, fun _ => ⟨h3, by rw [h4, hnb, List.take_length], m, by rw [h5, hnb]⟩⟩
      unfold rlp_Decode.f
      exact Conv.bind hp (Conv.iteT rfl (Conv.iteF (by dsimp only; omega) (Conv.pure _)))
  · refine ⟨⟨false, [], []⟩, e, ?_, fun h => absurd h he⟩
    unfold rlp_Decode.f
    exact Conv.bind hp (Conv.iteF he (Conv.pure _))
end Go.Proofs.Ytbobnopnfjcajaa.Base
