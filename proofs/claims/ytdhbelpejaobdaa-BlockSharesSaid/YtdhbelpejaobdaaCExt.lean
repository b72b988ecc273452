/- What the machine answers itself: bytes held against one another. -/
import Derived.Test.YtdhbelpejaobdaaCSpec2
import Derived.Lib.BytesEntry
namespace Go.Proofs.Ytdhbelpejaobdaa.Ev
open Go Go.RowKit
set_option linter.unusedVariables false
set_option linter.unusedSimpArgs false
set_option maxRecDepth 100000
set_option maxHeartbeats 8000000
theorem bytes_cells {m : Mem} {w : World} (hl : m.lies w) {l : List Int} {u : Value} (h : RepD m (.li (.it .u8)) l u) :
    (Extern.Bytes.bytesOf u).run Try.prog w = .ok ⟨(Lib.bytesOf l).toArray⟩ w := by
  obtain ⟨us, ⟨a, c, rfl, h1, h2, h3, h4⟩, rfl⟩ := h
  cases a with
  | none =>
    have hz : l = [] := List.eq_nil_of_length_eq_zero h4.1
    subst hz
    rfl
  | some ad =>
    have hc := Lib.run_loadBytesX (P := Try.prog) w l ad .empty (fun j x hj => by
      obtain ⟨hjl, hx⟩ := List.getElem?_eq_some_iff.1 hj
      obtain ⟨vs, k1, k2⟩ := h4.2 j hjl
      obtain ⟨rfl, k3⟩ := k2
      have k4 := hl _ _ _ (k1 0 _ rfl)
      have hs : ad.spot = none := h4.1 (by omega)
      rw [hx] at k4
      rw [← k4]
      congr 1
      unfold Addr.add
      simp only [hs, Ty.size, Nat.mul_one, Nat.add_zero]
      obtain ⟨b0, o0, s0⟩ := ad
      simp only at hs
      subst hs
      split
      · rename_i hz; subst hz; rfl
      · rfl)
    show (Extern.Bytes.loadBytes ad l.length .empty).run Try.prog w = _
    rw [hc]
    congr 1
    apply ByteArray.ext
    show (#[] : Array UInt8) ++ _ = _
    simp
theorem cmp_bytes {a b : List Int} (ha : Bytes a) (hb : Bytes b) : Lib.compareBytes (Lib.bytesOf a) (Lib.bytesOf b) = cmpB a b := by
  have lt : ∀ {x y : Int}, (0 ≤ x ∧ x < 256) → (0 ≤ y ∧ y < 256) → (UInt8.ofNat x.toNat < UInt8.ofNat y.toNat ↔ x < y) := by
    intro x y hx hy
    rw [UInt8.lt_iff_toNat_lt, UInt8.toNat_ofNat', UInt8.toNat_ofNat']
    simp only [show (2 : Nat) ^ 8 = 256 by decide]
    omega
  induction a generalizing b with
  | nil => cases b <;> simp [cmpB, Lib.compareBytes, Lib.bytesOf]
  | cons x a ih =>
    cases b with
    | nil => simp [cmpB, Lib.compareBytes, Lib.bytesOf]
    | cons y b =>
      have hx := ha x List.mem_cons_self
      have hy := hb y List.mem_cons_self
      have := ih (b := b) (fun z hz => ha z (List.mem_cons_of_mem _ hz)) (fun z hz => hb z (List.mem_cons_of_mem _ hz))
      simp only [Lib.bytesOf, List.map_cons, Lib.compareBytes, cmpB] at this ⊢
      rw [this]
      by_cases e : x = y
      · rw [if_pos e, if_neg (by rw [lt hx hy]; omega), if_neg (by rw [lt hy hx]; omega)]
      · rw [if_neg e]
        by_cases e2 : x < y
        · rw [if_pos e2, if_pos (by rw [lt hx hy]; exact e2)]
        · rw [if_neg e2, if_neg (by rw [lt hx hy]; exact e2), if_pos (by rw [lt hy hx]; omega)]
theorem compare_ext (x : dens cmpBSp.ts) : ExtRes Try.prog 73 (ofDens cmpBSp.ts x) (cmpBSp.res x) := by
  obtain ⟨(a : List Int), (b : List Int), _⟩ := x
  refine ⟨fun _ => rfl, ?_⟩
  intro m w us hl hr
  match us, hr with
  | [u, v], hr =>
    have h1 : RepV (Env.of m) (.d byl a) u := by have := hr; simp only [ofDens, cmpBSp, RepVs] at this; exact this.1
    have h2 : RepV (Env.of m) (.d byl b) v := by have := hr; simp only [ofDens, cmpBSp, RepVs] at this; exact this.2.1
    simp only [RepV] at h1 h2
    have ha : Bytes a := by
      obtain ⟨us, h, _⟩ := h1
      intro x hx; have := (RepL.fits _ _ _ h).2 x hx
      have := fits_u8.1 this; omega
    have hb : Bytes b := by
      obtain ⟨us, h, _⟩ := h2
      intro x hx; have := (RepL.fits _ _ _ h).2 x hx
      have := fits_u8.1 this; omega
    refine ⟨.int .i64 (cmpB a b), ?_, ?_⟩
    · rw [run_callFunc_extern Try.func73 (by kernel_rfl) (by kernel_rfl) (by kernel_rfl) (e := Extern.BytealgCompare.compare) (by kernel_rfl)]
      show ((Sem.run Try.prog (do pure (goInt (Extern.BytealgCompare.cmp (← Extern.Bytes.bytesOf u) (← Extern.Bytes.bytesOf v)))) w).andThen _) = _
      simp only [Sem.run_bind, bytes_cells hl h1, bytes_cells hl h2, Result.andThen]
      rw [Lib.cmp_eq]
      show Result.ok (Next.value (.int .i64 (Lib.compareBytes (Lib.bytesOf a) (Lib.bytesOf b)))) w = _
      rw [cmp_bytes ha hb]
    · intro E hE
      have hc := cmpB_cases a b
      exact rep_int_iff.2 ⟨rfl, by show IntKind.i64.min ≤ cmpB a b ∧ cmpB a b ≤ IntKind.i64.max; rw [show IntKind.i64.min = -9223372036854775808 by decide, show IntKind.i64.max = 9223372036854775807 by decide]; omega⟩
end Go.Proofs.Ytdhbelpejaobdaa.Ev
