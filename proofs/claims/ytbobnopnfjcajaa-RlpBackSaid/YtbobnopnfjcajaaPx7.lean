-- Written by a program of this session out of the translation.
import Derived.Test.YtbobnopnfjcajaaPx0
import Derived.Test.YtbobnopnfjcajaaPz
import Derived.Test.YtbobnopnfjcajaaPx2
import Derived.Test.YtbobnopnfjcajaaPx4
import Derived.Test.YtbobnopnfjcajaaPx5
import Derived.Test.YtbobnopnfjcajaaPx6
namespace Go.Proofs.Ytbobnopnfjcajaa.P
open Go.RowKit Go.Proofs.YtbobnopnfjcajaaW.PrintWords Go.Proofs.YtbobnopnfjcajaaW.PrintLast Go.Proofs.YtbobnopnfjcajaaW.PrintMore
attribute [local go_sem] max2_int min2_int max_two min_two max_three min_three max_four min_four   -- for this text's walks alone
set_option linter.unusedVariables false
set_option linter.unusedSimpArgs false

/-! ### morainelaw4_RlpBack: function 8 -/
mutual
def morainelaw4_RlpBack.j0 : Nat → List Int → List Int → Bool → Bool → List Int → List (S25) → Bool → List Int → List (S25) → Option (Bool)
  | 0, _, _, _, _, _, _, _, _, _ => none
  | k + 1, x2, x3, x38, x252000, x252001, x252002, x253000, x253001, x253002 => if x38 = true then (some true) else ((rlp_Encode.f k x252000 x252001 x252002).bind fun bt256 => ((rlp_Encode.f k x253000 x253001 x253002).bind fun bt260 => (if bt256.2 = 0 then ((rlp_Decode.f k bt256.1).bind fun bt264 => (if ([] : List Int).length + bt256.1.length < 140737488355328 then ((some (([] : List Int) ++ bt256.1 : List Int)).bind fun y273 => (if y273.length + x2.length < 140737488355328 then ((rlp_First.f k (y273 ++ x2)).bind fun bt279 => (if bt264.2.2.2 = 0 then ((moraineref4_Same.f k x252000 x252001 x252002 bt264.1 bt264.2.1 bt264.2.2.1).bind fun t289 => (if t289 = true then ((rlp_Equal.f k x252000 x252001 x252002 bt264.1 bt264.2.1 bt264.2.2.1).bind fun t290 => (morainelaw4_RlpBack.j1 k x2 x3 bt256.1 bt256.2 bt260.1 bt260.2 bt279.2.2.2.1 bt279.2.2.2.2 (!t290) x252000 x252001 x252002 x253000 x253001 x253002 bt279.1 bt279.2.1 bt279.2.2.1)) else (morainelaw4_RlpBack.j1 k x2 x3 bt256.1 bt256.2 bt260.1 bt260.2 bt279.2.2.2.1 bt279.2.2.2.2 true x252000 x252001 x252002 x253000 x253001 x253002 bt279.1 bt279.2.1 bt279.2.2.1))) else (morainelaw4_RlpBack.j1 k x2 x3 bt256.1 bt256.2 bt260.1 bt260.2 bt279.2.2.2.1 bt279.2.2.2.2 true x252000 x252001 x252002 x253000 x253001 x253002 bt279.1 bt279.2.1 bt279.2.2.1))) else (none))) else (none))) else (morainelaw4_RlpBack.j2 k x3 bt256.1 bt256.2 bt260.1 bt260.2 x252000 x252001 x252002 x253000 x253001 x253002))))
def morainelaw4_RlpBack.j2 : Nat → List Int → List Int → Int → List Int → Int → Bool → List Int → List (S25) → Bool → List Int → List (S25) → Option (Bool)
  | 0, _, _, _, _, _, _, _, _, _, _, _ => none
  | k + 1, x3, x9, x10, x11, x12, x252000, x252001, x252002, x253000, x253001, x253002 => if x10 = 0 then (if x12 = 0 then (if (x9.length : Int) < (x11.length : Int) then (if 0 ≤ (x9.length : Int) then (if (x9.length : Int) ≤ (x11.length : Int) then (morainelaw4_RlpBack.j3 k x3 x9 x10 x11 x12 ((strOfNums (x11.take ((x9.length : Int) : Int).toNat)).toList == (strOfNums x9).toList) x252000 x252001 x252002 x253000 x253001 x253002) else (none)) else (none)) else (morainelaw4_RlpBack.j3 k x3 x9 x10 x11 x12 false x252000 x252001 x252002 x253000 x253001 x253002)) else (morainelaw4_RlpBack.j3 k x3 x9 x10 x11 x12 false x252000 x252001 x252002 x253000 x253001 x253002)) else (morainelaw4_RlpBack.j3 k x3 x9 x10 x11 x12 false x252000 x252001 x252002 x253000 x253001 x253002)
def morainelaw4_RlpBack.j3 : Nat → List Int → List Int → Int → List Int → Int → Bool → Bool → List Int → List (S25) → Bool → List Int → List (S25) → Option (Bool)
  | 0, _, _, _, _, _, _, _, _, _, _, _, _ => none
  | k + 1, x3, x9, x10, x11, x12, x123, x252000, x252001, x252002, x253000, x253001, x253002 => if x123 = true then (some false) else ((rlp_Equal.f k x252000 x252001 x252002 x253000 x253001 x253002).bind fun t296 => (if x10 = 0 then (if x12 = 0 then (morainelaw4_RlpBack.j4 k x3 (t296 != ((strOfNums x9).toList == (strOfNums x11).toList))) else (morainelaw4_RlpBack.j4 k x3 (t296 != false))) else (morainelaw4_RlpBack.j4 k x3 (t296 != false))))
def morainelaw4_RlpBack.j4 : Nat → List Int → Bool → Option (Bool)
  | 0, _, _ => none
  | k + 1, x3, x140 => if x140 = true then (some false) else ((rlp_Decode.f k x3).bind fun bt297 => (if bt297.2.2.2 = 0 then ((rlp_Encode.f k bt297.1 bt297.2.1 bt297.2.2.1).bind fun bt306 => (if bt306.2 = 0 then ((morainehelp_Bytes.f bt306.1 x3).bind fun t310 => (some t310)) else (some false))) else (some true)))
def morainelaw4_RlpBack.j1 : Nat → List Int → List Int → List Int → Int → List Int → Int → Int → Int → Bool → Bool → List Int → List (S25) → Bool → List Int → List (S25) → Bool → List Int → List (S25) → Option (Bool)
  | 0, _, _, _, _, _, _, _, _, _, _, _, _, _, _, _, _, _, _ => none
  | k + 1, x2, x3, x9, x10, x11, x12, x16, x17, x78, x252000, x252001, x252002, x253000, x253001, x253002, x289000, x289001, x289002 => if x78 = true then (some false) else (if (wrap64 ((x9.length : Int) + (x2.length : Int))) ≤ 65536 then (if x17 = 0 then (if x16 = (x9.length : Int) then ((moraineref4_Same.f k x252000 x252001 x252002 x289000 x289001 x289002).bind fun t291 => (if t291 = true then (morainelaw4_RlpBack.j2 k x3 x9 x10 x11 x12 x252000 x252001 x252002 x253000 x253001 x253002) else (some false))) else (some false)) else (some false)) else (morainelaw4_RlpBack.j2 k x3 x9 x10 x11 x12 x252000 x252001 x252002 x253000 x253001 x253002))
end
def morainelaw4_RlpBack.f (k : Nat) (a0_0 : Bool) (l0_1 : List Int) (l0_2 : List (S25)) (a1_0 : Bool) (l1_1 : List Int) (l1_2 : List (S25)) (l2 : List Int) (l3 : List Int) : Option (Bool) := (morainelaw4_known.f k).bind fun t253 => (if t253 = true then ((morainelaw4_few.f k a0_0 l0_1 l0_2).bind fun t254 => (if t254 = true then ((morainelaw4_few.f k a1_0 l1_1 l1_2).bind fun t255 => (if t255 = true then (if (l2.length : Int) > 200 then (morainelaw4_RlpBack.j0 k l2 l3 true a0_0 l0_1 l0_2 a1_0 l1_1 l1_2) else (morainelaw4_RlpBack.j0 k l2 l3 (decide ((l3.length : Int) > 3000)) a0_0 l0_1 l0_2 a1_0 l1_1 l1_2)) else (morainelaw4_RlpBack.j0 k l2 l3 true a0_0 l0_1 l0_2 a1_0 l1_1 l1_2))) else (morainelaw4_RlpBack.j0 k l2 l3 true a0_0 l0_1 l0_2 a1_0 l1_1 l1_2))) else (some false))
theorem morainelaw4_RlpBack.mono_l : ∀ k, (∀ y0 y1 y2 y3 y4 y5 y6 y7 y8, LeO (morainelaw4_RlpBack.j0 k y0 y1 y2 y3 y4 y5 y6 y7 y8) (morainelaw4_RlpBack.j0 (k + 1) y0 y1 y2 y3 y4 y5 y6 y7 y8)) ∧ (∀ y0 y1 y2 y3 y4 y5 y6 y7 y8 y9 y10, LeO (morainelaw4_RlpBack.j2 k y0 y1 y2 y3 y4 y5 y6 y7 y8 y9 y10) (morainelaw4_RlpBack.j2 (k + 1) y0 y1 y2 y3 y4 y5 y6 y7 y8 y9 y10)) ∧ (∀ y0 y1 y2 y3 y4 y5 y6 y7 y8 y9 y10 y11, LeO (morainelaw4_RlpBack.j3 k y0 y1 y2 y3 y4 y5 y6 y7 y8 y9 y10 y11) (morainelaw4_RlpBack.j3 (k + 1) y0 y1 y2 y3 y4 y5 y6 y7 y8 y9 y10 y11)) ∧ (∀ y0 y1, LeO (morainelaw4_RlpBack.j4 k y0 y1) (morainelaw4_RlpBack.j4 (k + 1) y0 y1)) ∧ (∀ y0 y1 y2 y3 y4 y5 y6 y7 y8 y9 y10 y11 y12 y13 y14 y15 y16 y17, LeO (morainelaw4_RlpBack.j1 k y0 y1 y2 y3 y4 y5 y6 y7 y8 y9 y10 y11 y12 y13 y14 y15 y16 y17) (morainelaw4_RlpBack.j1 (k + 1) y0 y1 y2 y3 y4 y5 y6 y7 y8 y9 y10 y11 y12 y13 y14 y15 y16 y17))
  | 0 => ⟨fun _ _ _ _ _ _ _ _ _ r h => by simp [morainelaw4_RlpBack.j0] at h, fun _ _ _ _ _ _ _ _ _ _ _ r h => by simp [morainelaw4_RlpBack.j2] at h, fun _ _ _ _ _ _ _ _ _ _ _ _ r h => by simp [morainelaw4_RlpBack.j3] at h, fun _ _ r h => by simp [morainelaw4_RlpBack.j4] at h, fun _ _ _ _ _ _ _ _ _ _ _ _ _ _ _ _ _ _ r h => by simp [morainelaw4_RlpBack.j1] at h⟩
  | k + 1 => by
    obtain ⟨ih0, ih1, ih2, ih3, ih4⟩ := morainelaw4_RlpBack.mono_l k
    refine ⟨?_, ?_, ?_, ?_, ?_⟩
    · intro y0 y1 y2 y3 y4 y5 y6 y7 y8
      unfold morainelaw4_RlpBack.j0
      repeat' first
      | (with_reducible exact ih0 _ _ _ _ _ _ _ _ _)
      | (with_reducible exact ih1 _ _ _ _ _ _ _ _ _ _ _)
      | (with_reducible exact ih2 _ _ _ _ _ _ _ _ _ _ _ _)
      | (with_reducible exact ih3 _ _)
      | (with_reducible exact ih4 _ _ _ _ _ _ _ _ _ _ _ _ _ _ _ _ _ _)
      | (with_reducible exact morainelaw4_few.mono _ _ _ _)
      | (with_reducible exact morainelaw4_known.mono _)
      | (with_reducible exact moraineref4_Same.mono _ _ _ _ _ _ _)
      | (with_reducible exact rlp_Decode.mono _ _)
      | (with_reducible exact rlp_Encode.mono _ _ _ _)
      | (with_reducible exact rlp_Equal.mono _ _ _ _ _ _ _)
      | (with_reducible exact rlp_First.mono _ _)
      | (with_reducible exact LeO.refl _)
      | (with_reducible exact LeO.none _)
      | (with_reducible refine LeO.ite ?_ ?_)
      | (with_reducible refine LeO.bind ?_ (fun _ => ?_))
      | exact ih0 _ _ _ _ _ _ _ _ _
      | exact ih1 _ _ _ _ _ _ _ _ _ _ _
      | exact ih2 _ _ _ _ _ _ _ _ _ _ _ _
      | exact ih3 _ _
      | exact ih4 _ _ _ _ _ _ _ _ _ _ _ _ _ _ _ _ _ _
      | exact morainelaw4_few.mono _ _ _ _
      | exact morainelaw4_known.mono _
      | exact moraineref4_Same.mono _ _ _ _ _ _ _
      | exact rlp_Decode.mono _ _
      | exact rlp_Encode.mono _ _ _ _
      | exact rlp_Equal.mono _ _ _ _ _ _ _
      | exact rlp_First.mono _ _
      | exact LeO.none _
      | refine LeO.ite ?_ ?_
      | refine LeO.bind ?_ (fun _ => ?_)
    · intro y0 y1 y2 y3 y4 y5 y6 y7 y8 y9 y10
      unfold morainelaw4_RlpBack.j2
      repeat' first
      | (with_reducible exact ih0 _ _ _ _ _ _ _ _ _)
      | (with_reducible exact ih1 _ _ _ _ _ _ _ _ _ _ _)
      | (with_reducible exact ih2 _ _ _ _ _ _ _ _ _ _ _ _)
      | (with_reducible exact ih3 _ _)
      | (with_reducible exact ih4 _ _ _ _ _ _ _ _ _ _ _ _ _ _ _ _ _ _)
      | (with_reducible exact morainelaw4_few.mono _ _ _ _)
      | (with_reducible exact morainelaw4_known.mono _)
      | (with_reducible exact moraineref4_Same.mono _ _ _ _ _ _ _)
      | (with_reducible exact rlp_Decode.mono _ _)
      | (with_reducible exact rlp_Encode.mono _ _ _ _)
      | (with_reducible exact rlp_Equal.mono _ _ _ _ _ _ _)
      | (with_reducible exact rlp_First.mono _ _)
      | (with_reducible exact LeO.refl _)
      | (with_reducible exact LeO.none _)
      | (with_reducible refine LeO.ite ?_ ?_)
      | (with_reducible refine LeO.bind ?_ (fun _ => ?_))
      | exact ih0 _ _ _ _ _ _ _ _ _
      | exact ih1 _ _ _ _ _ _ _ _ _ _ _
      | exact ih2 _ _ _ _ _ _ _ _ _ _ _ _
      | exact ih3 _ _
      | exact ih4 _ _ _ _ _ _ _ _ _ _ _ _ _ _ _ _ _ _
      | exact morainelaw4_few.mono _ _ _ _
      | exact morainelaw4_known.mono _
      | exact moraineref4_Same.mono _ _ _ _ _ _ _
      | exact rlp_Decode.mono _ _
      | exact rlp_Encode.mono _ _ _ _
      | exact rlp_Equal.mono _ _ _ _ _ _ _
      | exact rlp_First.mono _ _
      | exact LeO.none _
      | refine LeO.ite ?_ ?_
      | refine LeO.bind ?_ (fun _ => ?_)
    · intro y0 y1 y2 y3 y4 y5 y6 y7 y8 y9 y10 y11
      unfold morainelaw4_RlpBack.j3
      repeat' first
      | (with_reducible exact ih0 _ _ _ _ _ _ _ _ _)
      | (with_reducible exact ih1 _ _ _ _ _ _ _ _ _ _ _)
      | (with_reducible exact ih2 _ _ _ _ _ _ _ _ _ _ _ _)
      | (with_reducible exact ih3 _ _)
      | (with_reducible exact ih4 _ _ _ _ _ _ _ _ _ _ _ _ _ _ _ _ _ _)
      | (with_reducible exact morainelaw4_few.mono _ _ _ _)
      | (with_reducible exact morainelaw4_known.mono _)
      | (with_reducible exact moraineref4_Same.mono _ _ _ _ _ _ _)
      | (with_reducible exact rlp_Decode.mono _ _)
      | (with_reducible exact rlp_Encode.mono _ _ _ _)
      | (with_reducible exact rlp_Equal.mono _ _ _ _ _ _ _)
      | (with_reducible exact rlp_First.mono _ _)
      | (with_reducible exact LeO.refl _)
      | (with_reducible exact LeO.none _)
      | (with_reducible refine LeO.ite ?_ ?_)
      | (with_reducible refine LeO.bind ?_ (fun _ => ?_))
      | exact ih0 _ _ _ _ _ _ _ _ _
      | exact ih1 _ _ _ _ _ _ _ _ _ _ _
      | exact ih2 _ _ _ _ _ _ _ _ _ _ _ _
      | exact ih3 _ _
      | exact ih4 _ _ _ _ _ _ _ _ _ _ _ _ _ _ _ _ _ _
      | exact morainelaw4_few.mono _ _ _ _
      | exact morainelaw4_known.mono _
      | exact moraineref4_Same.mono _ _ _ _ _ _ _
      | exact rlp_Decode.mono _ _
      | exact rlp_Encode.mono _ _ _ _
      | exact rlp_Equal.mono _ _ _ _ _ _ _
      | exact rlp_First.mono _ _
      | exact LeO.none _
      | refine LeO.ite ?_ ?_
      | refine LeO.bind ?_ (fun _ => ?_)
    · intro y0 y1
      unfold morainelaw4_RlpBack.j4
      repeat' first
      | (with_reducible exact ih0 _ _ _ _ _ _ _ _ _)
      | (with_reducible exact ih1 _ _ _ _ _ _ _ _ _ _ _)
      | (with_reducible exact ih2 _ _ _ _ _ _ _ _ _ _ _ _)
      | (with_reducible exact ih3 _ _)
      | (with_reducible exact ih4 _ _ _ _ _ _ _ _ _ _ _ _ _ _ _ _ _ _)
      | (with_reducible exact morainelaw4_few.mono _ _ _ _)
      | (with_reducible exact morainelaw4_known.mono _)
      | (with_reducible exact moraineref4_Same.mono _ _ _ _ _ _ _)
      | (with_reducible exact rlp_Decode.mono _ _)
      | (with_reducible exact rlp_Encode.mono _ _ _ _)
      | (with_reducible exact rlp_Equal.mono _ _ _ _ _ _ _)
      | (with_reducible exact rlp_First.mono _ _)
      | (with_reducible exact LeO.refl _)
      | (with_reducible exact LeO.none _)
      | (with_reducible refine LeO.ite ?_ ?_)
      | (with_reducible refine LeO.bind ?_ (fun _ => ?_))
      | exact ih0 _ _ _ _ _ _ _ _ _
      | exact ih1 _ _ _ _ _ _ _ _ _ _ _
      | exact ih2 _ _ _ _ _ _ _ _ _ _ _ _
      | exact ih3 _ _
      | exact ih4 _ _ _ _ _ _ _ _ _ _ _ _ _ _ _ _ _ _
      | exact morainelaw4_few.mono _ _ _ _
      | exact morainelaw4_known.mono _
      | exact moraineref4_Same.mono _ _ _ _ _ _ _
      | exact rlp_Decode.mono _ _
      | exact rlp_Encode.mono _ _ _ _
      | exact rlp_Equal.mono _ _ _ _ _ _ _
      | exact rlp_First.mono _ _
      | exact LeO.none _
      | refine LeO.ite ?_ ?_
      | refine LeO.bind ?_ (fun _ => ?_)
    · intro y0 y1 y2 y3 y4 y5 y6 y7 y8 y9 y10 y11 y12 y13 y14 y15 y16 y17
      unfold morainelaw4_RlpBack.j1
      repeat' first
      | (with_reducible exact ih0 _ _ _ _ _ _ _ _ _)
      | (with_reducible exact ih1 _ _ _ _ _ _ _ _ _ _ _)
      | (with_reducible exact ih2 _ _ _ _ _ _ _ _ _ _ _ _)
      | (with_reducible exact ih3 _ _)
      | (with_reducible exact ih4 _ _ _ _ _ _ _ _ _ _ _ _ _ _ _ _ _ _)
      | (with_reducible exact morainelaw4_few.mono _ _ _ _)
      | (with_reducible exact morainelaw4_known.mono _)
      | (with_reducible exact moraineref4_Same.mono _ _ _ _ _ _ _)
      | (with_reducible exact rlp_Decode.mono _ _)
      | (with_reducible exact rlp_Encode.mono _ _ _ _)
      | (with_reducible exact rlp_Equal.mono _ _ _ _ _ _ _)
      | (with_reducible exact rlp_First.mono _ _)
      | (with_reducible exact LeO.refl _)
      | (with_reducible exact LeO.none _)
      | (with_reducible refine LeO.ite ?_ ?_)
      | (with_reducible refine LeO.bind ?_ (fun _ => ?_))
      | exact ih0 _ _ _ _ _ _ _ _ _
      | exact ih1 _ _ _ _ _ _ _ _ _ _ _
      | exact ih2 _ _ _ _ _ _ _ _ _ _ _ _
      | exact ih3 _ _
      | exact ih4 _ _ _ _ _ _ _ _ _ _ _ _ _ _ _ _ _ _
      | exact morainelaw4_few.mono _ _ _ _
      | exact morainelaw4_known.mono _
      | exact moraineref4_Same.mono _ _ _ _ _ _ _
      | exact rlp_Decode.mono _ _
      | exact rlp_Encode.mono _ _ _ _
      | exact rlp_Equal.mono _ _ _ _ _ _ _
      | exact rlp_First.mono _ _
      | exact LeO.none _
      | refine LeO.ite ?_ ?_
      | refine LeO.bind ?_ (fun _ => ?_)
theorem morainelaw4_RlpBack.mono : ∀ a0 a1 a2 a3 a4 a5 a6 a7 k, LeO (morainelaw4_RlpBack.f k a0 a1 a2 a3 a4 a5 a6 a7) (morainelaw4_RlpBack.f (k + 1) a0 a1 a2 a3 a4 a5 a6 a7) := by
  intro a0 a1 a2 a3 a4 a5 a6 a7 k
  obtain ⟨ih0, ih1, ih2, ih3, ih4⟩ := morainelaw4_RlpBack.mono_l k
  unfold morainelaw4_RlpBack.f
  repeat' first
      | (with_reducible exact ih0 _ _ _ _ _ _ _ _ _)
      | (with_reducible exact ih1 _ _ _ _ _ _ _ _ _ _ _)
      | (with_reducible exact ih2 _ _ _ _ _ _ _ _ _ _ _ _)
      | (with_reducible exact ih3 _ _)
      | (with_reducible exact ih4 _ _ _ _ _ _ _ _ _ _ _ _ _ _ _ _ _ _)
      | (with_reducible exact morainelaw4_few.mono _ _ _ _)
      | (with_reducible exact morainelaw4_known.mono _)
      | (with_reducible exact moraineref4_Same.mono _ _ _ _ _ _ _)
      | (with_reducible exact rlp_Decode.mono _ _)
      | (with_reducible exact rlp_Encode.mono _ _ _ _)
      | (with_reducible exact rlp_Equal.mono _ _ _ _ _ _ _)
      | (with_reducible exact rlp_First.mono _ _)
      | (with_reducible exact LeO.refl _)
      | (with_reducible exact LeO.none _)
      | (with_reducible refine LeO.ite ?_ ?_)
      | (with_reducible refine LeO.bind ?_ (fun _ => ?_))
      | exact ih0 _ _ _ _ _ _ _ _ _
      | exact ih1 _ _ _ _ _ _ _ _ _ _ _
      | exact ih2 _ _ _ _ _ _ _ _ _ _ _ _
      | exact ih3 _ _
      | exact ih4 _ _ _ _ _ _ _ _ _ _ _ _ _ _ _ _ _ _
      | exact morainelaw4_few.mono _ _ _ _
      | exact morainelaw4_known.mono _
      | exact moraineref4_Same.mono _ _ _ _ _ _ _
      | exact rlp_Decode.mono _ _
      | exact rlp_Encode.mono _ _ _ _
      | exact rlp_Equal.mono _ _ _ _ _ _ _
      | exact rlp_First.mono _ _
      | exact LeO.none _
      | refine LeO.ite ?_ ?_
      | refine LeO.bind ?_ (fun _ => ?_)
set_option maxHeartbeats 8000000 in
set_option maxRecDepth 100000 in
theorem morainelaw4_RlpBack.calls (k : Nat) (a0_0 : Bool) (A0_1 : Option Addr) (c0_1 : Nat) (l0_1 : List Int) (A0_2 : Option Addr) (c0_2 : Nat) (l0_2 : List (S25)) (a1_0 : Bool) (A1_1 : Option Addr) (c1_1 : Nat) (l1_1 : List Int) (A1_2 : Option Addr) (c1_2 : Nat) (l1_2 : List (S25)) (A2 : Option Addr) (c2 : Nat) (l2 : List Int) (A3 : Option Addr) (c3 : Nat) (l3 : List Int) (r : Bool) (w : World) (hr0_1 : Kd.C (Kd.int .u8) w A0_1 l0_1.length l0_1) (hc0_1 : l0_1.length ≤ c0_1) (hr0_2 : Kd.C k25 w A0_2 l0_2.length l0_2) (hc0_2 : l0_2.length ≤ c0_2) (hr1_1 : Kd.C (Kd.int .u8) w A1_1 l1_1.length l1_1) (hc1_1 : l1_1.length ≤ c1_1) (hr1_2 : Kd.C k25 w A1_2 l1_2.length l1_2) (hc1_2 : l1_2.length ≤ c1_2) (hr2 : Kd.C (Kd.int .u8) w A2 l2.length l2) (hc2 : l2.length ≤ c2) (hr3 : Kd.C (Kd.int .u8) w A3 l3.length l3) (hc3 : l3.length ≤ c3) (h : morainelaw4_RlpBack.f k a0_0 l0_1 l0_2 a1_0 l1_1 l1_2 l2 l3 = some r) :
    Calls Try.prog 8 #[.agg #[.bool a0_0, .slice A0_1 l0_1.length c0_1, .slice A0_2 l0_2.length c0_2], .agg #[.bool a1_0, .slice A1_1 l1_1.length c1_1, .slice A1_2 l1_2.length c1_2], .slice A2 l2.length c2, .slice A3 l3.length c3] w fun e w' => e = .returned (.bool r) ∧ Below w.heap.size w w' := by
  have hu25 := Try.underlying25
  have HR0_1 := Aside0.mk hr0_1
  have HC0_1 := Aside0.mk hc0_1
  clear hr0_1 hc0_1
  have HR0_2 := Aside0.mk hr0_2
  have HC0_2 := Aside0.mk hc0_2
  clear hr0_2 hc0_2
  have HR1_1 := Aside0.mk hr1_1
  have HC1_1 := Aside0.mk hc1_1
  clear hr1_1 hc1_1
  have HR1_2 := Aside0.mk hr1_2
  have HC1_2 := Aside0.mk hc1_2
  clear hr1_2 hc1_2
  have HR2 := Aside0.mk hr2
  have HC2 := Aside0.mk hc2
  clear hr2 hc2
  have HR3 := Aside0.mk hr3
  have HC3 := Aside0.mk hc3
  clear hr3 hc3
  have HB := Aside0.mk (Below.refl w.heap.size w)
  have H : ((morainelaw4_known.f k).bind fun t253 => (if t253 = true then ((morainelaw4_few.f k a0_0 l0_1 l0_2).bind fun t254 => (if t254 = true then ((morainelaw4_few.f k a1_0 l1_1 l1_2).bind fun t255 => (if t255 = true then (if (l2.length : Int) > 200 then (morainelaw4_RlpBack.j0 k l2 l3 true a0_0 l0_1 l0_2 a1_0 l1_1 l1_2) else (morainelaw4_RlpBack.j0 k l2 l3 (decide ((l3.length : Int) > 3000)) a0_0 l0_1 l0_2 a1_0 l1_1 l1_2)) else (morainelaw4_RlpBack.j0 k l2 l3 true a0_0 l0_1 l0_2 a1_0 l1_1 l1_2))) else (morainelaw4_RlpBack.j0 k l2 l3 true a0_0 l0_1 l0_2 a1_0 l1_1 l1_2))) else (some false))) = some r := h
  clear h
  replace H := Option.bind_eq_some_iff.mp H
  obtain ⟨t253, A50, H⟩ := H
  replace H : (if t253 = true then ((morainelaw4_few.f k a0_0 l0_1 l0_2).bind fun t254 => (if t254 = true then ((morainelaw4_few.f k a1_0 l1_1 l1_2).bind fun t255 => (if t255 = true then (if (l2.length : Int) > 200 then (morainelaw4_RlpBack.j0 k l2 l3 true a0_0 l0_1 l0_2 a1_0 l1_1 l1_2) else (morainelaw4_RlpBack.j0 k l2 l3 (decide ((l3.length : Int) > 3000)) a0_0 l0_1 l0_2 a1_0 l1_1 l1_2)) else (morainelaw4_RlpBack.j0 k l2 l3 true a0_0 l0_1 l0_2 a1_0 l1_1 l1_2))) else (morainelaw4_RlpBack.j0 k l2 l3 true a0_0 l0_1 l0_2 a1_0 l1_1 l1_2))) else (some false)) = some r := H
  have A5 := Aside0.mk A50
  clear A50
  by_cases c6 : t253 = true
  · subst c6
    have H1 : ((morainelaw4_few.f k a0_0 l0_1 l0_2).bind fun t254 => (if t254 = true then ((morainelaw4_few.f k a1_0 l1_1 l1_2).bind fun t255 => (if t255 = true then (if (l2.length : Int) > 200 then (morainelaw4_RlpBack.j0 k l2 l3 true a0_0 l0_1 l0_2 a1_0 l1_1 l1_2) else (morainelaw4_RlpBack.j0 k l2 l3 (decide ((l3.length : Int) > 3000)) a0_0 l0_1 l0_2 a1_0 l1_1 l1_2)) else (morainelaw4_RlpBack.j0 k l2 l3 true a0_0 l0_1 l0_2 a1_0 l1_1 l1_2))) else (morainelaw4_RlpBack.j0 k l2 l3 true a0_0 l0_1 l0_2 a1_0 l1_1 l1_2))) = some r := by rw [if_pos rfl] at H; exact H
    clear H
    have H := H1
    clear H1
    have HC7 := Aside0.mk H
    clear H
    go_enter Try.func8, Try.ntmps8
    go_upto_region 3 with (first | ((with_reducible refine gate_dst (N := 4) rfl ?_); (try (refine gate_guard (by rfl) ?_; dsimp only)); refine box_event ?hg (N := 4) ?hd (cs := #[.bool a0_0, .slice A0_1 l0_1.length c0_1, .slice A0_2 l0_2.length c0_2]) (t := 25) ?hr ?_; (case hd => rfl); (case hg => rfl); (case hr => first | (go_simp; done) | (go_simp; rfl)); intro gb251 hg w8 hbox hb; have n0_ := Aside0.mk (below_step (zw4 HB.out) hb); have n1_ := Aside0.mk (hbox); have n2_ := Aside0.mk ((by rw [hg]; exact (below_size (zw4 HB.out)) : w.heap.size ≤ gb251)); have n3_ := Aside0.mk ((by rw [hg]; exact (below_size (zw4 HB.out)) : w.heap.size ≤ gb251)); clear HB; have HB := n0_; have BK251 := n1_; have GW251 := n2_; have GE251 := n3_; clear n0_ n1_ n2_ n3_; clear hb hbox hg) | ((with_reducible refine gate_dst (N := 5) rfl ?_); (try (refine gate_guard (by rfl) ?_; dsimp only)); refine box_event ?hg (N := 5) ?hd (cs := #[.bool a1_0, .slice A1_1 l1_1.length c1_1, .slice A1_2 l1_2.length c1_2]) (t := 25) ?hr ?_; (case hd => rfl); (case hg => rfl); (case hr => first | (go_simp; done) | (go_simp; rfl)); intro gb252 hg w9 hbox hb; have n0_ := Aside0.mk (blk_below (g := gb251) (o := .cells #[.bool a0_0, .slice A0_1 l0_1.length c0_1, .slice A0_2 l0_2.length c0_2] 25 (0, 0)) (zw0 BK251.out) hb); have n1_ := Aside0.mk (below_step (zw5 HB.out GE251.out) hb); have n2_ := Aside0.mk (hbox); have n3_ := Aside0.mk ((by rw [hg]; exact (below_size (zw5 HB.out GE251.out)) : w.heap.size ≤ gb252)); have n4_ := Aside0.mk ((by rw [hg]; exact (below_size (zw5 HB.out GE251.out)) : w.heap.size ≤ gb252)); have n5_ := Aside0.mk ((by rw [hg]; exact Nat.ne_of_lt (blk_lt (g := gb251) (o := .cells #[.bool a0_0, .slice A0_1 l0_1.length c0_1, .slice A0_2 l0_2.length c0_2] 25 (0, 0)) (zw0 BK251.out)) : gb251 ≠ gb252)); have n6_ := Aside0.mk ((by rw [hg]; exact Nat.ne_of_gt (blk_lt (g := gb251) (o := .cells #[.bool a0_0, .slice A0_1 l0_1.length c0_1, .slice A0_2 l0_2.length c0_2] 25 (0, 0)) (zw0 BK251.out)) : gb252 ≠ gb251)); clear BK251; clear HB; have BK251 := n0_; have HB := n1_; have BK252 := n2_; have GW252 := n3_; have GE252 := n4_; have NB251_252 := n5_; have NB252_251 := n6_; clear n0_ n1_ n2_ n3_ n4_ n5_ n6_; clear hb hbox hg) | (go_at_call 9; (with_reducible refine (morainelaw4_known.calls k  true _ A5.out).mono ?_); rintro e w10 ⟨rfl, hb⟩; have n0_ := Aside0.mk (blk_below (g := gb251) (o := .cells #[.bool a0_0, .slice A0_1 l0_1.length c0_1, .slice A0_2 l0_2.length c0_2] 25 (0, 0)) (zw0 BK251.out) hb); have n1_ := Aside0.mk (blk_below (g := gb252) (o := .cells #[.bool a1_0, .slice A1_1 l1_1.length c1_1, .slice A1_2 l1_2.length c1_2] 25 (0, 0)) (zw0 BK252.out) hb); have n2_ := Aside0.mk (below_step (zw3 HB.out GE251.out GE252.out) hb); clear BK251; clear BK252; clear HB; have BK251 := n0_; have BK252 := n1_; have HB := n2_; clear n0_ n1_ n2_; (try clear hb); (try clear hb2); (try clear hk); (try clear hi)))
    skip
    (try simp only [Act.put, List.setIfInBounds_toArray, List.set_cons_zero, List.set_cons_succ])
    go_cut [38] (fun v38 wc => ∃ (kq : Nat) (x38_6 : Bool), v38 = .bool x38_6 ∧ Aside0 (morainelaw4_RlpBack.j0 kq l2 l3 x38_6 a0_0 l0_1 l0_2 a1_0 l1_1 l1_2 = some r) ∧ Aside0 (kq ≤ k) ∧ Aside0 (wc.heap[gb251]? = some (.cells #[.bool a0_0, (.slice A0_1 l0_1.length c0_1), (.slice A0_2 l0_2.length c0_2)] 25 (0, 0))) ∧ Aside0 (wc.heap[gb252]? = some (.cells #[.bool a1_0, (.slice A1_1 l1_1.length c1_1), (.slice A1_2 l1_2.length c1_2)] 25 (0, 0))) ∧ Aside0 (Below w.heap.size w wc))
    case first =>
      have H := HC7.out
      clear HC7
      replace H := Option.bind_eq_some_iff.mp H
      obtain ⟨t254, A110, H⟩ := H
      replace H : (if t254 = true then ((morainelaw4_few.f k a1_0 l1_1 l1_2).bind fun t255 => (if t255 = true then (if (l2.length : Int) > 200 then (morainelaw4_RlpBack.j0 k l2 l3 true a0_0 l0_1 l0_2 a1_0 l1_1 l1_2) else (morainelaw4_RlpBack.j0 k l2 l3 (decide ((l3.length : Int) > 3000)) a0_0 l0_1 l0_2 a1_0 l1_1 l1_2)) else (morainelaw4_RlpBack.j0 k l2 l3 true a0_0 l0_1 l0_2 a1_0 l1_1 l1_2))) else (morainelaw4_RlpBack.j0 k l2 l3 true a0_0 l0_1 l0_2 a1_0 l1_1 l1_2)) = some r := H
      have A11 := Aside0.mk A110
      clear A110
      by_cases c12 : t254 = true
      · subst c12
        have H1 : ((morainelaw4_few.f k a1_0 l1_1 l1_2).bind fun t255 => (if t255 = true then (if (l2.length : Int) > 200 then (morainelaw4_RlpBack.j0 k l2 l3 true a0_0 l0_1 l0_2 a1_0 l1_1 l1_2) else (morainelaw4_RlpBack.j0 k l2 l3 (decide ((l3.length : Int) > 3000)) a0_0 l0_1 l0_2 a1_0 l1_1 l1_2)) else (morainelaw4_RlpBack.j0 k l2 l3 true a0_0 l0_1 l0_2 a1_0 l1_1 l1_2))) = some r := by rw [if_pos rfl] at H; exact H
        clear H
        have H := H1
        clear H1
        replace H := Option.bind_eq_some_iff.mp H
        obtain ⟨t255, A130, H⟩ := H
        replace H : (if t255 = true then (if (l2.length : Int) > 200 then (morainelaw4_RlpBack.j0 k l2 l3 true a0_0 l0_1 l0_2 a1_0 l1_1 l1_2) else (morainelaw4_RlpBack.j0 k l2 l3 (decide ((l3.length : Int) > 3000)) a0_0 l0_1 l0_2 a1_0 l1_1 l1_2)) else (morainelaw4_RlpBack.j0 k l2 l3 true a0_0 l0_1 l0_2 a1_0 l1_1 l1_2)) = some r := H
        have A13 := Aside0.mk A130
        clear A130
        by_cases c14 : t255 = true
        · subst c14
          have H1 : (if (l2.length : Int) > 200 then (morainelaw4_RlpBack.j0 k l2 l3 true a0_0 l0_1 l0_2 a1_0 l1_1 l1_2) else (morainelaw4_RlpBack.j0 k l2 l3 (decide ((l3.length : Int) > 3000)) a0_0 l0_1 l0_2 a1_0 l1_1 l1_2)) = some r := by rw [if_pos rfl] at H; exact H
          clear H
          have H := H1
          clear H1
          by_cases c15 : (l2.length : Int) > 200
          · rw [if_pos c15] at H
            have c15b0 : decide (200 < (l2.length : Int)) = true := decide_eq_true c15
            have c15b1 : decide (200 < l2.length) = true := decide_eq_true (by omega)
            clear c15
            (first | rw [c15b0] | (simp only [i64_w, i32_w]; rw [c15b0]) | skip)
            have H' := Aside0.mk H
            clear H
            have hnb16 := NB251_252.out
            have hnc16 := NB252_251.out
            have hcz17_0 : w10.cell? ⟨gb251, 0, none⟩ = some (.bool a0_0) := (blk_cell BK251.out 0).trans rfl
            have hcz17_1 : w10.cell? ⟨gb251, 1, none⟩ = some (.slice A0_1 l0_1.length c0_1) := (blk_cell BK251.out 1).trans rfl
            have hcz17_2 : w10.cell? ⟨gb251, 2, none⟩ = some (.slice A0_2 l0_2.length c0_2) := (blk_cell BK251.out 2).trans rfl
            have hfz17_0 := blk_frozen BK251.out 0
            have hfz17_1 := blk_frozen BK251.out 1
            have hfz17_2 := blk_frozen BK251.out 2
            go_wp2_with (first | (go_at_call 10; (with_reducible refine (morainelaw4_few.calls k a0_0 _ _ l0_1 _ _ l0_2 true _ ?side1 ?side2 ?side3 ?side4 A11.out).mono ?_); (case side1 => exact zw2 HR0_1.out HB.out); (case side2 => exact HC0_1.out); (case side3 => exact zw2 HR0_2.out HB.out); (case side4 => exact HC0_2.out); rintro e w18 ⟨rfl, hb⟩; have n0_ := Aside0.mk (blk_below (g := gb251) (o := .cells #[.bool a0_0, .slice A0_1 l0_1.length c0_1, .slice A0_2 l0_2.length c0_2] 25 (0, 0)) (zw0 BK251.out) hb); have n1_ := Aside0.mk (blk_below (g := gb252) (o := .cells #[.bool a1_0, .slice A1_1 l1_1.length c1_1, .slice A1_2 l1_2.length c1_2] 25 (0, 0)) (zw0 BK252.out) hb); have n2_ := Aside0.mk (below_step (zw3 HB.out GE251.out GE252.out) hb); clear BK251; clear BK252; clear HB; have BK251 := n0_; have BK252 := n1_; have HB := n2_; clear n0_ n1_ n2_; (try clear hb); (try clear hb2); (try clear hk); (try clear hi); have hcz19_0 : w18.cell? ⟨gb252, 0, none⟩ = some (.bool a1_0) := (blk_cell BK252.out 0).trans rfl; have hcz19_1 : w18.cell? ⟨gb252, 1, none⟩ = some (.slice A1_1 l1_1.length c1_1) := (blk_cell BK252.out 1).trans rfl; have hcz19_2 : w18.cell? ⟨gb252, 2, none⟩ = some (.slice A1_2 l1_2.length c1_2) := (blk_cell BK252.out 2).trans rfl; have hfz19_0 := blk_frozen BK252.out 0; have hfz19_1 := blk_frozen BK252.out 1; have hfz19_2 := blk_frozen BK252.out 2) | (go_at_call 10; (with_reducible refine (morainelaw4_few.calls k a1_0 _ _ l1_1 _ _ l1_2 true _ ?side1 ?side2 ?side3 ?side4 A13.out).mono ?_); (case side1 => exact zw2 HR1_1.out HB.out); (case side2 => exact HC1_1.out); (case side3 => exact zw2 HR1_2.out HB.out); (case side4 => exact HC1_2.out); rintro e w20 ⟨rfl, hb⟩; have n0_ := Aside0.mk (blk_below (g := gb251) (o := .cells #[.bool a0_0, .slice A0_1 l0_1.length c0_1, .slice A0_2 l0_2.length c0_2] 25 (0, 0)) (zw0 BK251.out) hb); have n1_ := Aside0.mk (blk_below (g := gb252) (o := .cells #[.bool a1_0, .slice A1_1 l1_1.length c1_1, .slice A1_2 l1_2.length c1_2] 25 (0, 0)) (zw0 BK252.out) hb); have n2_ := Aside0.mk (below_step (zw3 HB.out GE251.out GE252.out) hb); clear BK251; clear BK252; clear HB; have BK251 := n0_; have BK252 := n1_; have HB := n2_; clear n0_ n1_ n2_; (try clear hb); (try clear hb2); (try clear hk); (try clear hi)))
            skip
            go_meet
            case rel => exact ⟨_, (true), zw11, H', ⟨by first | omega | exact Nat.le_refl _⟩, ⟨by (with_reducible repeat (first | refine blk_drewN ?_ _ | refine blk_drew ?_ | refine blk_alloc ?_ _)); exact BK251.out⟩, ⟨by (with_reducible repeat (first | refine blk_drewN ?_ _ | refine blk_drew ?_ | refine blk_alloc ?_ _)); exact BK252.out⟩, ⟨by repeat (first | (with_reducible first | exact HB.out | apply below_alloc | apply pw_below_drewN | apply below_drew1 | refine below_set ?_ GE251.out | refine below_set ?_ GE252.out) | exact HB.out)⟩⟩
          · rw [if_neg c15] at H
            have c15b0 : decide (200 < (l2.length : Int)) = false := decide_eq_false c15
            have c15b1 : decide (200 < l2.length) = false := decide_eq_false (by omega)
            clear c15
            (first | rw [c15b0] | (simp only [i64_w, i32_w]; rw [c15b0]) | skip)
            have H' := Aside0.mk H
            clear H
            have hnb21 := NB251_252.out
            have hnc21 := NB252_251.out
            have hcz22_0 : w10.cell? ⟨gb251, 0, none⟩ = some (.bool a0_0) := (blk_cell BK251.out 0).trans rfl
            have hcz22_1 : w10.cell? ⟨gb251, 1, none⟩ = some (.slice A0_1 l0_1.length c0_1) := (blk_cell BK251.out 1).trans rfl
            have hcz22_2 : w10.cell? ⟨gb251, 2, none⟩ = some (.slice A0_2 l0_2.length c0_2) := (blk_cell BK251.out 2).trans rfl
            have hfz22_0 := blk_frozen BK251.out 0
            have hfz22_1 := blk_frozen BK251.out 1
            have hfz22_2 := blk_frozen BK251.out 2
            go_wp2_with (first | (go_at_call 10; (with_reducible refine (morainelaw4_few.calls k a0_0 _ _ l0_1 _ _ l0_2 true _ ?side1 ?side2 ?side3 ?side4 A11.out).mono ?_); (case side1 => exact zw2 HR0_1.out HB.out); (case side2 => exact HC0_1.out); (case side3 => exact zw2 HR0_2.out HB.out); (case side4 => exact HC0_2.out); rintro e w23 ⟨rfl, hb⟩; have n0_ := Aside0.mk (blk_below (g := gb251) (o := .cells #[.bool a0_0, .slice A0_1 l0_1.length c0_1, .slice A0_2 l0_2.length c0_2] 25 (0, 0)) (zw0 BK251.out) hb); have n1_ := Aside0.mk (blk_below (g := gb252) (o := .cells #[.bool a1_0, .slice A1_1 l1_1.length c1_1, .slice A1_2 l1_2.length c1_2] 25 (0, 0)) (zw0 BK252.out) hb); have n2_ := Aside0.mk (below_step (zw3 HB.out GE251.out GE252.out) hb); clear BK251; clear BK252; clear HB; have BK251 := n0_; have BK252 := n1_; have HB := n2_; clear n0_ n1_ n2_; (try clear hb); (try clear hb2); (try clear hk); (try clear hi); have hcz24_0 : w23.cell? ⟨gb252, 0, none⟩ = some (.bool a1_0) := (blk_cell BK252.out 0).trans rfl; have hcz24_1 : w23.cell? ⟨gb252, 1, none⟩ = some (.slice A1_1 l1_1.length c1_1) := (blk_cell BK252.out 1).trans rfl; have hcz24_2 : w23.cell? ⟨gb252, 2, none⟩ = some (.slice A1_2 l1_2.length c1_2) := (blk_cell BK252.out 2).trans rfl; have hfz24_0 := blk_frozen BK252.out 0; have hfz24_1 := blk_frozen BK252.out 1; have hfz24_2 := blk_frozen BK252.out 2) | (go_at_call 10; (with_reducible refine (morainelaw4_few.calls k a1_0 _ _ l1_1 _ _ l1_2 true _ ?side1 ?side2 ?side3 ?side4 A13.out).mono ?_); (case side1 => exact zw2 HR1_1.out HB.out); (case side2 => exact HC1_1.out); (case side3 => exact zw2 HR1_2.out HB.out); (case side4 => exact HC1_2.out); rintro e w25 ⟨rfl, hb⟩; have n0_ := Aside0.mk (blk_below (g := gb251) (o := .cells #[.bool a0_0, .slice A0_1 l0_1.length c0_1, .slice A0_2 l0_2.length c0_2] 25 (0, 0)) (zw0 BK251.out) hb); have n1_ := Aside0.mk (blk_below (g := gb252) (o := .cells #[.bool a1_0, .slice A1_1 l1_1.length c1_1, .slice A1_2 l1_2.length c1_2] 25 (0, 0)) (zw0 BK252.out) hb); have n2_ := Aside0.mk (below_step (zw3 HB.out GE251.out GE252.out) hb); clear BK251; clear BK252; clear HB; have BK251 := n0_; have BK252 := n1_; have HB := n2_; clear n0_ n1_ n2_; (try clear hb); (try clear hb2); (try clear hk); (try clear hi)))
            skip
            go_meet
            case rel => exact ⟨_, (decide ((l3.length : Int) > 3000)), zw11, H', ⟨by first | omega | exact Nat.le_refl _⟩, ⟨by (with_reducible repeat (first | refine blk_drewN ?_ _ | refine blk_drew ?_ | refine blk_alloc ?_ _)); exact BK251.out⟩, ⟨by (with_reducible repeat (first | refine blk_drewN ?_ _ | refine blk_drew ?_ | refine blk_alloc ?_ _)); exact BK252.out⟩, ⟨by repeat (first | (with_reducible first | exact HB.out | apply below_alloc | apply pw_below_drewN | apply below_drew1 | refine below_set ?_ GE251.out | refine below_set ?_ GE252.out) | exact HB.out)⟩⟩
        · replace c14 := Bool.eq_false_iff.mpr c14
          subst c14
          have H1 : (morainelaw4_RlpBack.j0 k l2 l3 true a0_0 l0_1 l0_2 a1_0 l1_1 l1_2) = some r := by rw [if_neg (show ¬ (false = true) by decide)] at H; exact H
          clear H
          have H := H1
          clear H1
          have H' := Aside0.mk H
          clear H
          have hnb26 := NB251_252.out
          have hnc26 := NB252_251.out
          have hcz27_0 : w10.cell? ⟨gb251, 0, none⟩ = some (.bool a0_0) := (blk_cell BK251.out 0).trans rfl
          have hcz27_1 : w10.cell? ⟨gb251, 1, none⟩ = some (.slice A0_1 l0_1.length c0_1) := (blk_cell BK251.out 1).trans rfl
          have hcz27_2 : w10.cell? ⟨gb251, 2, none⟩ = some (.slice A0_2 l0_2.length c0_2) := (blk_cell BK251.out 2).trans rfl
          have hfz27_0 := blk_frozen BK251.out 0
          have hfz27_1 := blk_frozen BK251.out 1
          have hfz27_2 := blk_frozen BK251.out 2
          go_wp2_with (first | (go_at_call 10; (with_reducible refine (morainelaw4_few.calls k a0_0 _ _ l0_1 _ _ l0_2 true _ ?side1 ?side2 ?side3 ?side4 A11.out).mono ?_); (case side1 => exact zw2 HR0_1.out HB.out); (case side2 => exact HC0_1.out); (case side3 => exact zw2 HR0_2.out HB.out); (case side4 => exact HC0_2.out); rintro e w28 ⟨rfl, hb⟩; have n0_ := Aside0.mk (blk_below (g := gb251) (o := .cells #[.bool a0_0, .slice A0_1 l0_1.length c0_1, .slice A0_2 l0_2.length c0_2] 25 (0, 0)) (zw0 BK251.out) hb); have n1_ := Aside0.mk (blk_below (g := gb252) (o := .cells #[.bool a1_0, .slice A1_1 l1_1.length c1_1, .slice A1_2 l1_2.length c1_2] 25 (0, 0)) (zw0 BK252.out) hb); have n2_ := Aside0.mk (below_step (zw3 HB.out GE251.out GE252.out) hb); clear BK251; clear BK252; clear HB; have BK251 := n0_; have BK252 := n1_; have HB := n2_; clear n0_ n1_ n2_; (try clear hb); (try clear hb2); (try clear hk); (try clear hi); have hcz29_0 : w28.cell? ⟨gb252, 0, none⟩ = some (.bool a1_0) := (blk_cell BK252.out 0).trans rfl; have hcz29_1 : w28.cell? ⟨gb252, 1, none⟩ = some (.slice A1_1 l1_1.length c1_1) := (blk_cell BK252.out 1).trans rfl; have hcz29_2 : w28.cell? ⟨gb252, 2, none⟩ = some (.slice A1_2 l1_2.length c1_2) := (blk_cell BK252.out 2).trans rfl; have hfz29_0 := blk_frozen BK252.out 0; have hfz29_1 := blk_frozen BK252.out 1; have hfz29_2 := blk_frozen BK252.out 2) | (go_at_call 10; (with_reducible refine (morainelaw4_few.calls k a1_0 _ _ l1_1 _ _ l1_2 false _ ?side1 ?side2 ?side3 ?side4 A13.out).mono ?_); (case side1 => exact zw2 HR1_1.out HB.out); (case side2 => exact HC1_1.out); (case side3 => exact zw2 HR1_2.out HB.out); (case side4 => exact HC1_2.out); rintro e w30 ⟨rfl, hb⟩; have n0_ := Aside0.mk (blk_below (g := gb251) (o := .cells #[.bool a0_0, .slice A0_1 l0_1.length c0_1, .slice A0_2 l0_2.length c0_2] 25 (0, 0)) (zw0 BK251.out) hb); have n1_ := Aside0.mk (blk_below (g := gb252) (o := .cells #[.bool a1_0, .slice A1_1 l1_1.length c1_1, .slice A1_2 l1_2.length c1_2] 25 (0, 0)) (zw0 BK252.out) hb); have n2_ := Aside0.mk (below_step (zw3 HB.out GE251.out GE252.out) hb); clear BK251; clear BK252; clear HB; have BK251 := n0_; have BK252 := n1_; have HB := n2_; clear n0_ n1_ n2_; (try clear hb); (try clear hb2); (try clear hk); (try clear hi)))
          skip
          go_meet
          case rel => exact ⟨_, (true), zw11, H', ⟨by first | omega | exact Nat.le_refl _⟩, ⟨by (with_reducible repeat (first | refine blk_drewN ?_ _ | refine blk_drew ?_ | refine blk_alloc ?_ _)); exact BK251.out⟩, ⟨by (with_reducible repeat (first | refine blk_drewN ?_ _ | refine blk_drew ?_ | refine blk_alloc ?_ _)); exact BK252.out⟩, ⟨by repeat (first | (with_reducible first | exact HB.out | apply below_alloc | apply pw_below_drewN | apply below_drew1 | refine below_set ?_ GE251.out | refine below_set ?_ GE252.out) | exact HB.out)⟩⟩
      · replace c12 := Bool.eq_false_iff.mpr c12
        subst c12
        have H1 : (morainelaw4_RlpBack.j0 k l2 l3 true a0_0 l0_1 l0_2 a1_0 l1_1 l1_2) = some r := by rw [if_neg (show ¬ (false = true) by decide)] at H; exact H
        clear H
        have H := H1
        clear H1
        have H' := Aside0.mk H
        clear H
        have hnb31 := NB251_252.out
        have hnc31 := NB252_251.out
        have hcz32_0 : w10.cell? ⟨gb251, 0, none⟩ = some (.bool a0_0) := (blk_cell BK251.out 0).trans rfl
        have hcz32_1 : w10.cell? ⟨gb251, 1, none⟩ = some (.slice A0_1 l0_1.length c0_1) := (blk_cell BK251.out 1).trans rfl
        have hcz32_2 : w10.cell? ⟨gb251, 2, none⟩ = some (.slice A0_2 l0_2.length c0_2) := (blk_cell BK251.out 2).trans rfl
        have hfz32_0 := blk_frozen BK251.out 0
        have hfz32_1 := blk_frozen BK251.out 1
        have hfz32_2 := blk_frozen BK251.out 2
        go_wp2_with (first | (go_at_call 10; (with_reducible refine (morainelaw4_few.calls k a0_0 _ _ l0_1 _ _ l0_2 false _ ?side1 ?side2 ?side3 ?side4 A11.out).mono ?_); (case side1 => exact zw2 HR0_1.out HB.out); (case side2 => exact HC0_1.out); (case side3 => exact zw2 HR0_2.out HB.out); (case side4 => exact HC0_2.out); rintro e w33 ⟨rfl, hb⟩; have n0_ := Aside0.mk (blk_below (g := gb251) (o := .cells #[.bool a0_0, .slice A0_1 l0_1.length c0_1, .slice A0_2 l0_2.length c0_2] 25 (0, 0)) (zw0 BK251.out) hb); have n1_ := Aside0.mk (blk_below (g := gb252) (o := .cells #[.bool a1_0, .slice A1_1 l1_1.length c1_1, .slice A1_2 l1_2.length c1_2] 25 (0, 0)) (zw0 BK252.out) hb); have n2_ := Aside0.mk (below_step (zw3 HB.out GE251.out GE252.out) hb); clear BK251; clear BK252; clear HB; have BK251 := n0_; have BK252 := n1_; have HB := n2_; clear n0_ n1_ n2_; (try clear hb); (try clear hb2); (try clear hk); (try clear hi)))
        repeat (go_quiet (first | (go_at_call 10; (with_reducible refine (morainelaw4_few.calls k a0_0 _ _ l0_1 _ _ l0_2 false _ ?side1 ?side2 ?side3 ?side4 A11.out).mono ?_); (case side1 => exact zw2 HR0_1.out HB.out); (case side2 => exact HC0_1.out); (case side3 => exact zw2 HR0_2.out HB.out); (case side4 => exact HC0_2.out); rintro e w33 ⟨rfl, hb⟩; have n0_ := Aside0.mk (blk_below (g := gb251) (o := .cells #[.bool a0_0, .slice A0_1 l0_1.length c0_1, .slice A0_2 l0_2.length c0_2] 25 (0, 0)) (zw0 BK251.out) hb); have n1_ := Aside0.mk (blk_below (g := gb252) (o := .cells #[.bool a1_0, .slice A1_1 l1_1.length c1_1, .slice A1_2 l1_2.length c1_2] 25 (0, 0)) (zw0 BK252.out) hb); have n2_ := Aside0.mk (below_step (zw3 HB.out GE251.out GE252.out) hb); clear BK251; clear BK252; clear HB; have BK251 := n0_; have BK252 := n1_; have HB := n2_; clear n0_ n1_ n2_; (try clear hb); (try clear hb2); (try clear hk); (try clear hi))); try go_wp2_with (first | (go_at_call 10; (with_reducible refine (morainelaw4_few.calls k a0_0 _ _ l0_1 _ _ l0_2 false _ ?side1 ?side2 ?side3 ?side4 A11.out).mono ?_); (case side1 => exact zw2 HR0_1.out HB.out); (case side2 => exact HC0_1.out); (case side3 => exact zw2 HR0_2.out HB.out); (case side4 => exact HC0_2.out); rintro e w33 ⟨rfl, hb⟩; have n0_ := Aside0.mk (blk_below (g := gb251) (o := .cells #[.bool a0_0, .slice A0_1 l0_1.length c0_1, .slice A0_2 l0_2.length c0_2] 25 (0, 0)) (zw0 BK251.out) hb); have n1_ := Aside0.mk (blk_below (g := gb252) (o := .cells #[.bool a1_0, .slice A1_1 l1_1.length c1_1, .slice A1_2 l1_2.length c1_2] 25 (0, 0)) (zw0 BK252.out) hb); have n2_ := Aside0.mk (below_step (zw3 HB.out GE251.out GE252.out) hb); clear BK251; clear BK252; clear HB; have BK251 := n0_; have BK252 := n1_; have HB := n2_; clear n0_ n1_ n2_; (try clear hb); (try clear hb2); (try clear hk); (try clear hi))))
        go_meet
        case rel => exact ⟨_, (true), zw11, H', ⟨by first | omega | exact Nat.le_refl _⟩, ⟨by (with_reducible repeat (first | refine blk_drewN ?_ _ | refine blk_drew ?_ | refine blk_alloc ?_ _)); exact BK251.out⟩, ⟨by (with_reducible repeat (first | refine blk_drewN ?_ _ | refine blk_drew ?_ | refine blk_alloc ?_ _)); exact BK252.out⟩, ⟨by repeat (first | (with_reducible first | exact HB.out | apply below_alloc | apply pw_below_drewN | apply below_drew1 | refine below_set ?_ GE251.out | refine below_set ?_ GE252.out) | exact HB.out)⟩⟩
    case rest =>
      clear HC7
      try clear c1
      try clear c2
      try clear p2
      try clear c3
      try clear c6
      try clear c8
      try clear c12
      try clear c14
      try clear c15
      try clear c15b0
      try clear c15b1
      try clear c16
      try clear c21
      try clear c26
      try clear c31
      try clear hcz17_0
      try clear hcz17_1
      try clear hcz17_2
      try clear hcz19_0
      try clear hcz19_1
      try clear hcz19_2
      try clear hcz22_0
      try clear hcz22_1
      try clear hcz22_2
      try clear hcz24_0
      try clear hcz24_1
      try clear hcz24_2
      try clear hcz27_0
      try clear hcz27_1
      try clear hcz27_2
      try clear hcz29_0
      try clear hcz29_1
      try clear hcz29_2
      try clear hcz32_0
      try clear hcz32_1
      try clear hcz32_2
      try clear hfz17_0
      try clear hfz17_1
      try clear hfz17_2
      try clear hfz19_0
      try clear hfz19_1
      try clear hfz19_2
      try clear hfz22_0
      try clear hfz22_1
      try clear hfz22_2
      try clear hfz24_0
      try clear hfz24_1
      try clear hfz24_2
      try clear hfz27_0
      try clear hfz27_1
      try clear hfz27_2
      try clear hfz29_0
      try clear hfz29_1
      try clear hfz29_2
      try clear hfz32_0
      try clear hfz32_1
      try clear hfz32_2
      obtain ⟨kq, x38_6, rfl, HA, HJ6, BK251, BK252, HB⟩ := hcut
      cases kq with
      | zero => exact absurd HA.out (by simp [morainelaw4_RlpBack.j0])
      | succ kj6 =>
        have H := HA.out
        clear HA
        simp only [morainelaw4_RlpBack.j0] at H
        by_cases c34 : x38_6 = true
        · subst c34
          have H1 : (some true) = some r := by rw [if_pos rfl] at H; exact H
          clear H
          have H := H1
          clear H1
          obtain rfl := Option.some.inj H
          go_wp2
          repeat (go_quiet (fail); try go_wp2)
          go_ret
          exact ⟨by first | rfl | (simp [errW_none, errW_some] <;> rfl) | (simp [*, errW_none, errW_some] <;> rfl), by repeat (first | (with_reducible first | exact HB.out | apply below_alloc | apply pw_below_drewN | apply below_drew1 | refine below_set ?_ GE251.out | refine below_set ?_ GE252.out) | exact HB.out)⟩
        · replace c34 := Bool.eq_false_iff.mpr c34
          subst c34
          have H1 : ((rlp_Encode.f kj6 a0_0 l0_1 l0_2).bind fun bt256 => ((rlp_Encode.f kj6 a1_0 l1_1 l1_2).bind fun bt260 => (if bt256.2 = 0 then ((rlp_Decode.f kj6 bt256.1).bind fun bt264 => (if ([] : List Int).length + bt256.1.length < 140737488355328 then ((some (([] : List Int) ++ bt256.1 : List Int)).bind fun y273 => (if y273.length + l2.length < 140737488355328 then ((rlp_First.f kj6 (y273 ++ l2)).bind fun bt279 => (if bt264.2.2.2 = 0 then ((moraineref4_Same.f kj6 a0_0 l0_1 l0_2 bt264.1 bt264.2.1 bt264.2.2.1).bind fun t289 => (if t289 = true then ((rlp_Equal.f kj6 a0_0 l0_1 l0_2 bt264.1 bt264.2.1 bt264.2.2.1).bind fun t290 => (morainelaw4_RlpBack.j1 kj6 l2 l3 bt256.1 bt256.2 bt260.1 bt260.2 bt279.2.2.2.1 bt279.2.2.2.2 (!t290) a0_0 l0_1 l0_2 a1_0 l1_1 l1_2 bt279.1 bt279.2.1 bt279.2.2.1)) else (morainelaw4_RlpBack.j1 kj6 l2 l3 bt256.1 bt256.2 bt260.1 bt260.2 bt279.2.2.2.1 bt279.2.2.2.2 true a0_0 l0_1 l0_2 a1_0 l1_1 l1_2 bt279.1 bt279.2.1 bt279.2.2.1))) else (morainelaw4_RlpBack.j1 kj6 l2 l3 bt256.1 bt256.2 bt260.1 bt260.2 bt279.2.2.2.1 bt279.2.2.2.2 true a0_0 l0_1 l0_2 a1_0 l1_1 l1_2 bt279.1 bt279.2.1 bt279.2.2.1))) else (none))) else (none))) else (morainelaw4_RlpBack.j2 kj6 l3 bt256.1 bt256.2 bt260.1 bt260.2 a0_0 l0_1 l0_2 a1_0 l1_1 l1_2)))) = some r := by rw [if_neg (show ¬ (false = true) by decide)] at H; exact H
          clear H
          have H := H1
          clear H1
          replace H := Option.bind_eq_some_iff.mp H
          obtain ⟨⟨t256, t259⟩, A350, H⟩ := H
          replace H : ((rlp_Encode.f kj6 a1_0 l1_1 l1_2).bind fun bt260 => (if t259 = 0 then ((rlp_Decode.f kj6 t256).bind fun bt264 => (if ([] : List Int).length + t256.length < 140737488355328 then ((some (([] : List Int) ++ t256 : List Int)).bind fun y273 => (if y273.length + l2.length < 140737488355328 then ((rlp_First.f kj6 (y273 ++ l2)).bind fun bt279 => (if bt264.2.2.2 = 0 then ((moraineref4_Same.f kj6 a0_0 l0_1 l0_2 bt264.1 bt264.2.1 bt264.2.2.1).bind fun t289 => (if t289 = true then ((rlp_Equal.f kj6 a0_0 l0_1 l0_2 bt264.1 bt264.2.1 bt264.2.2.1).bind fun t290 => (morainelaw4_RlpBack.j1 kj6 l2 l3 t256 t259 bt260.1 bt260.2 bt279.2.2.2.1 bt279.2.2.2.2 (!t290) a0_0 l0_1 l0_2 a1_0 l1_1 l1_2 bt279.1 bt279.2.1 bt279.2.2.1)) else (morainelaw4_RlpBack.j1 kj6 l2 l3 t256 t259 bt260.1 bt260.2 bt279.2.2.2.1 bt279.2.2.2.2 true a0_0 l0_1 l0_2 a1_0 l1_1 l1_2 bt279.1 bt279.2.1 bt279.2.2.1))) else (morainelaw4_RlpBack.j1 kj6 l2 l3 t256 t259 bt260.1 bt260.2 bt279.2.2.2.1 bt279.2.2.2.2 true a0_0 l0_1 l0_2 a1_0 l1_1 l1_2 bt279.1 bt279.2.1 bt279.2.2.1))) else (none))) else (none))) else (morainelaw4_RlpBack.j2 kj6 l3 t256 t259 bt260.1 bt260.2 a0_0 l0_1 l0_2 a1_0 l1_1 l1_2))) = some r := H
          have A35 := Aside0.mk A350
          clear A350
          replace H := Option.bind_eq_some_iff.mp H
          obtain ⟨⟨t260, t263⟩, A360, H⟩ := H
          replace H : (if t259 = 0 then ((rlp_Decode.f kj6 t256).bind fun bt264 => (if ([] : List Int).length + t256.length < 140737488355328 then ((some (([] : List Int) ++ t256 : List Int)).bind fun y273 => (if y273.length + l2.length < 140737488355328 then ((rlp_First.f kj6 (y273 ++ l2)).bind fun bt279 => (if bt264.2.2.2 = 0 then ((moraineref4_Same.f kj6 a0_0 l0_1 l0_2 bt264.1 bt264.2.1 bt264.2.2.1).bind fun t289 => (if t289 = true then ((rlp_Equal.f kj6 a0_0 l0_1 l0_2 bt264.1 bt264.2.1 bt264.2.2.1).bind fun t290 => (morainelaw4_RlpBack.j1 kj6 l2 l3 t256 t259 t260 t263 bt279.2.2.2.1 bt279.2.2.2.2 (!t290) a0_0 l0_1 l0_2 a1_0 l1_1 l1_2 bt279.1 bt279.2.1 bt279.2.2.1)) else (morainelaw4_RlpBack.j1 kj6 l2 l3 t256 t259 t260 t263 bt279.2.2.2.1 bt279.2.2.2.2 true a0_0 l0_1 l0_2 a1_0 l1_1 l1_2 bt279.1 bt279.2.1 bt279.2.2.1))) else (morainelaw4_RlpBack.j1 kj6 l2 l3 t256 t259 t260 t263 bt279.2.2.2.1 bt279.2.2.2.2 true a0_0 l0_1 l0_2 a1_0 l1_1 l1_2 bt279.1 bt279.2.1 bt279.2.2.1))) else (none))) else (none))) else (morainelaw4_RlpBack.j2 kj6 l3 t256 t259 t260 t263 a0_0 l0_1 l0_2 a1_0 l1_1 l1_2)) = some r := H
          have A36 := Aside0.mk A360
          clear A360
          have HC37 := Aside0.mk H
          clear H
          have hnb38 := NB251_252.out
          have hnc38 := NB252_251.out
          have hcz39_0 : wc.cell? ⟨gb251, 0, none⟩ = some (.bool a0_0) := (blk_cell BK251.out 0).trans rfl
          have hcz39_1 : wc.cell? ⟨gb251, 1, none⟩ = some (.slice A0_1 l0_1.length c0_1) := (blk_cell BK251.out 1).trans rfl
          have hcz39_2 : wc.cell? ⟨gb251, 2, none⟩ = some (.slice A0_2 l0_2.length c0_2) := (blk_cell BK251.out 2).trans rfl
          have hfz39_0 := blk_frozen BK251.out 0
          have hfz39_1 := blk_frozen BK251.out 1
          have hfz39_2 := blk_frozen BK251.out 2
          go_upto_if 50 with (first | (go_at_call 11; (with_reducible refine (rlp_Encode.calls kj6 a0_0 _ _ l0_1 _ _ l0_2 t256 t259 _ ?side1 ?side2 ?side3 ?side4 A35.out).mono ?_); (case side1 => exact zw2 HR0_1.out HB.out); (case side2 => exact HC0_1.out); (case side3 => exact zw2 HR0_2.out HB.out); (case side4 => exact HC0_2.out); rintro e w40 ⟨v257, rfl, ho0, hb⟩; have n0_ := Aside0.mk (Kd.R_lower ho0 (below_size (zw3 HB.out GE251.out GE252.out))); have n1_ := Aside0.mk (blk_below (g := gb251) (o := .cells #[.bool a0_0, .slice A0_1 l0_1.length c0_1, .slice A0_2 l0_2.length c0_2] 25 (0, 0)) (zw0 BK251.out) hb); have n2_ := Aside0.mk (blk_below (g := gb252) (o := .cells #[.bool a1_0, .slice A1_1 l1_1.length c1_1, .slice A1_2 l1_2.length c1_2] 25 (0, 0)) (zw0 BK252.out) hb); have n3_ := Aside0.mk (below_step (zw3 HB.out GE251.out GE252.out) hb); clear BK251; clear BK252; clear HB; have HO258 := n0_; have BK251 := n1_; have BK252 := n2_; have HB := n3_; clear n0_ n1_ n2_ n3_; (try clear hb); (try clear hb2); (try clear hk); (try clear hi); (try clear ho0); have hcz41_0 : w40.cell? ⟨gb252, 0, none⟩ = some (.bool a1_0) := (blk_cell BK252.out 0).trans rfl; have hcz41_1 : w40.cell? ⟨gb252, 1, none⟩ = some (.slice A1_1 l1_1.length c1_1) := (blk_cell BK252.out 1).trans rfl; have hcz41_2 : w40.cell? ⟨gb252, 2, none⟩ = some (.slice A1_2 l1_2.length c1_2) := (blk_cell BK252.out 2).trans rfl; have hfz41_0 := blk_frozen BK252.out 0; have hfz41_1 := blk_frozen BK252.out 1; have hfz41_2 := blk_frozen BK252.out 2) | (go_at_call 11; (with_reducible refine (rlp_Encode.calls kj6 a1_0 _ _ l1_1 _ _ l1_2 t260 t263 _ ?side1 ?side2 ?side3 ?side4 A36.out).mono ?_); (case side1 => exact zw2 HR1_1.out HB.out); (case side2 => exact HC1_1.out); (case side3 => exact zw2 HR1_2.out HB.out); (case side4 => exact HC1_2.out); rintro e w42 ⟨v261, rfl, ho0, hb⟩; have n0_ := Aside0.mk (Kd.R_elder' (zw1 HO258.out) (Kd.R_base ho0) hb); have n1_ := Aside0.mk (Kd.R_lower (Kd.R_new' ho0 (Kd.R_lt (zw1 HO258.out))) (below_size (zw3 HB.out GE251.out GE252.out))); have n2_ := Aside0.mk (blk_below (g := gb251) (o := .cells #[.bool a0_0, .slice A0_1 l0_1.length c0_1, .slice A0_2 l0_2.length c0_2] 25 (0, 0)) (zw0 BK251.out) hb); have n3_ := Aside0.mk (blk_below (g := gb252) (o := .cells #[.bool a1_0, .slice A1_1 l1_1.length c1_1, .slice A1_2 l1_2.length c1_2] 25 (0, 0)) (zw0 BK252.out) hb); have n4_ := Aside0.mk (below_step (zw3 HB.out GE251.out GE252.out) hb); clear HO258; clear BK251; clear BK252; clear HB; have HO258 := n0_; have HO262 := n1_; have BK251 := n2_; have BK252 := n3_; have HB := n4_; clear n0_ n1_ n2_ n3_ n4_; (try clear hb); (try clear hb2); (try clear hk); (try clear hi); (try clear ho0)))
          skip
          (try simp only [Act.put, List.setIfInBounds_toArray, List.set_cons_zero, List.set_cons_succ])
          go_cut [] (fun wc => ∃ (kq : Nat), Aside0 (morainelaw4_RlpBack.j2 kq l3 t256 t259 t260 t263 a0_0 l0_1 l0_2 a1_0 l1_1 l1_2 = some r) ∧ Aside0 (kq ≤ kj6) ∧ Aside0 (Kd.R (Kd.int .u8) 5 wc w.heap.size (fun k_ => some k_ ≠ (v261 : Value).ownBlock) v257 t256) ∧ Aside0 (Kd.R (Kd.int .u8) 5 wc w.heap.size (fun k_ => some k_ ≠ (v257 : Value).ownBlock) v261 t260) ∧ Aside0 (wc.heap[gb251]? = some (.cells #[.bool a0_0, (.slice A0_1 l0_1.length c0_1), (.slice A0_2 l0_2.length c0_2)] 25 (0, 0))) ∧ Aside0 (wc.heap[gb252]? = some (.cells #[.bool a1_0, (.slice A1_1 l1_1.length c1_1), (.slice A1_2 l1_2.length c1_2)] 25 (0, 0))) ∧ Aside0 (Below w.heap.size w wc))
          case first =>
            have H := HC37.out
            clear HC37
            by_cases c43 : t259 = 0
            · rw [if_pos c43] at H
              have c43b0 : (t259 == 0) = true := beq_iff_eq.mpr c43
              have c43b1 : (t259 != 0) = false := bne_eq_false_iff_eq.mpr c43
              clear c43
              (first | rw [c43b0] | (simp only [i64_w, i32_w]; rw [c43b0]) | skip)
              replace H := Option.bind_eq_some_iff.mp H
              obtain ⟨⟨t264, t265, t268, t271⟩, A440, H⟩ := H
              replace H : (if ([] : List Int).length + t256.length < 140737488355328 then ((some (([] : List Int) ++ t256 : List Int)).bind fun y273 => (if y273.length + l2.length < 140737488355328 then ((rlp_First.f kj6 (y273 ++ l2)).bind fun bt279 => (if t271 = 0 then ((moraineref4_Same.f kj6 a0_0 l0_1 l0_2 t264 t265 t268).bind fun t289 => (if t289 = true then ((rlp_Equal.f kj6 a0_0 l0_1 l0_2 t264 t265 t268).bind fun t290 => (morainelaw4_RlpBack.j1 kj6 l2 l3 t256 t259 t260 t263 bt279.2.2.2.1 bt279.2.2.2.2 (!t290) a0_0 l0_1 l0_2 a1_0 l1_1 l1_2 bt279.1 bt279.2.1 bt279.2.2.1)) else (morainelaw4_RlpBack.j1 kj6 l2 l3 t256 t259 t260 t263 bt279.2.2.2.1 bt279.2.2.2.2 true a0_0 l0_1 l0_2 a1_0 l1_1 l1_2 bt279.1 bt279.2.1 bt279.2.2.1))) else (morainelaw4_RlpBack.j1 kj6 l2 l3 t256 t259 t260 t263 bt279.2.2.2.1 bt279.2.2.2.2 true a0_0 l0_1 l0_2 a1_0 l1_1 l1_2 bt279.1 bt279.2.1 bt279.2.2.1))) else (none))) else (none)) = some r := H
              have A44 := Aside0.mk A440
              clear A440
              by_cases c45 : ([] : List Int).length + t256.length < 140737488355328
              · rw [if_pos c45] at H
                have LMc45 := Aside0.mk c45
                clear c45
                obtain ⟨y273, hy273⟩ : ∃ y_ : List Int, y_ = (([] : List Int) ++ t256) := ⟨_, rfl⟩
                replace H : (if y273.length + l2.length < 140737488355328 then ((rlp_First.f kj6 (y273 ++ l2)).bind fun bt279 => (if t271 = 0 then ((moraineref4_Same.f kj6 a0_0 l0_1 l0_2 t264 t265 t268).bind fun t289 => (if t289 = true then ((rlp_Equal.f kj6 a0_0 l0_1 l0_2 t264 t265 t268).bind fun t290 => (morainelaw4_RlpBack.j1 kj6 l2 l3 t256 t259 t260 t263 bt279.2.2.2.1 bt279.2.2.2.2 (!t290) a0_0 l0_1 l0_2 a1_0 l1_1 l1_2 bt279.1 bt279.2.1 bt279.2.2.1)) else (morainelaw4_RlpBack.j1 kj6 l2 l3 t256 t259 t260 t263 bt279.2.2.2.1 bt279.2.2.2.2 true a0_0 l0_1 l0_2 a1_0 l1_1 l1_2 bt279.1 bt279.2.1 bt279.2.2.1))) else (morainelaw4_RlpBack.j1 kj6 l2 l3 t256 t259 t260 t263 bt279.2.2.2.1 bt279.2.2.2.2 true a0_0 l0_1 l0_2 a1_0 l1_1 l1_2 bt279.1 bt279.2.1 bt279.2.2.1))) else (none)) = some r := by first | (rw [hy273]; with_reducible exact H) | (have H2_ := (Option.bind_some _ _).symm.trans H; rw [hy273]; with_reducible exact H2_) | (have H2_ := (Option.bind_some _ _).symm.trans H; with_reducible exact H2_) | with_reducible exact H | (rw [hy273]; exact H) | exact H
                have Ny273 := Aside0.mk hy273
                clear hy273
                by_cases c46 : y273.length + l2.length < 140737488355328
                · rw [if_pos c46] at H
                  have LMc46 := Aside0.mk c46
                  clear c46
                  obtain ⟨y276, hy276⟩ : ∃ y_ : List Int, y_ = (y273 ++ l2) := ⟨_, rfl⟩
                  replace H : ((rlp_First.f kj6 y276).bind fun bt279 => (if t271 = 0 then ((moraineref4_Same.f kj6 a0_0 l0_1 l0_2 t264 t265 t268).bind fun t289 => (if t289 = true then ((rlp_Equal.f kj6 a0_0 l0_1 l0_2 t264 t265 t268).bind fun t290 => (morainelaw4_RlpBack.j1 kj6 l2 l3 t256 t259 t260 t263 bt279.2.2.2.1 bt279.2.2.2.2 (!t290) a0_0 l0_1 l0_2 a1_0 l1_1 l1_2 bt279.1 bt279.2.1 bt279.2.2.1)) else (morainelaw4_RlpBack.j1 kj6 l2 l3 t256 t259 t260 t263 bt279.2.2.2.1 bt279.2.2.2.2 true a0_0 l0_1 l0_2 a1_0 l1_1 l1_2 bt279.1 bt279.2.1 bt279.2.2.1))) else (morainelaw4_RlpBack.j1 kj6 l2 l3 t256 t259 t260 t263 bt279.2.2.2.1 bt279.2.2.2.2 true a0_0 l0_1 l0_2 a1_0 l1_1 l1_2 bt279.1 bt279.2.1 bt279.2.2.1))) = some r := by first | (rw [hy276]; with_reducible exact H) | (have H2_ := (Option.bind_some _ _).symm.trans H; rw [hy276]; with_reducible exact H2_) | (have H2_ := (Option.bind_some _ _).symm.trans H; with_reducible exact H2_) | with_reducible exact H | (rw [hy276]; exact H) | exact H
                  have Ny276 := Aside0.mk hy276
                  clear hy276
                  replace H := Option.bind_eq_some_iff.mp H
                  obtain ⟨⟨t279, t280, t283, t286, t287⟩, A470, H⟩ := H
                  replace H : (if t271 = 0 then ((moraineref4_Same.f kj6 a0_0 l0_1 l0_2 t264 t265 t268).bind fun t289 => (if t289 = true then ((rlp_Equal.f kj6 a0_0 l0_1 l0_2 t264 t265 t268).bind fun t290 => (morainelaw4_RlpBack.j1 kj6 l2 l3 t256 t259 t260 t263 t286 t287 (!t290) a0_0 l0_1 l0_2 a1_0 l1_1 l1_2 t279 t280 t283)) else (morainelaw4_RlpBack.j1 kj6 l2 l3 t256 t259 t260 t263 t286 t287 true a0_0 l0_1 l0_2 a1_0 l1_1 l1_2 t279 t280 t283))) else (morainelaw4_RlpBack.j1 kj6 l2 l3 t256 t259 t260 t263 t286 t287 true a0_0 l0_1 l0_2 a1_0 l1_1 l1_2 t279 t280 t283)) = some r := H
                  have A47 := Aside0.mk A470
                  clear A470
                  have HC48 := Aside0.mk H
                  clear H
                  obtain ⟨Ao49, co49, eo49⟩ := Kd.R_slice HO258.out
                  subst eo49
                  go_upto_region 10 with (first | (go_at_call 14; (with_reducible refine (rlp_Decode.calls kj6 _ _ t256 t264 t265 t268 t271 _ ?side1 ?side2 A44.out).mono ?_); (case side1 => exact zw15 HO258.out); (case side2 => exact (Kd.R_reads' HO258.out).2.1); rintro e w50 ⟨v266, v269, rfl, ho0, ho1, hb⟩; have n0_ := Aside0.mk (Kd.R_elder' (zw1 HO258.out) (Kd.R_base ho0) hb); have n1_ := Aside0.mk (Kd.R_elder' (zw1 HO262.out) (Kd.R_base ho0) hb); have n2_ := Aside0.mk (Kd.R_lower (Kd.R_new' (Kd.R_new' ho0 (Kd.R_lt (zw1 HO258.out))) (Kd.R_lt (zw1 HO262.out))) (below_size (zw3 HB.out GE251.out GE252.out))); have n3_ := Aside0.mk (Kd.R_lower (Kd.R_newB (Kd.R_newB (Kd.R_new' (Kd.R_new' ho1 (Kd.R_lt (zw1 HO258.out))) (Kd.R_lt (zw1 HO262.out))) (g := gb251) (o := .cells #[.bool a0_0, .slice A0_1 l0_1.length c0_1, .slice A0_2 l0_2.length c0_2] 25 (0, 0)) (zw0 BK251.out)) (g := gb252) (o := .cells #[.bool a1_0, .slice A1_1 l1_1.length c1_1, .slice A1_2 l1_2.length c1_2] 25 (0, 0)) (zw0 BK252.out)) (below_size (zw3 HB.out GE251.out GE252.out))); have n4_ := Aside0.mk (blk_below (g := gb251) (o := .cells #[.bool a0_0, .slice A0_1 l0_1.length c0_1, .slice A0_2 l0_2.length c0_2] 25 (0, 0)) (zw0 BK251.out) hb); have n5_ := Aside0.mk (blk_below (g := gb252) (o := .cells #[.bool a1_0, .slice A1_1 l1_1.length c1_1, .slice A1_2 l1_2.length c1_2] 25 (0, 0)) (zw0 BK252.out) hb); have n6_ := Aside0.mk (below_step (zw3 HB.out GE251.out GE252.out) hb); clear HO258; clear HO262; clear BK251; clear BK252; clear HB; have HO258 := n0_; have HO262 := n1_; have HO267 := n2_; have HO270 := n3_; have BK251 := n4_; have BK252 := n5_; have HB := n6_; clear n0_ n1_ n2_ n3_ n4_ n5_ n6_; (try clear hb); (try clear hb2); (try clear hk); (try clear hi); (try clear ho0); (try clear ho1)) | ((with_reducible refine gate_dst (N := 13) rfl ?_); (try (refine gate_guard (by rfl) ?_; dsimp only)); refine box_event ?hg (N := 13) ?hd (cs := #[.bool false, .slice none 0 0, .slice none 0 0]) (t := 25) ?hr ?_; (case hd => rfl); (case hg => rfl); (case hr => first | (go_simp; done) | (go_simp; rfl)); intro gb272 hg w51 hbox hb; have n0_ := Aside0.mk (Kd.R_below (zw1 HO258.out) hb); have n1_ := Aside0.mk (Kd.R_below (zw1 HO262.out) hb); have n2_ := Aside0.mk (Kd.R_below (zw1 HO267.out) hb); have n3_ := Aside0.mk (Kd.R_below (Kd.R_elderB (zw1 HO270.out) gb272 (Nat.le_of_eq hg.symm)) hb); have n4_ := Aside0.mk (blk_below (g := gb251) (o := .cells #[.bool a0_0, .slice A0_1 l0_1.length c0_1, .slice A0_2 l0_2.length c0_2] 25 (0, 0)) (zw0 BK251.out) hb); have n5_ := Aside0.mk (blk_below (g := gb252) (o := .cells #[.bool a1_0, .slice A1_1 l1_1.length c1_1, .slice A1_2 l1_2.length c1_2] 25 (0, 0)) (zw0 BK252.out) hb); have n6_ := Aside0.mk (below_step (zw3 HB.out GE251.out GE252.out) hb); have n7_ := Aside0.mk (hbox); have n8_ := Aside0.mk ((by rw [hg]; exact (below_size (zw3 HB.out GE251.out GE252.out)) : w.heap.size ≤ gb272)); have n9_ := Aside0.mk ((by rw [hg]; exact (below_size (zw3 HB.out GE251.out GE252.out)) : w.heap.size ≤ gb272)); have n10_ := Aside0.mk ((by rw [hg]; exact Nat.ne_of_lt (blk_lt (g := gb251) (o := .cells #[.bool a0_0, .slice A0_1 l0_1.length c0_1, .slice A0_2 l0_2.length c0_2] 25 (0, 0)) (zw0 BK251.out)) : gb251 ≠ gb272)); have n11_ := Aside0.mk ((by rw [hg]; exact Nat.ne_of_gt (blk_lt (g := gb251) (o := .cells #[.bool a0_0, .slice A0_1 l0_1.length c0_1, .slice A0_2 l0_2.length c0_2] 25 (0, 0)) (zw0 BK251.out)) : gb272 ≠ gb251)); have n12_ := Aside0.mk ((by rw [hg]; exact Nat.ne_of_lt (blk_lt (g := gb252) (o := .cells #[.bool a1_0, .slice A1_1 l1_1.length c1_1, .slice A1_2 l1_2.length c1_2] 25 (0, 0)) (zw0 BK252.out)) : gb252 ≠ gb272)); have n13_ := Aside0.mk ((by rw [hg]; exact Nat.ne_of_gt (blk_lt (g := gb252) (o := .cells #[.bool a1_0, .slice A1_1 l1_1.length c1_1, .slice A1_2 l1_2.length c1_2] 25 (0, 0)) (zw0 BK252.out)) : gb272 ≠ gb252)); clear HO258; clear HO262; clear HO267; clear HO270; clear BK251; clear BK252; clear HB; have HO258 := n0_; have HO262 := n1_; have HO267 := n2_; have HO270 := n3_; have BK251 := n4_; have BK252 := n5_; have HB := n6_; have BK272 := n7_; have GW272 := n8_; have GE272 := n9_; have NB251_272 := n10_; have NB272_251 := n11_; have NB252_272 := n12_; have NB272_252 := n13_; clear n0_ n1_ n2_ n3_ n4_ n5_ n6_ n7_ n8_ n9_ n10_ n11_ n12_ n13_; clear hb hbox hg; have hnb52 := NB272_251.out; have hnc52 := NB251_272.out; have hnb53 := NB272_252.out; have hnc53 := NB252_272.out; have hcz54_0 : w51.cell? ⟨gb272, 0, none⟩ = some (.bool false) := (blk_cell BK272.out 0).trans rfl; have hcz54_1 : w51.cell? ⟨gb272, 1, none⟩ = some (.slice none 0 0) := (blk_cell BK272.out 1).trans rfl; have hcz54_2 : w51.cell? ⟨gb272, 2, none⟩ = some (.slice none 0 0) := (blk_cell BK272.out 2).trans rfl; have hfz54_0 := blk_frozen BK272.out 0; have hfz54_1 := blk_frozen BK272.out 1; have hfz54_2 := blk_frozen BK272.out 2; obtain ⟨Ao55, co55, eo55⟩ := Kd.R_slice HO267.out; subst eo55; obtain ⟨Ao56, co56, eo56⟩ := Kd.R_slice HO270.out; subst eo56) | ((with_reducible refine gate_builtin (b := .append) (xs := #[.const (.slice none 0 0), .tmp 57]) rfl ?_); (try (refine gate_guard (by rfl) ?_; dsimp only)); at_builtin; refine Kd.R_append_rows (Kd.int .u8) (w0 := w) w.heap.size rfl (.const (.slice none 0 0)) (.tmp 57) 22 5 (.int .u8 0) 1 rfl Try.underlying22 info5 rfl (by decide) (by omega) (.slice none 0 0) ([] : List Int) t256 _ _ _ (fun k_ => some k_ ≠ (.slice Ao49 t256.length co49 : Value).ownBlock ∧ some k_ ≠ (v261 : Value).ownBlock ∧ some k_ ≠ (.slice Ao55 t265.length co55 : Value).ownBlock) (fun _ => False) rfl rfl ?aO ?aR (fun _ _ h => h) (fun _ h => h.elim) ?aF ?aB ?aS ?aL ?_; (case aR => refine (Kd.R_reads' (e := 5) (base := w.heap.size) (ok := fun k_ => ((True ∧ some k_ ≠ (v261 : Value).ownBlock) ∧ some k_ ≠ (.slice Ao55 t265.length co55 : Value).ownBlock)) (n := t256.length) (c := co49) ?_).2.2; exact (by (with_reducible repeat (first | apply Kd.R_alloc | apply Kd.R_drewN | apply Kd.R_drew)); exact (Kd.R_mono (Kd.R_far (p := ⟨gb272, 2, none⟩) (Kd.R_far (p := ⟨gb272, 1, none⟩) (Kd.R_far (p := ⟨gb272, 0, none⟩) (Kd.R_types HO258.out BK272.out (by decide)) (fun _ hk => hk.2) (.bool t264)) (fun _ hk => hk.2) (.slice Ao55 t265.length co55)) (fun _ hk => hk.2) (.slice Ao56 t268.length co56)) (fun _ h_ => h_.1)))); (case aB => exact (zw7 HB.out GE251.out GE252.out GE272.out)); (case aF => exact (fun k_ hk => ⟨Kd.fresh' (Kd.R_lt (by (with_reducible repeat (first | apply Kd.R_alloc | apply Kd.R_drewN | apply Kd.R_drew)); exact (Kd.R_mono (Kd.R_far (p := ⟨gb272, 2, none⟩) (Kd.R_far (p := ⟨gb272, 1, none⟩) (Kd.R_far (p := ⟨gb272, 0, none⟩) (Kd.R_types HO258.out BK272.out (by decide)) (fun _ hk => hk.2) (.bool t264)) (fun _ hk => hk.2) (.slice Ao55 t265.length co55)) (fun _ hk => hk.2) (.slice Ao56 t268.length co56)) (fun _ h_ => h_.1)))) k_ hk, Kd.fresh' (Kd.R_lt (by (with_reducible repeat (first | apply Kd.R_alloc | apply Kd.R_drewN | apply Kd.R_drew)); exact (Kd.R_mono (Kd.R_far (p := ⟨gb272, 2, none⟩) (Kd.R_far (p := ⟨gb272, 1, none⟩) (Kd.R_far (p := ⟨gb272, 0, none⟩) (Kd.R_types HO262.out BK272.out (by decide)) (fun _ hk => hk.2) (.bool t264)) (fun _ hk => hk.2) (.slice Ao55 t265.length co55)) (fun _ hk => hk.2) (.slice Ao56 t268.length co56)) (fun _ h_ => h_.1)))) k_ hk, Kd.fresh' (Kd.R_lt (by (with_reducible repeat (first | apply Kd.R_alloc | apply Kd.R_drewN | apply Kd.R_drew)); exact (Kd.R_mono (Kd.R_far (p := ⟨gb272, 2, none⟩) (Kd.R_far (p := ⟨gb272, 1, none⟩) (Kd.R_far (p := ⟨gb272, 0, none⟩) (Kd.R_types HO267.out BK272.out (by decide)) (fun _ hk => hk.2) (.bool t264)) (fun _ hk => hk.2) (.slice Ao55 t265.length co55)) (fun _ hk => hk.2) (.slice Ao56 t268.length co56)) (fun _ h_ => h_.1)))) k_ hk⟩)); (case aO => exact ((Kd.R_nil _ _ _ _ (fun k_ => some k_ ≠ (.slice Ao49 t256.length co49 : Value).ownBlock ∧ some k_ ≠ (v261 : Value).ownBlock ∧ some k_ ≠ (.slice Ao55 t265.length co55 : Value).ownBlock)))); (case aS => exact (below_size (zw7 HB.out GE251.out GE252.out GE272.out))); (case aL => have := LMc45.out; omega); intro v274 w57 ho hb hg hat; rw [← Ny273.out] at ho; have n0_ := Aside0.mk (blk_grown (g := gb251) (o := .cells #[.bool a0_0, .slice A0_1 l0_1.length c0_1, .slice A0_2 l0_2.length c0_2] 25 (0, 0)) (zw10 NB251_272.out BK251.out) hg (by simp [Value.ownBlock])); have n1_ := Aside0.mk (blk_grown (g := gb252) (o := .cells #[.bool a1_0, .slice A1_1 l1_1.length c1_1, .slice A1_2 l1_2.length c1_2] 25 (0, 0)) (zw10 NB252_272.out BK252.out) hg (by simp [Value.ownBlock])); have n2_ := Aside0.mk (Kd.R_after (Kd.R_apart_nil (by (with_reducible repeat (first | apply Kd.R_alloc | apply Kd.R_drewN | apply Kd.R_drew)); exact (Kd.R_mono (Kd.R_far (p := ⟨gb272, 2, none⟩) (Kd.R_far (p := ⟨gb272, 1, none⟩) (Kd.R_far (p := ⟨gb272, 0, none⟩) (Kd.R_types HO258.out BK272.out (by decide)) (fun _ hk => hk.2) (.bool t264)) (fun _ hk => hk.2) (.slice Ao55 t265.length co55)) (fun _ hk => hk.2) (.slice Ao56 t268.length co56)) (fun _ h_ => h_.1)))) hg hat); have n3_ := Aside0.mk (Kd.R_after (Kd.R_apart_nil (by (with_reducible repeat (first | apply Kd.R_alloc | apply Kd.R_drewN | apply Kd.R_drew)); exact (Kd.R_mono (Kd.R_far (p := ⟨gb272, 2, none⟩) (Kd.R_far (p := ⟨gb272, 1, none⟩) (Kd.R_far (p := ⟨gb272, 0, none⟩) (Kd.R_types HO262.out BK272.out (by decide)) (fun _ hk => hk.2) (.bool t264)) (fun _ hk => hk.2) (.slice Ao55 t265.length co55)) (fun _ hk => hk.2) (.slice Ao56 t268.length co56)) (fun _ h_ => h_.1)))) hg hat); have n4_ := Aside0.mk (Kd.R_after (Kd.R_apart_nil (by (with_reducible repeat (first | apply Kd.R_alloc | apply Kd.R_drewN | apply Kd.R_drew)); exact (Kd.R_mono (Kd.R_far (p := ⟨gb272, 2, none⟩) (Kd.R_far (p := ⟨gb272, 1, none⟩) (Kd.R_far (p := ⟨gb272, 0, none⟩) (Kd.R_types HO267.out BK272.out (by decide)) (fun _ hk => hk.2) (.bool t264)) (fun _ hk => hk.2) (.slice Ao55 t265.length co55)) (fun _ hk => hk.2) (.slice Ao56 t268.length co56)) (fun _ h_ => h_.1)))) hg hat); have n5_ := Aside0.mk (Kd.R_after (Kd.R_apart_nil (by (with_reducible repeat (first | apply Kd.R_alloc | apply Kd.R_drewN | apply Kd.R_drew)); exact (Kd.R_mono (Kd.R_far (p := ⟨gb272, 2, none⟩) (Kd.R_far (p := ⟨gb272, 1, none⟩) (Kd.R_far (p := ⟨gb272, 0, none⟩) (Kd.R_mono HO270.out (fun k_ hk => (⟨hk, hk.2⟩ : _ ∧ k_ ≠ gb272))) (fun _ hk => hk.2) (.bool t264)) (fun _ hk => hk.2) (.slice Ao55 t265.length co55)) (fun _ hk => hk.2) (.slice Ao56 t268.length co56)) (fun _ h_ => h_.1)))) hg hat); have n6_ := Aside0.mk (blk_grown (g := gb272) (o := .cells #[.bool t264, .slice Ao55 t265.length co55, .slice Ao56 t268.length co56] 25 (0, 0)) (by (with_reducible repeat (first | refine blk_drewN ?_ _ | refine blk_drew ?_ | refine blk_alloc ?_ _)); refine blk_put (cs := #[.bool t264, .slice Ao55 t265.length co55, .slice none 0 0]) ?_ 2 _ rfl; (with_reducible repeat (first | refine blk_drewN ?_ _ | refine blk_drew ?_ | refine blk_alloc ?_ _)); refine blk_put (cs := #[.bool t264, .slice none 0 0, .slice none 0 0]) ?_ 1 _ rfl; (with_reducible repeat (first | refine blk_drewN ?_ _ | refine blk_drew ?_ | refine blk_alloc ?_ _)); refine blk_put (cs := #[.bool false, .slice none 0 0, .slice none 0 0]) ?_ 0 _ rfl; (with_reducible repeat (first | refine blk_drewN ?_ _ | refine blk_drew ?_ | refine blk_alloc ?_ _)); exact BK272.out) hg (by simp [Value.ownBlock])); have n7_ := Aside0.mk (hb); have n8_ := Aside0.mk (ho); clear BK251; clear BK252; clear HO258; clear HO262; clear HO267; clear HO270; clear BK272; clear HB; have BK251 := n0_; have BK252 := n1_; have HO258 := n2_; have HO262 := n3_; have HO267 := n4_; have HO270 := n5_; have BK272 := n6_; have HB := n7_; have HO275 := n8_; clear n0_ n1_ n2_ n3_ n4_ n5_ n6_ n7_ n8_; clear ho hb hg hat) | ((with_reducible refine gate_builtin (b := .append) (xs := #[.tmp 58, .tmp 59]) rfl ?_); (try (refine gate_guard (by rfl) ?_; dsimp only)); at_builtin; refine Kd.R_append_rows (Kd.int .u8) (w0 := w) w.heap.size rfl (.tmp 58) (.tmp 59) 22 5 (.int .u8 0) 1 rfl Try.underlying22 info5 rfl (by decide) (by omega) v274 y273 l2 _ _ _ (fun k_ => some k_ ≠ (.slice Ao49 t256.length co49 : Value).ownBlock ∧ some k_ ≠ (v261 : Value).ownBlock ∧ some k_ ≠ (.slice Ao55 t265.length co55 : Value).ownBlock) (fun _ => False) rfl rfl ?aO ?aR (fun _ _ h => h) (fun _ h => h.elim) ?aF ?aB ?aS ?aL ?_; (case aR => repeat (first | exact (Kd.C_below HR2.out HB.out) | (with_reducible refine Kd.C_alloc ?_ _) | (with_reducible refine Kd.C_drewN ?_ _) | (with_reducible refine Kd.C_drew ?_))); (case aB => exact (zw7 HB.out GE251.out GE252.out GE272.out)); (case aF => exact (fun k_ hk => ⟨Kd.fresh' (Kd.R_lt (zw1 HO258.out)) k_ hk, Kd.fresh' (Kd.R_lt (zw1 HO262.out)) k_ hk, Kd.fresh' (Kd.R_lt (zw1 HO267.out)) k_ hk⟩)); (case aO => exact (zw1 HO275.out)); (case aS => exact (below_size (zw7 HB.out GE251.out GE252.out GE272.out))); (case aL => have := LMc46.out; omega); intro v277 w58 ho hb hg hat; rw [← Ny276.out] at ho; have n0_ := Aside0.mk (blk_grown (g := gb251) (o := .cells #[.bool a0_0, .slice A0_1 l0_1.length c0_1, .slice A0_2 l0_2.length c0_2] 25 (0, 0)) (zw0 BK251.out) hg (Kd.R_ne HO275.out BK251.out (by decide))); have n1_ := Aside0.mk (blk_grown (g := gb252) (o := .cells #[.bool a1_0, .slice A1_1 l1_1.length c1_1, .slice A1_2 l1_2.length c1_2] 25 (0, 0)) (zw0 BK252.out) hg (Kd.R_ne HO275.out BK252.out (by decide))); have n2_ := Aside0.mk (Kd.R_after (ok := (fun k_ => some k_ ≠ (v261 : Value).ownBlock ∧ some k_ ≠ (.slice Ao55 t265.length co55 : Value).ownBlock)) (by (with_reducible repeat (first | apply Kd.R_alloc | apply Kd.R_drewN | apply Kd.R_drew)); exact Kd.R_mono HO258.out (fun _ hk => ⟨⟨hk.1.1.2, hk.1.2⟩, hk.2⟩)) hg hat); have n3_ := Aside0.mk (Kd.R_after (ok := (fun k_ => some k_ ≠ (.slice Ao49 t256.length co49 : Value).ownBlock ∧ some k_ ≠ (.slice Ao55 t265.length co55 : Value).ownBlock)) (by (with_reducible repeat (first | apply Kd.R_alloc | apply Kd.R_drewN | apply Kd.R_drew)); exact Kd.R_mono HO262.out (fun _ hk => ⟨⟨hk.1.1.2, hk.1.2⟩, hk.2⟩)) hg hat); have n4_ := Aside0.mk (Kd.R_after (ok := (fun k_ => some k_ ≠ (.slice Ao49 t256.length co49 : Value).ownBlock ∧ some k_ ≠ (v261 : Value).ownBlock)) (by (with_reducible repeat (first | apply Kd.R_alloc | apply Kd.R_drewN | apply Kd.R_drew)); exact Kd.R_mono HO267.out (fun _ hk => ⟨⟨hk.1.1.2, hk.1.2⟩, hk.2⟩)) hg hat); have n5_ := Aside0.mk (Kd.R_after (ok := (fun k_ => some k_ ≠ (.slice Ao49 t256.length co49 : Value).ownBlock ∧ some k_ ≠ (v261 : Value).ownBlock ∧ some k_ ≠ (.slice Ao55 t265.length co55 : Value).ownBlock ∧ k_ ≠ gb251 ∧ k_ ≠ gb252 ∧ k_ ≠ gb272)) (by (with_reducible repeat (first | apply Kd.R_alloc | apply Kd.R_drewN | apply Kd.R_drew)); exact Kd.R_mono HO270.out (fun _ hk => ⟨⟨hk.1.1.1.1.1.2, ⟨hk.1.1.1.1.2, ⟨hk.1.1.1.1.1.1, ⟨hk.1.1.1.2, ⟨hk.1.1.2, hk.1.2⟩⟩⟩⟩⟩, hk.2⟩)) hg hat); have n6_ := Aside0.mk (blk_grown (g := gb272) (o := .cells #[.bool t264, .slice Ao55 t265.length co55, .slice Ao56 t268.length co56] 25 (0, 0)) (zw0 BK272.out) hg (Kd.R_ne HO275.out BK272.out (by decide))); have n7_ := Aside0.mk (hb); have n8_ := Aside0.mk (ho); clear BK251; clear BK252; clear HO258; clear HO262; clear HO267; clear HO270; clear BK272; clear HB; clear HO275; have BK251 := n0_; have BK252 := n1_; have HO258 := n2_; have HO262 := n3_; have HO267 := n4_; have HO270 := n5_; have BK272 := n6_; have HB := n7_; have HO278 := n8_; clear n0_ n1_ n2_ n3_ n4_ n5_ n6_ n7_ n8_; clear ho hb hg hat; obtain ⟨Ao59, co59, eo59⟩ := Kd.R_slice HO278.out; subst eo59) | (go_at_call 17; (with_reducible refine (rlp_First.calls kj6 _ _ y276 t279 t280 t283 t286 t287 _ ?side1 ?side2 A47.out).mono ?_); (case side1 => exact zw15 HO278.out); (case side2 => exact (Kd.R_reads' HO278.out).2.1); rintro e w60 ⟨v281, v284, rfl, ho0, ho1, hb⟩; have n0_ := Aside0.mk (Kd.R_elder' (zw1 HO258.out) (Kd.R_base ho0) hb); have n1_ := Aside0.mk (Kd.R_elder' (zw1 HO262.out) (Kd.R_base ho0) hb); have n2_ := Aside0.mk (Kd.R_elder' (zw1 HO267.out) (Kd.R_base ho0) hb); have n3_ := Aside0.mk (Kd.R_mono (Kd.R_told (Kd.R_told (Kd.R_old (zw1 HO270.out) hb) (Kd.R_base ho0)) (Kd.R_base ho1)) (fun _ h_ => h_.1)); have n4_ := Aside0.mk (Kd.R_elder' (zw1 HO278.out) (Kd.R_base ho0) hb); have n5_ := Aside0.mk (Kd.R_lower (Kd.R_new' (Kd.R_new' (Kd.R_new' (Kd.R_new' ho0 (Kd.R_lt (zw1 HO258.out))) (Kd.R_lt (zw1 HO262.out))) (Kd.R_lt (zw1 HO267.out))) (Kd.R_lt (zw1 HO278.out))) (below_size (zw7 HB.out GE251.out GE252.out GE272.out))); have n6_ := Aside0.mk (Kd.R_lower (Kd.R_newB (Kd.R_newB (Kd.R_newB (Kd.R_new' (Kd.R_new' (Kd.R_new' (Kd.R_new' (Kd.R_new' ho1 (Kd.R_lt (zw1 HO258.out))) (Kd.R_lt (zw1 HO262.out))) (Kd.R_lt (zw1 HO267.out))) (Kd.R_lt (zw1 HO270.out))) (Kd.R_lt (zw1 HO278.out))) (g := gb251) (o := .cells #[.bool a0_0, .slice A0_1 l0_1.length c0_1, .slice A0_2 l0_2.length c0_2] 25 (0, 0)) (zw0 BK251.out)) (g := gb252) (o := .cells #[.bool a1_0, .slice A1_1 l1_1.length c1_1, .slice A1_2 l1_2.length c1_2] 25 (0, 0)) (zw0 BK252.out)) (g := gb272) (o := .cells #[.bool t264, .slice Ao55 t265.length co55, .slice Ao56 t268.length co56] 25 (0, 0)) (zw0 BK272.out)) (below_size (zw7 HB.out GE251.out GE252.out GE272.out))); have n7_ := Aside0.mk (blk_below (g := gb251) (o := .cells #[.bool a0_0, .slice A0_1 l0_1.length c0_1, .slice A0_2 l0_2.length c0_2] 25 (0, 0)) (zw0 BK251.out) hb); have n8_ := Aside0.mk (blk_below (g := gb252) (o := .cells #[.bool a1_0, .slice A1_1 l1_1.length c1_1, .slice A1_2 l1_2.length c1_2] 25 (0, 0)) (zw0 BK252.out) hb); have n9_ := Aside0.mk (blk_below (g := gb272) (o := .cells #[.bool t264, .slice Ao55 t265.length co55, .slice Ao56 t268.length co56] 25 (0, 0)) (zw0 BK272.out) hb); have n10_ := Aside0.mk (below_step (zw7 HB.out GE251.out GE252.out GE272.out) hb); clear HO258; clear HO262; clear HO267; clear HO270; clear HO278; clear BK251; clear BK252; clear BK272; clear HB; have HO258 := n0_; have HO262 := n1_; have HO267 := n2_; have HO270 := n3_; have HO278 := n4_; have HO282 := n5_; have HO285 := n6_; have BK251 := n7_; have BK252 := n8_; have BK272 := n9_; have HB := n10_; clear n0_ n1_ n2_ n3_ n4_ n5_ n6_ n7_ n8_ n9_ n10_; (try clear hb); (try clear hb2); (try clear hk); (try clear hi); (try clear ho0); (try clear ho1)) | ((with_reducible refine gate_dst (N := 15) rfl ?_); (try (refine gate_guard (by rfl) ?_; dsimp only)); refine box_event ?hg (N := 15) ?hd (cs := #[.bool false, .slice none 0 0, .slice none 0 0]) (t := 25) ?hr ?_; (case hd => rfl); (case hg => rfl); (case hr => first | (go_simp; done) | (go_simp; rfl)); intro gb288 hg w61 hbox hb; have n0_ := Aside0.mk (Kd.R_below (zw1 HO258.out) hb); have n1_ := Aside0.mk (Kd.R_below (zw1 HO262.out) hb); have n2_ := Aside0.mk (Kd.R_below (zw1 HO267.out) hb); have n3_ := Aside0.mk (Kd.R_below (Kd.R_elderB (zw1 HO270.out) gb288 (Nat.le_of_eq hg.symm)) hb); have n4_ := Aside0.mk (Kd.R_below (zw1 HO278.out) hb); have n5_ := Aside0.mk (Kd.R_below (zw1 HO282.out) hb); have n6_ := Aside0.mk (Kd.R_below (Kd.R_elderB (zw1 HO285.out) gb288 (Nat.le_of_eq hg.symm)) hb); have n7_ := Aside0.mk (blk_below (g := gb251) (o := .cells #[.bool a0_0, .slice A0_1 l0_1.length c0_1, .slice A0_2 l0_2.length c0_2] 25 (0, 0)) (zw0 BK251.out) hb); have n8_ := Aside0.mk (blk_below (g := gb252) (o := .cells #[.bool a1_0, .slice A1_1 l1_1.length c1_1, .slice A1_2 l1_2.length c1_2] 25 (0, 0)) (zw0 BK252.out) hb); have n9_ := Aside0.mk (blk_below (g := gb272) (o := .cells #[.bool t264, .slice Ao55 t265.length co55, .slice Ao56 t268.length co56] 25 (0, 0)) (zw0 BK272.out) hb); have n10_ := Aside0.mk (below_step (zw7 HB.out GE251.out GE252.out GE272.out) hb); have n11_ := Aside0.mk (hbox); have n12_ := Aside0.mk ((by rw [hg]; exact (below_size (zw7 HB.out GE251.out GE252.out GE272.out)) : w.heap.size ≤ gb288)); have n13_ := Aside0.mk ((by rw [hg]; exact (below_size (zw7 HB.out GE251.out GE252.out GE272.out)) : w.heap.size ≤ gb288)); have n14_ := Aside0.mk ((by rw [hg]; exact Nat.ne_of_lt (blk_lt (g := gb251) (o := .cells #[.bool a0_0, .slice A0_1 l0_1.length c0_1, .slice A0_2 l0_2.length c0_2] 25 (0, 0)) (zw0 BK251.out)) : gb251 ≠ gb288)); have n15_ := Aside0.mk ((by rw [hg]; exact Nat.ne_of_gt (blk_lt (g := gb251) (o := .cells #[.bool a0_0, .slice A0_1 l0_1.length c0_1, .slice A0_2 l0_2.length c0_2] 25 (0, 0)) (zw0 BK251.out)) : gb288 ≠ gb251)); have n16_ := Aside0.mk ((by rw [hg]; exact Nat.ne_of_lt (blk_lt (g := gb252) (o := .cells #[.bool a1_0, .slice A1_1 l1_1.length c1_1, .slice A1_2 l1_2.length c1_2] 25 (0, 0)) (zw0 BK252.out)) : gb252 ≠ gb288)); have n17_ := Aside0.mk ((by rw [hg]; exact Nat.ne_of_gt (blk_lt (g := gb252) (o := .cells #[.bool a1_0, .slice A1_1 l1_1.length c1_1, .slice A1_2 l1_2.length c1_2] 25 (0, 0)) (zw0 BK252.out)) : gb288 ≠ gb252)); have n18_ := Aside0.mk ((by rw [hg]; exact Nat.ne_of_lt (blk_lt (g := gb272) (o := .cells #[.bool t264, .slice Ao55 t265.length co55, .slice Ao56 t268.length co56] 25 (0, 0)) (zw0 BK272.out)) : gb272 ≠ gb288)); have n19_ := Aside0.mk ((by rw [hg]; exact Nat.ne_of_gt (blk_lt (g := gb272) (o := .cells #[.bool t264, .slice Ao55 t265.length co55, .slice Ao56 t268.length co56] 25 (0, 0)) (zw0 BK272.out)) : gb288 ≠ gb272)); clear HO258; clear HO262; clear HO267; clear HO270; clear HO278; clear HO282; clear HO285; clear BK251; clear BK252; clear BK272; clear HB; have HO258 := n0_; have HO262 := n1_; have HO267 := n2_; have HO270 := n3_; have HO278 := n4_; have HO282 := n5_; have HO285 := n6_; have BK251 := n7_; have BK252 := n8_; have BK272 := n9_; have HB := n10_; have BK288 := n11_; have GW288 := n12_; have GE288 := n13_; have NB251_288 := n14_; have NB288_251 := n15_; have NB252_288 := n16_; have NB288_252 := n17_; have NB272_288 := n18_; have NB288_272 := n19_; clear n0_ n1_ n2_ n3_ n4_ n5_ n6_ n7_ n8_ n9_ n10_ n11_ n12_ n13_ n14_ n15_ n16_ n17_ n18_ n19_; clear hb hbox hg; have hnb62 := NB288_251.out; have hnc62 := NB251_288.out; have hnb63 := NB288_252.out; have hnc63 := NB252_288.out; have hnb64 := NB288_272.out; have hnc64 := NB272_288.out; have hcz65_0 : w61.cell? ⟨gb288, 0, none⟩ = some (.bool false) := (blk_cell BK288.out 0).trans rfl; have hcz65_1 : w61.cell? ⟨gb288, 1, none⟩ = some (.slice none 0 0) := (blk_cell BK288.out 1).trans rfl; have hcz65_2 : w61.cell? ⟨gb288, 2, none⟩ = some (.slice none 0 0) := (blk_cell BK288.out 2).trans rfl; have hfz65_0 := blk_frozen BK288.out 0; have hfz65_1 := blk_frozen BK288.out 1; have hfz65_2 := blk_frozen BK288.out 2; obtain ⟨Ao66, co66, eo66⟩ := Kd.R_slice HO282.out; subst eo66; obtain ⟨Ao67, co67, eo67⟩ := Kd.R_slice HO285.out; subst eo67))
                  skip
                  (try simp only [Act.put, List.setIfInBounds_toArray, List.set_cons_zero, List.set_cons_succ])
                  go_cut [78] (fun v78 wc => ∃ (kq : Nat) (x78_47 : Bool), v78 = .bool x78_47 ∧ Aside0 (morainelaw4_RlpBack.j1 kq l2 l3 t256 t259 t260 t263 t286 t287 x78_47 a0_0 l0_1 l0_2 a1_0 l1_1 l1_2 t279 t280 t283 = some r) ∧ Aside0 (kq ≤ kj6) ∧ Aside0 (Kd.R (Kd.int .u8) 5 wc w.heap.size (fun k_ => some k_ ≠ (v261 : Value).ownBlock ∧ some k_ ≠ ((.slice Ao55 t265.length co55) : Value).ownBlock ∧ some k_ ≠ ((.slice Ao66 t280.length co66) : Value).ownBlock) (.slice Ao49 t256.length co49) t256) ∧ Aside0 (Kd.R (Kd.int .u8) 5 wc w.heap.size (fun k_ => some k_ ≠ ((.slice Ao49 t256.length co49) : Value).ownBlock ∧ some k_ ≠ ((.slice Ao55 t265.length co55) : Value).ownBlock ∧ some k_ ≠ ((.slice Ao66 t280.length co66) : Value).ownBlock) v261 t260) ∧ Aside0 (Kd.R (Kd.int .u8) 5 wc w.heap.size (fun k_ => some k_ ≠ ((.slice Ao49 t256.length co49) : Value).ownBlock ∧ some k_ ≠ (v261 : Value).ownBlock ∧ some k_ ≠ ((.slice Ao66 t280.length co66) : Value).ownBlock) (.slice Ao55 t265.length co55) t265) ∧ Aside0 (Kd.R k25 25 wc w.heap.size (fun k_ => some k_ ≠ ((.slice Ao49 t256.length co49) : Value).ownBlock ∧ some k_ ≠ (v261 : Value).ownBlock ∧ some k_ ≠ ((.slice Ao55 t265.length co55) : Value).ownBlock ∧ some k_ ≠ ((.slice Ao66 t280.length co66) : Value).ownBlock ∧ some k_ ≠ ((.slice Ao67 t283.length co67) : Value).ownBlock ∧ k_ ≠ gb251 ∧ k_ ≠ gb252 ∧ k_ ≠ gb272 ∧ k_ ≠ gb288) (.slice Ao56 t268.length co56) t268) ∧ Aside0 (Kd.R (Kd.int .u8) 5 wc w.heap.size (fun k_ => some k_ ≠ ((.slice Ao49 t256.length co49) : Value).ownBlock ∧ some k_ ≠ (v261 : Value).ownBlock ∧ some k_ ≠ ((.slice Ao55 t265.length co55) : Value).ownBlock) (.slice Ao66 t280.length co66) t280) ∧ Aside0 (Kd.R k25 25 wc w.heap.size (fun k_ => some k_ ≠ ((.slice Ao49 t256.length co49) : Value).ownBlock ∧ some k_ ≠ (v261 : Value).ownBlock ∧ some k_ ≠ ((.slice Ao55 t265.length co55) : Value).ownBlock ∧ some k_ ≠ ((.slice Ao56 t268.length co56) : Value).ownBlock ∧ some k_ ≠ ((.slice Ao66 t280.length co66) : Value).ownBlock ∧ k_ ≠ gb251 ∧ k_ ≠ gb252 ∧ k_ ≠ gb272 ∧ k_ ≠ gb288) (.slice Ao67 t283.length co67) t283) ∧ Aside0 (wc.heap[gb251]? = some (.cells #[.bool a0_0, (.slice A0_1 l0_1.length c0_1), (.slice A0_2 l0_2.length c0_2)] 25 (0, 0))) ∧ Aside0 (wc.heap[gb252]? = some (.cells #[.bool a1_0, (.slice A1_1 l1_1.length c1_1), (.slice A1_2 l1_2.length c1_2)] 25 (0, 0))) ∧ Aside0 (wc.heap[gb272]? = some (.cells #[.bool t264, (.slice Ao55 t265.length co55), (.slice Ao56 t268.length co56)] 25 (0, 0))) ∧ Aside0 (wc.heap[gb288]? = some (.cells #[.bool t279, (.slice Ao66 t280.length co66), (.slice Ao67 t283.length co67)] 25 (0, 0))) ∧ Aside0 (Below w.heap.size w wc))
                  case first =>
                    have H := HC48.out
                    clear HC48
                    by_cases c68 : t271 = 0
                    · rw [if_pos c68] at H
                      have c68b0 : (t271 == 0) = true := beq_iff_eq.mpr c68
                      have c68b1 : (t271 != 0) = false := bne_eq_false_iff_eq.mpr c68
                      clear c68
                      (first | rw [c68b0] | (simp only [i64_w, i32_w]; rw [c68b0]) | skip)
                      replace H := Option.bind_eq_some_iff.mp H
                      obtain ⟨t289, A690, H⟩ := H
                      replace H : (if t289 = true then ((rlp_Equal.f kj6 a0_0 l0_1 l0_2 t264 t265 t268).bind fun t290 => (morainelaw4_RlpBack.j1 kj6 l2 l3 t256 t259 t260 t263 t286 t287 (!t290) a0_0 l0_1 l0_2 a1_0 l1_1 l1_2 t279 t280 t283)) else (morainelaw4_RlpBack.j1 kj6 l2 l3 t256 t259 t260 t263 t286 t287 true a0_0 l0_1 l0_2 a1_0 l1_1 l1_2 t279 t280 t283)) = some r := H
                      have A69 := Aside0.mk A690
                      clear A690
                      by_cases c70 : t289 = true
                      · subst c70
                        have H1 : ((rlp_Equal.f kj6 a0_0 l0_1 l0_2 t264 t265 t268).bind fun t290 => (morainelaw4_RlpBack.j1 kj6 l2 l3 t256 t259 t260 t263 t286 t287 (!t290) a0_0 l0_1 l0_2 a1_0 l1_1 l1_2 t279 t280 t283)) = some r := by rw [if_pos rfl] at H; exact H
                        clear H
                        have H := H1
                        clear H1
                        replace H := Option.bind_eq_some_iff.mp H
                        obtain ⟨t290, A710, H⟩ := H
                        replace H : (morainelaw4_RlpBack.j1 kj6 l2 l3 t256 t259 t260 t263 t286 t287 (!t290) a0_0 l0_1 l0_2 a1_0 l1_1 l1_2 t279 t280 t283) = some r := H
                        have A71 := Aside0.mk A710
                        clear A710
                        have H' := Aside0.mk H
                        clear H
                        have hnb72 := NB251_252.out
                        have hnc72 := NB252_251.out
                        have hnb73 := NB251_272.out
                        have hnc73 := NB272_251.out
                        have hnb74 := NB251_288.out
                        have hnc74 := NB288_251.out
                        have hcz75_0 : w61.cell? ⟨gb251, 0, none⟩ = some (.bool a0_0) := (blk_cell BK251.out 0).trans rfl
                        have hcz75_1 : w61.cell? ⟨gb251, 1, none⟩ = some (.slice A0_1 l0_1.length c0_1) := (blk_cell BK251.out 1).trans rfl
                        have hcz75_2 : w61.cell? ⟨gb251, 2, none⟩ = some (.slice A0_2 l0_2.length c0_2) := (blk_cell BK251.out 2).trans rfl
                        have hfz75_0 := blk_frozen BK251.out 0
                        have hfz75_1 := blk_frozen BK251.out 1
                        have hfz75_2 := blk_frozen BK251.out 2
                        have hnb76 := NB272_252.out
                        have hnc76 := NB252_272.out
                        have hnb77 := NB272_288.out
                        have hnc77 := NB288_272.out
                        have hcz78_0 : w61.cell? ⟨gb272, 0, none⟩ = some (.bool t264) := (blk_cell BK272.out 0).trans rfl
                        have hcz78_1 : w61.cell? ⟨gb272, 1, none⟩ = some (.slice Ao55 t265.length co55) := (blk_cell BK272.out 1).trans rfl
                        have hcz78_2 : w61.cell? ⟨gb272, 2, none⟩ = some (.slice Ao56 t268.length co56) := (blk_cell BK272.out 2).trans rfl
                        have hfz78_0 := blk_frozen BK272.out 0
                        have hfz78_1 := blk_frozen BK272.out 1
                        have hfz78_2 := blk_frozen BK272.out 2
                        go_wp2_with (first | (go_at_call 20; (with_reducible refine (moraineref4_Same.calls kj6 a0_0 _ _ l0_1 _ _ l0_2 t264 _ _ t265 _ _ t268 true _ ?side1 ?side2 ?side3 ?side4 ?side5 ?side6 ?side7 ?side8 A69.out).mono ?_); (case side1 => exact zw19 HR0_1.out HB.out GE251.out GE252.out GE272.out GE288.out); (case side2 => exact HC0_1.out); (case side3 => exact zw19 HR0_2.out HB.out GE251.out GE252.out GE272.out GE288.out); (case side4 => exact HC0_2.out); (case side5 => refine (Kd.R_reads' (e := 5) (base := w.heap.size) (ok := fun k_ => (((some k_ ≠ (.slice Ao49 t256.length co49 : Value).ownBlock ∧ some k_ ≠ (v261 : Value).ownBlock) ∧ some k_ ≠ (.slice Ao59 y276.length co59 : Value).ownBlock) ∧ some k_ ≠ (.slice Ao66 t280.length co66 : Value).ownBlock)) (n := t265.length) (c := co55) ?_).2.2; exact (by (with_reducible repeat (first | apply Kd.R_alloc | apply Kd.R_drewN | apply Kd.R_drew)); exact (Kd.R_mono (Kd.R_far (p := ⟨gb288, 2, none⟩) (Kd.R_far (p := ⟨gb288, 1, none⟩) (Kd.R_far (p := ⟨gb288, 0, none⟩) (Kd.R_types HO267.out BK288.out (by decide)) (fun _ hk => hk.2) (.bool t279)) (fun _ hk => hk.2) (.slice Ao66 t280.length co66)) (fun _ hk => hk.2) (.slice Ao67 t283.length co67)) (fun _ h_ => h_.1)))); (case side6 => exact (Kd.R_reads' HO267.out).2.1); (case side7 => refine (Kd.R_reads' (e := 25) (base := w.heap.size) (ok := fun k_ => (((((some k_ ≠ (.slice Ao49 t256.length co49 : Value).ownBlock ∧ (some k_ ≠ (v261 : Value).ownBlock ∧ (some k_ ≠ (.slice Ao55 t265.length co55 : Value).ownBlock ∧ (k_ ≠ gb251 ∧ (k_ ≠ gb252 ∧ k_ ≠ gb272))))) ∧ some k_ ≠ (.slice Ao59 y276.length co59 : Value).ownBlock) ∧ some k_ ≠ (.slice Ao66 t280.length co66 : Value).ownBlock) ∧ some k_ ≠ (.slice Ao67 t283.length co67 : Value).ownBlock) ∧ k_ ≠ gb288)) (n := t268.length) (c := co56) ?_).2.2; exact (by (with_reducible repeat (first | apply Kd.R_alloc | apply Kd.R_drewN | apply Kd.R_drew)); exact (Kd.R_mono (Kd.R_far (p := ⟨gb288, 2, none⟩) (Kd.R_far (p := ⟨gb288, 1, none⟩) (Kd.R_far (p := ⟨gb288, 0, none⟩) (Kd.R_mono HO270.out (fun k_ hk => (⟨hk, hk.2⟩ : _ ∧ k_ ≠ gb288))) (fun _ hk => hk.2) (.bool t279)) (fun _ hk => hk.2) (.slice Ao66 t280.length co66)) (fun _ hk => hk.2) (.slice Ao67 t283.length co67)) (fun _ h_ => h_.1)))); (case side8 => exact (Kd.R_reads' HO270.out).2.1); rintro e w79 ⟨rfl, hb⟩; have n0_ := Aside0.mk (Kd.R_below (by (with_reducible repeat (first | apply Kd.R_alloc | apply Kd.R_drewN | apply Kd.R_drew)); exact (Kd.R_mono (Kd.R_far (p := ⟨gb288, 2, none⟩) (Kd.R_far (p := ⟨gb288, 1, none⟩) (Kd.R_far (p := ⟨gb288, 0, none⟩) (Kd.R_types HO258.out BK288.out (by decide)) (fun _ hk => hk.2) (.bool t279)) (fun _ hk => hk.2) (.slice Ao66 t280.length co66)) (fun _ hk => hk.2) (.slice Ao67 t283.length co67)) (fun _ h_ => h_.1))) hb); have n1_ := Aside0.mk (Kd.R_below (by (with_reducible repeat (first | apply Kd.R_alloc | apply Kd.R_drewN | apply Kd.R_drew)); exact (Kd.R_mono (Kd.R_far (p := ⟨gb288, 2, none⟩) (Kd.R_far (p := ⟨gb288, 1, none⟩) (Kd.R_far (p := ⟨gb288, 0, none⟩) (Kd.R_types HO262.out BK288.out (by decide)) (fun _ hk => hk.2) (.bool t279)) (fun _ hk => hk.2) (.slice Ao66 t280.length co66)) (fun _ hk => hk.2) (.slice Ao67 t283.length co67)) (fun _ h_ => h_.1))) hb); have n2_ := Aside0.mk (Kd.R_below (by (with_reducible repeat (first | apply Kd.R_alloc | apply Kd.R_drewN | apply Kd.R_drew)); exact (Kd.R_mono (Kd.R_far (p := ⟨gb288, 2, none⟩) (Kd.R_far (p := ⟨gb288, 1, none⟩) (Kd.R_far (p := ⟨gb288, 0, none⟩) (Kd.R_types HO267.out BK288.out (by decide)) (fun _ hk => hk.2) (.bool t279)) (fun _ hk => hk.2) (.slice Ao66 t280.length co66)) (fun _ hk => hk.2) (.slice Ao67 t283.length co67)) (fun _ h_ => h_.1))) hb); have n3_ := Aside0.mk (Kd.R_below (by (with_reducible repeat (first | apply Kd.R_alloc | apply Kd.R_drewN | apply Kd.R_drew)); exact (Kd.R_mono (Kd.R_far (p := ⟨gb288, 2, none⟩) (Kd.R_far (p := ⟨gb288, 1, none⟩) (Kd.R_far (p := ⟨gb288, 0, none⟩) (Kd.R_mono HO270.out (fun k_ hk => (⟨hk, hk.2⟩ : _ ∧ k_ ≠ gb288))) (fun _ hk => hk.2) (.bool t279)) (fun _ hk => hk.2) (.slice Ao66 t280.length co66)) (fun _ hk => hk.2) (.slice Ao67 t283.length co67)) (fun _ h_ => h_.1))) hb); have n4_ := Aside0.mk (Kd.R_below (by (with_reducible repeat (first | apply Kd.R_alloc | apply Kd.R_drewN | apply Kd.R_drew)); exact (Kd.R_mono (Kd.R_far (p := ⟨gb288, 2, none⟩) (Kd.R_far (p := ⟨gb288, 1, none⟩) (Kd.R_far (p := ⟨gb288, 0, none⟩) (Kd.R_types HO278.out BK288.out (by decide)) (fun _ hk => hk.2) (.bool t279)) (fun _ hk => hk.2) (.slice Ao66 t280.length co66)) (fun _ hk => hk.2) (.slice Ao67 t283.length co67)) (fun _ h_ => h_.1))) hb); have n5_ := Aside0.mk (Kd.R_below (by (with_reducible repeat (first | apply Kd.R_alloc | apply Kd.R_drewN | apply Kd.R_drew)); exact (Kd.R_mono (Kd.R_far (p := ⟨gb288, 2, none⟩) (Kd.R_far (p := ⟨gb288, 1, none⟩) (Kd.R_far (p := ⟨gb288, 0, none⟩) (Kd.R_types HO282.out BK288.out (by decide)) (fun _ hk => hk.2) (.bool t279)) (fun _ hk => hk.2) (.slice Ao66 t280.length co66)) (fun _ hk => hk.2) (.slice Ao67 t283.length co67)) (fun _ h_ => h_.1))) hb); have n6_ := Aside0.mk (Kd.R_below (by (with_reducible repeat (first | apply Kd.R_alloc | apply Kd.R_drewN | apply Kd.R_drew)); exact (Kd.R_mono (Kd.R_far (p := ⟨gb288, 2, none⟩) (Kd.R_far (p := ⟨gb288, 1, none⟩) (Kd.R_far (p := ⟨gb288, 0, none⟩) (Kd.R_mono HO285.out (fun k_ hk => (⟨hk, hk.2⟩ : _ ∧ k_ ≠ gb288))) (fun _ hk => hk.2) (.bool t279)) (fun _ hk => hk.2) (.slice Ao66 t280.length co66)) (fun _ hk => hk.2) (.slice Ao67 t283.length co67)) (fun _ h_ => h_.1))) hb); have n7_ := Aside0.mk (blk_below (g := gb251) (o := .cells #[.bool a0_0, .slice A0_1 l0_1.length c0_1, .slice A0_2 l0_2.length c0_2] 25 (0, 0)) (zw10 NB251_288.out BK251.out) hb); have n8_ := Aside0.mk (blk_below (g := gb252) (o := .cells #[.bool a1_0, .slice A1_1 l1_1.length c1_1, .slice A1_2 l1_2.length c1_2] 25 (0, 0)) (zw10 NB252_288.out BK252.out) hb); have n9_ := Aside0.mk (blk_below (g := gb272) (o := .cells #[.bool t264, .slice Ao55 t265.length co55, .slice Ao56 t268.length co56] 25 (0, 0)) (zw10 NB272_288.out BK272.out) hb); have n10_ := Aside0.mk (blk_below (g := gb288) (o := .cells #[.bool t279, .slice Ao66 t280.length co66, .slice Ao67 t283.length co67] 25 (0, 0)) (by (with_reducible repeat (first | refine blk_drewN ?_ _ | refine blk_drew ?_ | refine blk_alloc ?_ _)); refine blk_put (cs := #[.bool t279, .slice Ao66 t280.length co66, .slice none 0 0]) ?_ 2 _ rfl; (with_reducible repeat (first | refine blk_drewN ?_ _ | refine blk_drew ?_ | refine blk_alloc ?_ _)); refine blk_put (cs := #[.bool t279, .slice none 0 0, .slice none 0 0]) ?_ 1 _ rfl; (with_reducible repeat (first | refine blk_drewN ?_ _ | refine blk_drew ?_ | refine blk_alloc ?_ _)); refine blk_put (cs := #[.bool false, .slice none 0 0, .slice none 0 0]) ?_ 0 _ rfl; (with_reducible repeat (first | refine blk_drewN ?_ _ | refine blk_drew ?_ | refine blk_alloc ?_ _)); exact BK288.out) hb); have n11_ := Aside0.mk (below_step (zw16 HB.out GE251.out GE252.out GE272.out GE288.out) hb); clear HO258; clear HO262; clear HO267; clear HO270; clear HO278; clear HO282; clear HO285; clear BK251; clear BK252; clear BK272; clear BK288; clear HB; have HO258 := n0_; have HO262 := n1_; have HO267 := n2_; have HO270 := n3_; have HO278 := n4_; have HO282 := n5_; have HO285 := n6_; have BK251 := n7_; have BK252 := n8_; have BK272 := n9_; have BK288 := n10_; have HB := n11_; clear n0_ n1_ n2_ n3_ n4_ n5_ n6_ n7_ n8_ n9_ n10_ n11_; (try clear hb); (try clear hb2); (try clear hk); (try clear hi); have hcz80_0 : w79.cell? ⟨gb251, 0, none⟩ = some (.bool a0_0) := (blk_cell BK251.out 0).trans rfl; have hcz80_1 : w79.cell? ⟨gb251, 1, none⟩ = some (.slice A0_1 l0_1.length c0_1) := (blk_cell BK251.out 1).trans rfl; have hcz80_2 : w79.cell? ⟨gb251, 2, none⟩ = some (.slice A0_2 l0_2.length c0_2) := (blk_cell BK251.out 2).trans rfl; have hfz80_0 := blk_frozen BK251.out 0; have hfz80_1 := blk_frozen BK251.out 1; have hfz80_2 := blk_frozen BK251.out 2; have hcz81_0 : w79.cell? ⟨gb272, 0, none⟩ = some (.bool t264) := (blk_cell BK272.out 0).trans rfl; have hcz81_1 : w79.cell? ⟨gb272, 1, none⟩ = some (.slice Ao55 t265.length co55) := (blk_cell BK272.out 1).trans rfl; have hcz81_2 : w79.cell? ⟨gb272, 2, none⟩ = some (.slice Ao56 t268.length co56) := (blk_cell BK272.out 2).trans rfl; have hfz81_0 := blk_frozen BK272.out 0; have hfz81_1 := blk_frozen BK272.out 1; have hfz81_2 := blk_frozen BK272.out 2) | (go_at_call 22; (with_reducible refine (rlp_Equal.calls kj6 a0_0 _ _ l0_1 _ _ l0_2 t264 _ _ t265 _ _ t268 t290 _ ?side1 ?side2 ?side3 ?side4 ?side5 ?side6 ?side7 ?side8 A71.out).mono ?_); (case side1 => exact zw2 HR0_1.out HB.out); (case side2 => exact HC0_1.out); (case side3 => exact zw2 HR0_2.out HB.out); (case side4 => exact HC0_2.out); (case side5 => exact zw15 HO267.out); (case side6 => exact (Kd.R_reads' HO267.out).2.1); (case side7 => exact zw15 HO270.out); (case side8 => exact (Kd.R_reads' HO270.out).2.1); rintro e w82 ⟨rfl, hb⟩; have n0_ := Aside0.mk (Kd.R_below (zw1 HO258.out) hb); have n1_ := Aside0.mk (Kd.R_below (zw1 HO262.out) hb); have n2_ := Aside0.mk (Kd.R_below (zw1 HO267.out) hb); have n3_ := Aside0.mk (Kd.R_below (zw1 HO270.out) hb); have n4_ := Aside0.mk (Kd.R_below (zw1 HO278.out) hb); have n5_ := Aside0.mk (Kd.R_below (zw1 HO282.out) hb); have n6_ := Aside0.mk (Kd.R_below (zw1 HO285.out) hb); have n7_ := Aside0.mk (blk_below (g := gb251) (o := .cells #[.bool a0_0, .slice A0_1 l0_1.length c0_1, .slice A0_2 l0_2.length c0_2] 25 (0, 0)) (zw0 BK251.out) hb); have n8_ := Aside0.mk (blk_below (g := gb252) (o := .cells #[.bool a1_0, .slice A1_1 l1_1.length c1_1, .slice A1_2 l1_2.length c1_2] 25 (0, 0)) (zw0 BK252.out) hb); have n9_ := Aside0.mk (blk_below (g := gb272) (o := .cells #[.bool t264, .slice Ao55 t265.length co55, .slice Ao56 t268.length co56] 25 (0, 0)) (zw0 BK272.out) hb); have n10_ := Aside0.mk (blk_below (g := gb288) (o := .cells #[.bool t279, .slice Ao66 t280.length co66, .slice Ao67 t283.length co67] 25 (0, 0)) (zw0 BK288.out) hb); have n11_ := Aside0.mk (below_step (zw16 HB.out GE251.out GE252.out GE272.out GE288.out) hb); clear HO258; clear HO262; clear HO267; clear HO270; clear HO278; clear HO282; clear HO285; clear BK251; clear BK252; clear BK272; clear BK288; clear HB; have HO258 := n0_; have HO262 := n1_; have HO267 := n2_; have HO270 := n3_; have HO278 := n4_; have HO282 := n5_; have HO285 := n6_; have BK251 := n7_; have BK252 := n8_; have BK272 := n9_; have BK288 := n10_; have HB := n11_; clear n0_ n1_ n2_ n3_ n4_ n5_ n6_ n7_ n8_ n9_ n10_ n11_; (try clear hb); (try clear hb2); (try clear hk); (try clear hi)))
                        skip
                        go_meet
                        case rel => exact ⟨_, (!t290), zw11, H', ⟨by have := HJ6.out; first | omega | exact Nat.le_refl _⟩, ⟨by (with_reducible repeat (first | apply Kd.R_alloc | apply Kd.R_drewN | apply Kd.R_drew)); exact Kd.R_mono HO258.out (fun _ hk => ⟨hk.1.1.1, ⟨hk.1.1.2, hk.2⟩⟩)⟩, ⟨by (with_reducible repeat (first | apply Kd.R_alloc | apply Kd.R_drewN | apply Kd.R_drew)); exact Kd.R_mono HO262.out (fun _ hk => ⟨hk.1.1.1, ⟨hk.1.1.2, hk.2⟩⟩)⟩, ⟨by (with_reducible repeat (first | apply Kd.R_alloc | apply Kd.R_drewN | apply Kd.R_drew)); exact Kd.R_mono HO267.out (fun _ hk => ⟨hk.1.1.1, ⟨hk.1.1.2, hk.2⟩⟩)⟩, ⟨by (with_reducible repeat (first | apply Kd.R_alloc | apply Kd.R_drewN | apply Kd.R_drew)); exact Kd.R_mono HO270.out (fun _ hk => ⟨hk.1.1.1.1.1, ⟨hk.1.1.1.1.2.1, ⟨hk.1.1.1.1.2.2.1, ⟨hk.1.1.2, ⟨hk.1.2, ⟨hk.1.1.1.1.2.2.2.1, ⟨hk.1.1.1.1.2.2.2.2.1, ⟨hk.1.1.1.1.2.2.2.2.2, hk.2⟩⟩⟩⟩⟩⟩⟩⟩)⟩, ⟨by (with_reducible repeat (first | apply Kd.R_alloc | apply Kd.R_drewN | apply Kd.R_drew)); exact Kd.R_mono HO282.out (fun _ hk => ⟨hk.1.1.1.2, ⟨hk.1.1.2, hk.1.2⟩⟩)⟩, ⟨by (with_reducible repeat (first | apply Kd.R_alloc | apply Kd.R_drewN | apply Kd.R_drew)); exact Kd.R_mono HO285.out (fun _ hk => ⟨hk.1.1.1.1.1.1.1.1.2, ⟨hk.1.1.1.1.1.1.1.2, ⟨hk.1.1.1.1.1.1.2, ⟨hk.1.1.1.1.1.2, ⟨hk.1.1.1.1.1.1.1.1.1, ⟨hk.1.1.1.2, ⟨hk.1.1.2, ⟨hk.1.2, hk.2⟩⟩⟩⟩⟩⟩⟩⟩)⟩, ⟨by (with_reducible repeat (first | refine blk_drewN ?_ _ | refine blk_drew ?_ | refine blk_alloc ?_ _)); exact BK251.out⟩, ⟨by (with_reducible repeat (first | refine blk_drewN ?_ _ | refine blk_drew ?_ | refine blk_alloc ?_ _)); exact BK252.out⟩, ⟨by (with_reducible repeat (first | refine blk_drewN ?_ _ | refine blk_drew ?_ | refine blk_alloc ?_ _)); exact BK272.out⟩, ⟨by (with_reducible repeat (first | refine blk_drewN ?_ _ | refine blk_drew ?_ | refine blk_alloc ?_ _)); exact BK288.out⟩, ⟨by repeat (first | (with_reducible first | exact HB.out | apply below_alloc | apply pw_below_drewN | apply below_drew1 | refine below_set ?_ GE251.out | refine below_set ?_ GE252.out | refine below_set ?_ GE272.out | refine below_set ?_ GE288.out) | exact HB.out)⟩⟩
                      · replace c70 := Bool.eq_false_iff.mpr c70
                        subst c70
                        have H1 : (morainelaw4_RlpBack.j1 kj6 l2 l3 t256 t259 t260 t263 t286 t287 true a0_0 l0_1 l0_2 a1_0 l1_1 l1_2 t279 t280 t283) = some r := by rw [if_neg (show ¬ (false = true) by decide)] at H; exact H
                        clear H
                        have H := H1
                        clear H1
                        have H' := Aside0.mk H
                        clear H
                        have hnb83 := NB251_252.out
                        have hnc83 := NB252_251.out
                        have hnb84 := NB251_272.out
                        have hnc84 := NB272_251.out
                        have hnb85 := NB251_288.out
                        have hnc85 := NB288_251.out
                        have hcz86_0 : w61.cell? ⟨gb251, 0, none⟩ = some (.bool a0_0) := (blk_cell BK251.out 0).trans rfl
                        have hcz86_1 : w61.cell? ⟨gb251, 1, none⟩ = some (.slice A0_1 l0_1.length c0_1) := (blk_cell BK251.out 1).trans rfl
                        have hcz86_2 : w61.cell? ⟨gb251, 2, none⟩ = some (.slice A0_2 l0_2.length c0_2) := (blk_cell BK251.out 2).trans rfl
                        have hfz86_0 := blk_frozen BK251.out 0
                        have hfz86_1 := blk_frozen BK251.out 1
                        have hfz86_2 := blk_frozen BK251.out 2
                        have hnb87 := NB272_252.out
                        have hnc87 := NB252_272.out
                        have hnb88 := NB272_288.out
                        have hnc88 := NB288_272.out
                        have hcz89_0 : w61.cell? ⟨gb272, 0, none⟩ = some (.bool t264) := (blk_cell BK272.out 0).trans rfl
                        have hcz89_1 : w61.cell? ⟨gb272, 1, none⟩ = some (.slice Ao55 t265.length co55) := (blk_cell BK272.out 1).trans rfl
                        have hcz89_2 : w61.cell? ⟨gb272, 2, none⟩ = some (.slice Ao56 t268.length co56) := (blk_cell BK272.out 2).trans rfl
                        have hfz89_0 := blk_frozen BK272.out 0
                        have hfz89_1 := blk_frozen BK272.out 1
                        have hfz89_2 := blk_frozen BK272.out 2
                        go_wp2_with (first | (go_at_call 20; (with_reducible refine (moraineref4_Same.calls kj6 a0_0 _ _ l0_1 _ _ l0_2 t264 _ _ t265 _ _ t268 false _ ?side1 ?side2 ?side3 ?side4 ?side5 ?side6 ?side7 ?side8 A69.out).mono ?_); (case side1 => exact zw19 HR0_1.out HB.out GE251.out GE252.out GE272.out GE288.out); (case side2 => exact HC0_1.out); (case side3 => exact zw19 HR0_2.out HB.out GE251.out GE252.out GE272.out GE288.out); (case side4 => exact HC0_2.out); (case side5 => refine (Kd.R_reads' (e := 5) (base := w.heap.size) (ok := fun k_ => (((some k_ ≠ (.slice Ao49 t256.length co49 : Value).ownBlock ∧ some k_ ≠ (v261 : Value).ownBlock) ∧ some k_ ≠ (.slice Ao59 y276.length co59 : Value).ownBlock) ∧ some k_ ≠ (.slice Ao66 t280.length co66 : Value).ownBlock)) (n := t265.length) (c := co55) ?_).2.2; exact (by (with_reducible repeat (first | apply Kd.R_alloc | apply Kd.R_drewN | apply Kd.R_drew)); exact (Kd.R_mono (Kd.R_far (p := ⟨gb288, 2, none⟩) (Kd.R_far (p := ⟨gb288, 1, none⟩) (Kd.R_far (p := ⟨gb288, 0, none⟩) (Kd.R_types HO267.out BK288.out (by decide)) (fun _ hk => hk.2) (.bool t279)) (fun _ hk => hk.2) (.slice Ao66 t280.length co66)) (fun _ hk => hk.2) (.slice Ao67 t283.length co67)) (fun _ h_ => h_.1)))); (case side6 => exact (Kd.R_reads' HO267.out).2.1); (case side7 => refine (Kd.R_reads' (e := 25) (base := w.heap.size) (ok := fun k_ => (((((some k_ ≠ (.slice Ao49 t256.length co49 : Value).ownBlock ∧ (some k_ ≠ (v261 : Value).ownBlock ∧ (some k_ ≠ (.slice Ao55 t265.length co55 : Value).ownBlock ∧ (k_ ≠ gb251 ∧ (k_ ≠ gb252 ∧ k_ ≠ gb272))))) ∧ some k_ ≠ (.slice Ao59 y276.length co59 : Value).ownBlock) ∧ some k_ ≠ (.slice Ao66 t280.length co66 : Value).ownBlock) ∧ some k_ ≠ (.slice Ao67 t283.length co67 : Value).ownBlock) ∧ k_ ≠ gb288)) (n := t268.length) (c := co56) ?_).2.2; exact (by (with_reducible repeat (first | apply Kd.R_alloc | apply Kd.R_drewN | apply Kd.R_drew)); exact (Kd.R_mono (Kd.R_far (p := ⟨gb288, 2, none⟩) (Kd.R_far (p := ⟨gb288, 1, none⟩) (Kd.R_far (p := ⟨gb288, 0, none⟩) (Kd.R_mono HO270.out (fun k_ hk => (⟨hk, hk.2⟩ : _ ∧ k_ ≠ gb288))) (fun _ hk => hk.2) (.bool t279)) (fun _ hk => hk.2) (.slice Ao66 t280.length co66)) (fun _ hk => hk.2) (.slice Ao67 t283.length co67)) (fun _ h_ => h_.1)))); (case side8 => exact (Kd.R_reads' HO270.out).2.1); rintro e w90 ⟨rfl, hb⟩; have n0_ := Aside0.mk (Kd.R_below (by (with_reducible repeat (first | apply Kd.R_alloc | apply Kd.R_drewN | apply Kd.R_drew)); exact (Kd.R_mono (Kd.R_far (p := ⟨gb288, 2, none⟩) (Kd.R_far (p := ⟨gb288, 1, none⟩) (Kd.R_far (p := ⟨gb288, 0, none⟩) (Kd.R_types HO258.out BK288.out (by decide)) (fun _ hk => hk.2) (.bool t279)) (fun _ hk => hk.2) (.slice Ao66 t280.length co66)) (fun _ hk => hk.2) (.slice Ao67 t283.length co67)) (fun _ h_ => h_.1))) hb); have n1_ := Aside0.mk (Kd.R_below (by (with_reducible repeat (first | apply Kd.R_alloc | apply Kd.R_drewN | apply Kd.R_drew)); exact (Kd.R_mono (Kd.R_far (p := ⟨gb288, 2, none⟩) (Kd.R_far (p := ⟨gb288, 1, none⟩) (Kd.R_far (p := ⟨gb288, 0, none⟩) (Kd.R_types HO262.out BK288.out (by decide)) (fun _ hk => hk.2) (.bool t279)) (fun _ hk => hk.2) (.slice Ao66 t280.length co66)) (fun _ hk => hk.2) (.slice Ao67 t283.length co67)) (fun _ h_ => h_.1))) hb); have n2_ := Aside0.mk (Kd.R_below (by (with_reducible repeat (first | apply Kd.R_alloc | apply Kd.R_drewN | apply Kd.R_drew)); exact (Kd.R_mono (Kd.R_far (p := ⟨gb288, 2, none⟩) (Kd.R_far (p := ⟨gb288, 1, none⟩) (Kd.R_far (p := ⟨gb288, 0, none⟩) (Kd.R_types HO267.out BK288.out (by decide)) (fun _ hk => hk.2) (.bool t279)) (fun _ hk => hk.2) (.slice Ao66 t280.length co66)) (fun _ hk => hk.2) (.slice Ao67 t283.length co67)) (fun _ h_ => h_.1))) hb); have n3_ := Aside0.mk (Kd.R_below (by (with_reducible repeat (first | apply Kd.R_alloc | apply Kd.R_drewN | apply Kd.R_drew)); exact (Kd.R_mono (Kd.R_far (p := ⟨gb288, 2, none⟩) (Kd.R_far (p := ⟨gb288, 1, none⟩) (Kd.R_far (p := ⟨gb288, 0, none⟩) (Kd.R_mono HO270.out (fun k_ hk => (⟨hk, hk.2⟩ : _ ∧ k_ ≠ gb288))) (fun _ hk => hk.2) (.bool t279)) (fun _ hk => hk.2) (.slice Ao66 t280.length co66)) (fun _ hk => hk.2) (.slice Ao67 t283.length co67)) (fun _ h_ => h_.1))) hb); have n4_ := Aside0.mk (Kd.R_below (by (with_reducible repeat (first | apply Kd.R_alloc | apply Kd.R_drewN | apply Kd.R_drew)); exact (Kd.R_mono (Kd.R_far (p := ⟨gb288, 2, none⟩) (Kd.R_far (p := ⟨gb288, 1, none⟩) (Kd.R_far (p := ⟨gb288, 0, none⟩) (Kd.R_types HO278.out BK288.out (by decide)) (fun _ hk => hk.2) (.bool t279)) (fun _ hk => hk.2) (.slice Ao66 t280.length co66)) (fun _ hk => hk.2) (.slice Ao67 t283.length co67)) (fun _ h_ => h_.1))) hb); have n5_ := Aside0.mk (Kd.R_below (by (with_reducible repeat (first | apply Kd.R_alloc | apply Kd.R_drewN | apply Kd.R_drew)); exact (Kd.R_mono (Kd.R_far (p := ⟨gb288, 2, none⟩) (Kd.R_far (p := ⟨gb288, 1, none⟩) (Kd.R_far (p := ⟨gb288, 0, none⟩) (Kd.R_types HO282.out BK288.out (by decide)) (fun _ hk => hk.2) (.bool t279)) (fun _ hk => hk.2) (.slice Ao66 t280.length co66)) (fun _ hk => hk.2) (.slice Ao67 t283.length co67)) (fun _ h_ => h_.1))) hb); have n6_ := Aside0.mk (Kd.R_below (by (with_reducible repeat (first | apply Kd.R_alloc | apply Kd.R_drewN | apply Kd.R_drew)); exact (Kd.R_mono (Kd.R_far (p := ⟨gb288, 2, none⟩) (Kd.R_far (p := ⟨gb288, 1, none⟩) (Kd.R_far (p := ⟨gb288, 0, none⟩) (Kd.R_mono HO285.out (fun k_ hk => (⟨hk, hk.2⟩ : _ ∧ k_ ≠ gb288))) (fun _ hk => hk.2) (.bool t279)) (fun _ hk => hk.2) (.slice Ao66 t280.length co66)) (fun _ hk => hk.2) (.slice Ao67 t283.length co67)) (fun _ h_ => h_.1))) hb); have n7_ := Aside0.mk (blk_below (g := gb251) (o := .cells #[.bool a0_0, .slice A0_1 l0_1.length c0_1, .slice A0_2 l0_2.length c0_2] 25 (0, 0)) (zw10 NB251_288.out BK251.out) hb); have n8_ := Aside0.mk (blk_below (g := gb252) (o := .cells #[.bool a1_0, .slice A1_1 l1_1.length c1_1, .slice A1_2 l1_2.length c1_2] 25 (0, 0)) (zw10 NB252_288.out BK252.out) hb); have n9_ := Aside0.mk (blk_below (g := gb272) (o := .cells #[.bool t264, .slice Ao55 t265.length co55, .slice Ao56 t268.length co56] 25 (0, 0)) (zw10 NB272_288.out BK272.out) hb); have n10_ := Aside0.mk (blk_below (g := gb288) (o := .cells #[.bool t279, .slice Ao66 t280.length co66, .slice Ao67 t283.length co67] 25 (0, 0)) (by (with_reducible repeat (first | refine blk_drewN ?_ _ | refine blk_drew ?_ | refine blk_alloc ?_ _)); refine blk_put (cs := #[.bool t279, .slice Ao66 t280.length co66, .slice none 0 0]) ?_ 2 _ rfl; (with_reducible repeat (first | refine blk_drewN ?_ _ | refine blk_drew ?_ | refine blk_alloc ?_ _)); refine blk_put (cs := #[.bool t279, .slice none 0 0, .slice none 0 0]) ?_ 1 _ rfl; (with_reducible repeat (first | refine blk_drewN ?_ _ | refine blk_drew ?_ | refine blk_alloc ?_ _)); refine blk_put (cs := #[.bool false, .slice none 0 0, .slice none 0 0]) ?_ 0 _ rfl; (with_reducible repeat (first | refine blk_drewN ?_ _ | refine blk_drew ?_ | refine blk_alloc ?_ _)); exact BK288.out) hb); have n11_ := Aside0.mk (below_step (zw16 HB.out GE251.out GE252.out GE272.out GE288.out) hb); clear HO258; clear HO262; clear HO267; clear HO270; clear HO278; clear HO282; clear HO285; clear BK251; clear BK252; clear BK272; clear BK288; clear HB; have HO258 := n0_; have HO262 := n1_; have HO267 := n2_; have HO270 := n3_; have HO278 := n4_; have HO282 := n5_; have HO285 := n6_; have BK251 := n7_; have BK252 := n8_; have BK272 := n9_; have BK288 := n10_; have HB := n11_; clear n0_ n1_ n2_ n3_ n4_ n5_ n6_ n7_ n8_ n9_ n10_ n11_; (try clear hb); (try clear hb2); (try clear hk); (try clear hi)))
                        skip
                        go_meet
                        case rel => exact ⟨_, (true), zw11, H', ⟨by have := HJ6.out; first | omega | exact Nat.le_refl _⟩, ⟨by (with_reducible repeat (first | apply Kd.R_alloc | apply Kd.R_drewN | apply Kd.R_drew)); exact Kd.R_mono HO258.out (fun _ hk => ⟨hk.1.1.1, ⟨hk.1.1.2, hk.2⟩⟩)⟩, ⟨by (with_reducible repeat (first | apply Kd.R_alloc | apply Kd.R_drewN | apply Kd.R_drew)); exact Kd.R_mono HO262.out (fun _ hk => ⟨hk.1.1.1, ⟨hk.1.1.2, hk.2⟩⟩)⟩, ⟨by (with_reducible repeat (first | apply Kd.R_alloc | apply Kd.R_drewN | apply Kd.R_drew)); exact Kd.R_mono HO267.out (fun _ hk => ⟨hk.1.1.1, ⟨hk.1.1.2, hk.2⟩⟩)⟩, ⟨by (with_reducible repeat (first | apply Kd.R_alloc | apply Kd.R_drewN | apply Kd.R_drew)); exact Kd.R_mono HO270.out (fun _ hk => ⟨hk.1.1.1.1.1, ⟨hk.1.1.1.1.2.1, ⟨hk.1.1.1.1.2.2.1, ⟨hk.1.1.2, ⟨hk.1.2, ⟨hk.1.1.1.1.2.2.2.1, ⟨hk.1.1.1.1.2.2.2.2.1, ⟨hk.1.1.1.1.2.2.2.2.2, hk.2⟩⟩⟩⟩⟩⟩⟩⟩)⟩, ⟨by (with_reducible repeat (first | apply Kd.R_alloc | apply Kd.R_drewN | apply Kd.R_drew)); exact Kd.R_mono HO282.out (fun _ hk => ⟨hk.1.1.1.2, ⟨hk.1.1.2, hk.1.2⟩⟩)⟩, ⟨by (with_reducible repeat (first | apply Kd.R_alloc | apply Kd.R_drewN | apply Kd.R_drew)); exact Kd.R_mono HO285.out (fun _ hk => ⟨hk.1.1.1.1.1.1.1.1.2, ⟨hk.1.1.1.1.1.1.1.2, ⟨hk.1.1.1.1.1.1.2, ⟨hk.1.1.1.1.1.2, ⟨hk.1.1.1.1.1.1.1.1.1, ⟨hk.1.1.1.2, ⟨hk.1.1.2, ⟨hk.1.2, hk.2⟩⟩⟩⟩⟩⟩⟩⟩)⟩, ⟨by (with_reducible repeat (first | refine blk_drewN ?_ _ | refine blk_drew ?_ | refine blk_alloc ?_ _)); exact BK251.out⟩, ⟨by (with_reducible repeat (first | refine blk_drewN ?_ _ | refine blk_drew ?_ | refine blk_alloc ?_ _)); exact BK252.out⟩, ⟨by (with_reducible repeat (first | refine blk_drewN ?_ _ | refine blk_drew ?_ | refine blk_alloc ?_ _)); exact BK272.out⟩, ⟨by (with_reducible repeat (first | refine blk_drewN ?_ _ | refine blk_drew ?_ | refine blk_alloc ?_ _)); exact BK288.out⟩, ⟨by repeat (first | (with_reducible first | exact HB.out | apply below_alloc | apply pw_below_drewN | apply below_drew1 | refine below_set ?_ GE251.out | refine below_set ?_ GE252.out | refine below_set ?_ GE272.out | refine below_set ?_ GE288.out) | exact HB.out)⟩⟩
                    · rw [if_neg c68] at H
                      have c68b0 : (t271 == 0) = false := beq_eq_false_iff_ne.mpr c68
                      have c68b1 : (t271 != 0) = true := bne_iff_ne.mpr c68
                      (first | rw [c68b0] | (simp only [i64_w, i32_w]; rw [c68b0]) | skip)
                      have H' := Aside0.mk H
                      clear H
                      go_wp2
                      repeat (go_quiet (fail); try go_wp2)
                      go_meet
                      case rel => exact ⟨_, (true), zw11, H', ⟨by have := HJ6.out; first | omega | exact Nat.le_refl _⟩, ⟨by (with_reducible repeat (first | apply Kd.R_alloc | apply Kd.R_drewN | apply Kd.R_drew)); exact Kd.R_mono (Kd.R_far (p := ⟨gb288, 2, none⟩) (Kd.R_far (p := ⟨gb288, 1, none⟩) (Kd.R_far (p := ⟨gb288, 0, none⟩) (Kd.R_types HO258.out BK288.out (by decide)) (fun _ hk => hk.2) (.bool t279)) (fun _ hk => hk.2) (.slice Ao66 t280.length co66)) (fun _ hk => hk.2) (.slice Ao67 t283.length co67)) (fun _ hk => ⟨hk.1.1.1.1, ⟨hk.1.1.1.2, hk.1.2⟩⟩)⟩, ⟨by (with_reducible repeat (first | apply Kd.R_alloc | apply Kd.R_drewN | apply Kd.R_drew)); exact Kd.R_mono (Kd.R_far (p := ⟨gb288, 2, none⟩) (Kd.R_far (p := ⟨gb288, 1, none⟩) (Kd.R_far (p := ⟨gb288, 0, none⟩) (Kd.R_types HO262.out BK288.out (by decide)) (fun _ hk => hk.2) (.bool t279)) (fun _ hk => hk.2) (.slice Ao66 t280.length co66)) (fun _ hk => hk.2) (.slice Ao67 t283.length co67)) (fun _ hk => ⟨hk.1.1.1.1, ⟨hk.1.1.1.2, hk.1.2⟩⟩)⟩, ⟨by (with_reducible repeat (first | apply Kd.R_alloc | apply Kd.R_drewN | apply Kd.R_drew)); exact Kd.R_mono (Kd.R_far (p := ⟨gb288, 2, none⟩) (Kd.R_far (p := ⟨gb288, 1, none⟩) (Kd.R_far (p := ⟨gb288, 0, none⟩) (Kd.R_types HO267.out BK288.out (by decide)) (fun _ hk => hk.2) (.bool t279)) (fun _ hk => hk.2) (.slice Ao66 t280.length co66)) (fun _ hk => hk.2) (.slice Ao67 t283.length co67)) (fun _ hk => ⟨hk.1.1.1.1, ⟨hk.1.1.1.2, hk.1.2⟩⟩)⟩, ⟨by (with_reducible repeat (first | apply Kd.R_alloc | apply Kd.R_drewN | apply Kd.R_drew)); exact Kd.R_mono (Kd.R_far (p := ⟨gb288, 2, none⟩) (Kd.R_far (p := ⟨gb288, 1, none⟩) (Kd.R_far (p := ⟨gb288, 0, none⟩) (Kd.R_mono HO270.out (fun k_ hk => (⟨hk, hk.2⟩ : _ ∧ k_ ≠ gb288))) (fun _ hk => hk.2) (.bool t279)) (fun _ hk => hk.2) (.slice Ao66 t280.length co66)) (fun _ hk => hk.2) (.slice Ao67 t283.length co67)) (fun _ hk => ⟨hk.1.1.1.1.1.1, ⟨hk.1.1.1.1.1.2.1, ⟨hk.1.1.1.1.1.2.2.1, ⟨hk.1.1.1.2, ⟨hk.1.1.2, ⟨hk.1.1.1.1.1.2.2.2.1, ⟨hk.1.1.1.1.1.2.2.2.2.1, ⟨hk.1.1.1.1.1.2.2.2.2.2, hk.1.2⟩⟩⟩⟩⟩⟩⟩⟩)⟩, ⟨by (with_reducible repeat (first | apply Kd.R_alloc | apply Kd.R_drewN | apply Kd.R_drew)); exact Kd.R_mono (Kd.R_far (p := ⟨gb288, 2, none⟩) (Kd.R_far (p := ⟨gb288, 1, none⟩) (Kd.R_far (p := ⟨gb288, 0, none⟩) (Kd.R_types HO282.out BK288.out (by decide)) (fun _ hk => hk.2) (.bool t279)) (fun _ hk => hk.2) (.slice Ao66 t280.length co66)) (fun _ hk => hk.2) (.slice Ao67 t283.length co67)) (fun _ hk => ⟨hk.1.1.1.1.2, ⟨hk.1.1.1.2, hk.1.1.2⟩⟩)⟩, ⟨by (with_reducible repeat (first | apply Kd.R_alloc | apply Kd.R_drewN | apply Kd.R_drew)); exact Kd.R_mono (Kd.R_far (p := ⟨gb288, 2, none⟩) (Kd.R_far (p := ⟨gb288, 1, none⟩) (Kd.R_far (p := ⟨gb288, 0, none⟩) (Kd.R_mono HO285.out (fun k_ hk => (⟨hk, hk.2⟩ : _ ∧ k_ ≠ gb288))) (fun _ hk => hk.2) (.bool t279)) (fun _ hk => hk.2) (.slice Ao66 t280.length co66)) (fun _ hk => hk.2) (.slice Ao67 t283.length co67)) (fun _ hk => ⟨hk.1.1.1.1.1.1.1.1.1.2, ⟨hk.1.1.1.1.1.1.1.1.2, ⟨hk.1.1.1.1.1.1.1.2, ⟨hk.1.1.1.1.1.1.2, ⟨hk.1.1.1.1.1.1.1.1.1.1, ⟨hk.1.1.1.1.2, ⟨hk.1.1.1.2, ⟨hk.1.1.2, hk.1.2⟩⟩⟩⟩⟩⟩⟩⟩)⟩, ⟨by (with_reducible repeat (first | refine blk_drewN ?_ _ | refine blk_drew ?_ | refine blk_alloc ?_ _)); refine blk_far ?_ NB251_288.out _; (with_reducible repeat (first | refine blk_drewN ?_ _ | refine blk_drew ?_ | refine blk_alloc ?_ _)); refine blk_far ?_ NB251_288.out _; (with_reducible repeat (first | refine blk_drewN ?_ _ | refine blk_drew ?_ | refine blk_alloc ?_ _)); refine blk_far ?_ NB251_288.out _; (with_reducible repeat (first | refine blk_drewN ?_ _ | refine blk_drew ?_ | refine blk_alloc ?_ _)); exact BK251.out⟩, ⟨by (with_reducible repeat (first | refine blk_drewN ?_ _ | refine blk_drew ?_ | refine blk_alloc ?_ _)); refine blk_far ?_ NB252_288.out _; (with_reducible repeat (first | refine blk_drewN ?_ _ | refine blk_drew ?_ | refine blk_alloc ?_ _)); refine blk_far ?_ NB252_288.out _; (with_reducible repeat (first | refine blk_drewN ?_ _ | refine blk_drew ?_ | refine blk_alloc ?_ _)); refine blk_far ?_ NB252_288.out _; (with_reducible repeat (first | refine blk_drewN ?_ _ | refine blk_drew ?_ | refine blk_alloc ?_ _)); exact BK252.out⟩, ⟨by (with_reducible repeat (first | refine blk_drewN ?_ _ | refine blk_drew ?_ | refine blk_alloc ?_ _)); refine blk_far ?_ NB272_288.out _; (with_reducible repeat (first | refine blk_drewN ?_ _ | refine blk_drew ?_ | refine blk_alloc ?_ _)); refine blk_far ?_ NB272_288.out _; (with_reducible repeat (first | refine blk_drewN ?_ _ | refine blk_drew ?_ | refine blk_alloc ?_ _)); refine blk_far ?_ NB272_288.out _; (with_reducible repeat (first | refine blk_drewN ?_ _ | refine blk_drew ?_ | refine blk_alloc ?_ _)); exact BK272.out⟩, ⟨by (with_reducible repeat (first | refine blk_drewN ?_ _ | refine blk_drew ?_ | refine blk_alloc ?_ _)); refine blk_put (cs := #[.bool t279, .slice Ao66 t280.length co66, .slice none 0 0]) ?_ 2 _ rfl; (with_reducible repeat (first | refine blk_drewN ?_ _ | refine blk_drew ?_ | refine blk_alloc ?_ _)); refine blk_put (cs := #[.bool t279, .slice none 0 0, .slice none 0 0]) ?_ 1 _ rfl; (with_reducible repeat (first | refine blk_drewN ?_ _ | refine blk_drew ?_ | refine blk_alloc ?_ _)); refine blk_put (cs := #[.bool false, .slice none 0 0, .slice none 0 0]) ?_ 0 _ rfl; (with_reducible repeat (first | refine blk_drewN ?_ _ | refine blk_drew ?_ | refine blk_alloc ?_ _)); exact BK288.out⟩, ⟨by repeat (first | (with_reducible first | exact HB.out | apply below_alloc | apply pw_below_drewN | apply below_drew1 | refine below_set ?_ GE251.out | refine below_set ?_ GE252.out | refine below_set ?_ GE272.out | refine below_set ?_ GE288.out) | exact HB.out)⟩⟩
                  case rest =>
                    clear HC48
                    try clear c1
                    try clear c2
                    try clear p2
                    try clear c3
                    try clear c4
                    try clear c5
                    try clear c6
                    try clear c7
                    try clear c8
                    try clear c12
                    try clear c14
                    try clear c15
                    try clear c15b0
                    try clear c15b1
                    try clear c16
                    try clear c21
                    try clear c26
                    try clear c31
                    try clear c34
                    try clear c38
                    try clear c43
                    try clear c43b0
                    try clear c43b1
                    try clear c45
                    try clear c46
                    try clear c52
                    try clear c53
                    try clear c62
                    try clear c63
                    try clear c64
                    try clear c68
                    try clear c68b0
                    try clear c68b1
                    try clear c70
                    try clear c72
                    try clear c73
                    try clear c74
                    try clear c76
                    try clear c77
                    try clear c83
                    try clear c84
                    try clear c85
                    try clear c87
                    try clear c88
                    try clear hcz17_0
                    try clear hcz17_1
                    try clear hcz17_2
                    try clear hcz19_0
                    try clear hcz19_1
                    try clear hcz19_2
                    try clear hcz22_0
                    try clear hcz22_1
                    try clear hcz22_2
                    try clear hcz24_0
                    try clear hcz24_1
                    try clear hcz24_2
                    try clear hcz27_0
                    try clear hcz27_1
                    try clear hcz27_2
                    try clear hcz29_0
                    try clear hcz29_1
                    try clear hcz29_2
                    try clear hcz32_0
                    try clear hcz32_1
                    try clear hcz32_2
                    try clear hcz39_0
                    try clear hcz39_1
                    try clear hcz39_2
                    try clear hcz41_0
                    try clear hcz41_1
                    try clear hcz41_2
                    try clear hcz54_0
                    try clear hcz54_1
                    try clear hcz54_2
                    try clear hcz65_0
                    try clear hcz65_1
                    try clear hcz65_2
                    try clear hcz75_0
                    try clear hcz75_1
                    try clear hcz75_2
                    try clear hcz78_0
                    try clear hcz78_1
                    try clear hcz78_2
                    try clear hcz80_0
                    try clear hcz80_1
                    try clear hcz80_2
                    try clear hcz81_0
                    try clear hcz81_1
                    try clear hcz81_2
                    try clear hcz86_0
                    try clear hcz86_1
                    try clear hcz86_2
                    try clear hcz89_0
                    try clear hcz89_1
                    try clear hcz89_2
                    try clear hfz17_0
                    try clear hfz17_1
                    try clear hfz17_2
                    try clear hfz19_0
                    try clear hfz19_1
                    try clear hfz19_2
                    try clear hfz22_0
                    try clear hfz22_1
                    try clear hfz22_2
                    try clear hfz24_0
                    try clear hfz24_1
                    try clear hfz24_2
                    try clear hfz27_0
                    try clear hfz27_1
                    try clear hfz27_2
                    try clear hfz29_0
                    try clear hfz29_1
                    try clear hfz29_2
                    try clear hfz32_0
                    try clear hfz32_1
                    try clear hfz32_2
                    try clear hfz39_0
                    try clear hfz39_1
                    try clear hfz39_2
                    try clear hfz41_0
                    try clear hfz41_1
                    try clear hfz41_2
                    try clear hfz54_0
                    try clear hfz54_1
                    try clear hfz54_2
                    try clear hfz65_0
                    try clear hfz65_1
                    try clear hfz65_2
                    try clear hfz75_0
                    try clear hfz75_1
                    try clear hfz75_2
                    try clear hfz78_0
                    try clear hfz78_1
                    try clear hfz78_2
                    try clear hfz80_0
                    try clear hfz80_1
                    try clear hfz80_2
                    try clear hfz81_0
                    try clear hfz81_1
                    try clear hfz81_2
                    try clear hfz86_0
                    try clear hfz86_1
                    try clear hfz86_2
                    try clear hfz89_0
                    try clear hfz89_1
                    try clear hfz89_2
                    try clear p2
                    obtain ⟨kq, x78_47, rfl, HA, HJ47, HO_9, HO_11, HO_273001, HO_273002, HO_289001, HO_289002, BK251, BK252, BK272, BK288, HB⟩ := hcut
                    cases kq with
                    | zero => exact absurd HA.out (by simp [morainelaw4_RlpBack.j1])
                    | succ kj47 =>
                      have H := HA.out
                      clear HA
                      simp only [morainelaw4_RlpBack.j1] at H
                      by_cases c91 : x78_47 = true
                      · subst c91
                        have H1 : (some false) = some r := by rw [if_pos rfl] at H; exact H
                        clear H
                        have H := H1
                        clear H1
                        obtain rfl := Option.some.inj H
                        go_wp2
                        repeat (go_quiet (fail); try go_wp2)
                        go_ret
                        exact ⟨by first | rfl | (simp [errW_none, errW_some] <;> rfl) | (simp [*, errW_none, errW_some] <;> rfl), by repeat (first | (with_reducible first | exact HB.out | apply below_alloc | apply pw_below_drewN | apply below_drew1 | refine below_set ?_ GE251.out | refine below_set ?_ GE252.out | refine below_set ?_ GE272.out | refine below_set ?_ GE288.out) | exact HB.out)⟩
                      · replace c91 := Bool.eq_false_iff.mpr c91
                        subst c91
                        have H1 : (if (wrap64 ((t256.length : Int) + (l2.length : Int))) ≤ 65536 then (if t287 = 0 then (if t286 = (t256.length : Int) then ((moraineref4_Same.f kj47 a0_0 l0_1 l0_2 t279 t280 t283).bind fun t291 => (if t291 = true then (morainelaw4_RlpBack.j2 kj47 l3 t256 t259 t260 t263 a0_0 l0_1 l0_2 a1_0 l1_1 l1_2) else (some false))) else (some false)) else (some false)) else (morainelaw4_RlpBack.j2 kj47 l3 t256 t259 t260 t263 a0_0 l0_1 l0_2 a1_0 l1_1 l1_2)) = some r := by rw [if_neg (show ¬ (false = true) by decide)] at H; exact H
                        clear H
                        have H := H1
                        clear H1
                        by_cases c92 : (wrap64 ((t256.length : Int) + (l2.length : Int))) ≤ 65536
                        · rw [if_pos c92] at H
                          have c92b0 : decide ((wrap64 ((t256.length : Int) + (l2.length : Int))) ≤ 65536) = true := decide_eq_true c92
                          clear c92
                          by_cases c93 : t287 = 0
                          · rw [if_pos c93] at H
                            have c93b0 : (t287 == 0) = true := beq_iff_eq.mpr c93
                            have c93b1 : (t287 != 0) = false := bne_eq_false_iff_eq.mpr c93
                            clear c93
                            by_cases c94 : t286 = (t256.length : Int)
                            · rw [if_pos c94] at H
                              have c94b0 : (t286 == (t256.length : Int)) = true := beq_iff_eq.mpr c94
                              have c94b1 : (t286 != (t256.length : Int)) = false := bne_eq_false_iff_eq.mpr c94
                              clear c94
                              replace H := Option.bind_eq_some_iff.mp H
                              obtain ⟨t291, A950, H⟩ := H
                              replace H : (if t291 = true then (morainelaw4_RlpBack.j2 kj47 l3 t256 t259 t260 t263 a0_0 l0_1 l0_2 a1_0 l1_1 l1_2) else (some false)) = some r := H
                              have A95 := Aside0.mk A950
                              clear A950
                              by_cases c96 : t291 = true
                              · subst c96
                                have H1 : (morainelaw4_RlpBack.j2 kj47 l3 t256 t259 t260 t263 a0_0 l0_1 l0_2 a1_0 l1_1 l1_2) = some r := by rw [if_pos rfl] at H; exact H
                                clear H
                                have H := H1
                                clear H1
                                have H' := Aside0.mk H
                                clear H
                                have hnb97 := NB251_252.out
                                have hnc97 := NB252_251.out
                                have hnb98 := NB251_272.out
                                have hnc98 := NB272_251.out
                                have hnb99 := NB251_288.out
                                have hnc99 := NB288_251.out
                                have hcz100_0 : wc.cell? ⟨gb251, 0, none⟩ = some (.bool a0_0) := (blk_cell BK251.out 0).trans rfl
                                have hcz100_1 : wc.cell? ⟨gb251, 1, none⟩ = some (.slice A0_1 l0_1.length c0_1) := (blk_cell BK251.out 1).trans rfl
                                have hcz100_2 : wc.cell? ⟨gb251, 2, none⟩ = some (.slice A0_2 l0_2.length c0_2) := (blk_cell BK251.out 2).trans rfl
                                have hfz100_0 := blk_frozen BK251.out 0
                                have hfz100_1 := blk_frozen BK251.out 1
                                have hfz100_2 := blk_frozen BK251.out 2
                                have hnb101 := NB288_252.out
                                have hnc101 := NB252_288.out
                                have hnb102 := NB288_272.out
                                have hnc102 := NB272_288.out
                                have hcz103_0 : wc.cell? ⟨gb288, 0, none⟩ = some (.bool t279) := (blk_cell BK288.out 0).trans rfl
                                have hcz103_1 : wc.cell? ⟨gb288, 1, none⟩ = some (.slice Ao66 t280.length co66) := (blk_cell BK288.out 1).trans rfl
                                have hcz103_2 : wc.cell? ⟨gb288, 2, none⟩ = some (.slice Ao67 t283.length co67) := (blk_cell BK288.out 2).trans rfl
                                have hfz103_0 := blk_frozen BK288.out 0
                                have hfz103_1 := blk_frozen BK288.out 1
                                have hfz103_2 := blk_frozen BK288.out 2
                                go_wp2_with (first | (go_at_call 20; (with_reducible refine (moraineref4_Same.calls kj47 a0_0 _ _ l0_1 _ _ l0_2 t279 _ _ t280 _ _ t283 true _ ?side1 ?side2 ?side3 ?side4 ?side5 ?side6 ?side7 ?side8 A95.out).mono ?_); (case side1 => exact zw2 HR0_1.out HB.out); (case side2 => exact HC0_1.out); (case side3 => exact zw2 HR0_2.out HB.out); (case side4 => exact HC0_2.out); (case side5 => exact zw15 HO_289001.out); (case side6 => exact (Kd.R_reads' HO_289001.out).2.1); (case side7 => exact zw15 HO_289002.out); (case side8 => exact (Kd.R_reads' HO_289002.out).2.1); rintro e w104 ⟨rfl, hb⟩; have n0_ := Aside0.mk (Kd.R_below (zw1 HO_9.out) hb); have n1_ := Aside0.mk (Kd.R_below (zw1 HO_11.out) hb); have n2_ := Aside0.mk (Kd.R_below (zw1 HO_273001.out) hb); have n3_ := Aside0.mk (Kd.R_below (zw1 HO_273002.out) hb); have n4_ := Aside0.mk (Kd.R_below (zw1 HO_289001.out) hb); have n5_ := Aside0.mk (Kd.R_below (zw1 HO_289002.out) hb); have n6_ := Aside0.mk (blk_below (g := gb251) (o := .cells #[.bool a0_0, .slice A0_1 l0_1.length c0_1, .slice A0_2 l0_2.length c0_2] 25 (0, 0)) (zw0 BK251.out) hb); have n7_ := Aside0.mk (blk_below (g := gb252) (o := .cells #[.bool a1_0, .slice A1_1 l1_1.length c1_1, .slice A1_2 l1_2.length c1_2] 25 (0, 0)) (zw0 BK252.out) hb); have n8_ := Aside0.mk (blk_below (g := gb272) (o := .cells #[.bool t264, .slice Ao55 t265.length co55, .slice Ao56 t268.length co56] 25 (0, 0)) (zw0 BK272.out) hb); have n9_ := Aside0.mk (blk_below (g := gb288) (o := .cells #[.bool t279, .slice Ao66 t280.length co66, .slice Ao67 t283.length co67] 25 (0, 0)) (zw0 BK288.out) hb); have n10_ := Aside0.mk (below_step (zw16 HB.out GE251.out GE252.out GE272.out GE288.out) hb); clear HO_9; clear HO_11; clear HO_273001; clear HO_273002; clear HO_289001; clear HO_289002; clear BK251; clear BK252; clear BK272; clear BK288; clear HB; have HO_9 := n0_; have HO_11 := n1_; have HO_273001 := n2_; have HO_273002 := n3_; have HO_289001 := n4_; have HO_289002 := n5_; have BK251 := n6_; have BK252 := n7_; have BK272 := n8_; have BK288 := n9_; have HB := n10_; clear n0_ n1_ n2_ n3_ n4_ n5_ n6_ n7_ n8_ n9_ n10_; (try clear hb); (try clear hb2); (try clear hk); (try clear hi)))
                                skip
                                go_meet
                                case rel => exact ⟨_, H', ⟨by have := HJ6.out; have := HJ47.out; first | omega | exact Nat.le_refl _⟩, ⟨by (with_reducible repeat (first | apply Kd.R_alloc | apply Kd.R_drewN | apply Kd.R_drew)); exact Kd.R_mono HO_9.out (fun _ hk => hk.1)⟩, ⟨by (with_reducible repeat (first | apply Kd.R_alloc | apply Kd.R_drewN | apply Kd.R_drew)); exact Kd.R_mono HO_11.out (fun _ hk => hk.1)⟩, ⟨by (with_reducible repeat (first | refine blk_drewN ?_ _ | refine blk_drew ?_ | refine blk_alloc ?_ _)); exact BK251.out⟩, ⟨by (with_reducible repeat (first | refine blk_drewN ?_ _ | refine blk_drew ?_ | refine blk_alloc ?_ _)); exact BK252.out⟩, ⟨by repeat (first | (with_reducible first | exact HB.out | apply below_alloc | apply pw_below_drewN | apply below_drew1 | refine below_set ?_ GE251.out | refine below_set ?_ GE252.out | refine below_set ?_ GE272.out | refine below_set ?_ GE288.out) | exact HB.out)⟩⟩
                              · replace c96 := Bool.eq_false_iff.mpr c96
                                subst c96
                                have H1 : (some false) = some r := by rw [if_neg (show ¬ (false = true) by decide)] at H; exact H
                                clear H
                                have H := H1
                                clear H1
                                obtain rfl := Option.some.inj H
                                have hnb105 := NB251_252.out
                                have hnc105 := NB252_251.out
                                have hnb106 := NB251_272.out
                                have hnc106 := NB272_251.out
                                have hnb107 := NB251_288.out
                                have hnc107 := NB288_251.out
                                have hcz108_0 : wc.cell? ⟨gb251, 0, none⟩ = some (.bool a0_0) := (blk_cell BK251.out 0).trans rfl
                                have hcz108_1 : wc.cell? ⟨gb251, 1, none⟩ = some (.slice A0_1 l0_1.length c0_1) := (blk_cell BK251.out 1).trans rfl
                                have hcz108_2 : wc.cell? ⟨gb251, 2, none⟩ = some (.slice A0_2 l0_2.length c0_2) := (blk_cell BK251.out 2).trans rfl
                                have hfz108_0 := blk_frozen BK251.out 0
                                have hfz108_1 := blk_frozen BK251.out 1
                                have hfz108_2 := blk_frozen BK251.out 2
                                have hnb109 := NB288_252.out
                                have hnc109 := NB252_288.out
                                have hnb110 := NB288_272.out
                                have hnc110 := NB272_288.out
                                have hcz111_0 : wc.cell? ⟨gb288, 0, none⟩ = some (.bool t279) := (blk_cell BK288.out 0).trans rfl
                                have hcz111_1 : wc.cell? ⟨gb288, 1, none⟩ = some (.slice Ao66 t280.length co66) := (blk_cell BK288.out 1).trans rfl
                                have hcz111_2 : wc.cell? ⟨gb288, 2, none⟩ = some (.slice Ao67 t283.length co67) := (blk_cell BK288.out 2).trans rfl
                                have hfz111_0 := blk_frozen BK288.out 0
                                have hfz111_1 := blk_frozen BK288.out 1
                                have hfz111_2 := blk_frozen BK288.out 2
                                go_wp2_with (first | (go_at_call 20; (with_reducible refine (moraineref4_Same.calls kj47 a0_0 _ _ l0_1 _ _ l0_2 t279 _ _ t280 _ _ t283 false _ ?side1 ?side2 ?side3 ?side4 ?side5 ?side6 ?side7 ?side8 A95.out).mono ?_); (case side1 => exact zw2 HR0_1.out HB.out); (case side2 => exact HC0_1.out); (case side3 => exact zw2 HR0_2.out HB.out); (case side4 => exact HC0_2.out); (case side5 => exact zw15 HO_289001.out); (case side6 => exact (Kd.R_reads' HO_289001.out).2.1); (case side7 => exact zw15 HO_289002.out); (case side8 => exact (Kd.R_reads' HO_289002.out).2.1); rintro e w112 ⟨rfl, hb⟩; have n0_ := Aside0.mk (Kd.R_below (zw1 HO_9.out) hb); have n1_ := Aside0.mk (Kd.R_below (zw1 HO_11.out) hb); have n2_ := Aside0.mk (Kd.R_below (zw1 HO_273001.out) hb); have n3_ := Aside0.mk (Kd.R_below (zw1 HO_273002.out) hb); have n4_ := Aside0.mk (Kd.R_below (zw1 HO_289001.out) hb); have n5_ := Aside0.mk (Kd.R_below (zw1 HO_289002.out) hb); have n6_ := Aside0.mk (blk_below (g := gb251) (o := .cells #[.bool a0_0, .slice A0_1 l0_1.length c0_1, .slice A0_2 l0_2.length c0_2] 25 (0, 0)) (zw0 BK251.out) hb); have n7_ := Aside0.mk (blk_below (g := gb252) (o := .cells #[.bool a1_0, .slice A1_1 l1_1.length c1_1, .slice A1_2 l1_2.length c1_2] 25 (0, 0)) (zw0 BK252.out) hb); have n8_ := Aside0.mk (blk_below (g := gb272) (o := .cells #[.bool t264, .slice Ao55 t265.length co55, .slice Ao56 t268.length co56] 25 (0, 0)) (zw0 BK272.out) hb); have n9_ := Aside0.mk (blk_below (g := gb288) (o := .cells #[.bool t279, .slice Ao66 t280.length co66, .slice Ao67 t283.length co67] 25 (0, 0)) (zw0 BK288.out) hb); have n10_ := Aside0.mk (below_step (zw16 HB.out GE251.out GE252.out GE272.out GE288.out) hb); clear HO_9; clear HO_11; clear HO_273001; clear HO_273002; clear HO_289001; clear HO_289002; clear BK251; clear BK252; clear BK272; clear BK288; clear HB; have HO_9 := n0_; have HO_11 := n1_; have HO_273001 := n2_; have HO_273002 := n3_; have HO_289001 := n4_; have HO_289002 := n5_; have BK251 := n6_; have BK252 := n7_; have BK272 := n8_; have BK288 := n9_; have HB := n10_; clear n0_ n1_ n2_ n3_ n4_ n5_ n6_ n7_ n8_ n9_ n10_; (try clear hb); (try clear hb2); (try clear hk); (try clear hi)))
                                skip
                                go_ret
                                exact ⟨by first | rfl | (simp [errW_none, errW_some] <;> rfl) | (simp [*, errW_none, errW_some] <;> rfl), by repeat (first | (with_reducible first | exact HB.out | apply below_alloc | apply pw_below_drewN | apply below_drew1 | refine below_set ?_ GE251.out | refine below_set ?_ GE252.out | refine below_set ?_ GE272.out | refine below_set ?_ GE288.out) | exact HB.out)⟩
                            · rw [if_neg c94] at H
                              have c94b0 : (t286 == (t256.length : Int)) = false := beq_eq_false_iff_ne.mpr c94
                              have c94b1 : (t286 != (t256.length : Int)) = true := bne_iff_ne.mpr c94
                              obtain rfl := Option.some.inj H
                              go_wp2
                              repeat (go_quiet (fail); try go_wp2)
                              go_ret
                              exact ⟨by first | rfl | (simp [errW_none, errW_some] <;> rfl) | (simp [*, errW_none, errW_some] <;> rfl), by repeat (first | (with_reducible first | exact HB.out | apply below_alloc | apply pw_below_drewN | apply below_drew1 | refine below_set ?_ GE251.out | refine below_set ?_ GE252.out | refine below_set ?_ GE272.out | refine below_set ?_ GE288.out) | exact HB.out)⟩
                          · rw [if_neg c93] at H
                            have c93b0 : (t287 == 0) = false := beq_eq_false_iff_ne.mpr c93
                            have c93b1 : (t287 != 0) = true := bne_iff_ne.mpr c93
                            obtain rfl := Option.some.inj H
                            go_wp2
                            repeat (go_quiet (fail); try go_wp2)
                            go_ret
                            exact ⟨by first | rfl | (simp [errW_none, errW_some] <;> rfl) | (simp [*, errW_none, errW_some] <;> rfl), by repeat (first | (with_reducible first | exact HB.out | apply below_alloc | apply pw_below_drewN | apply below_drew1 | refine below_set ?_ GE251.out | refine below_set ?_ GE252.out | refine below_set ?_ GE272.out | refine below_set ?_ GE288.out) | exact HB.out)⟩
                        · rw [if_neg c92] at H
                          have c92b0 : decide ((wrap64 ((t256.length : Int) + (l2.length : Int))) ≤ 65536) = false := decide_eq_false c92
                          clear c92
                          have H' := Aside0.mk H
                          clear H
                          go_wp2
                          repeat (go_quiet (fail); try go_wp2)
                          go_meet
                          case rel => exact ⟨_, H', ⟨by have := HJ6.out; have := HJ47.out; first | omega | exact Nat.le_refl _⟩, ⟨by (with_reducible repeat (first | apply Kd.R_alloc | apply Kd.R_drewN | apply Kd.R_drew)); exact Kd.R_mono HO_9.out (fun _ hk => hk.1)⟩, ⟨by (with_reducible repeat (first | apply Kd.R_alloc | apply Kd.R_drewN | apply Kd.R_drew)); exact Kd.R_mono HO_11.out (fun _ hk => hk.1)⟩, ⟨by (with_reducible repeat (first | refine blk_drewN ?_ _ | refine blk_drew ?_ | refine blk_alloc ?_ _)); exact BK251.out⟩, ⟨by (with_reducible repeat (first | refine blk_drewN ?_ _ | refine blk_drew ?_ | refine blk_alloc ?_ _)); exact BK252.out⟩, ⟨by repeat (first | (with_reducible first | exact HB.out | apply below_alloc | apply pw_below_drewN | apply below_drew1 | refine below_set ?_ GE251.out | refine below_set ?_ GE252.out | refine below_set ?_ GE272.out | refine below_set ?_ GE288.out) | exact HB.out)⟩⟩
                · rw [if_neg c46] at H
                  exact absurd H (by simp)
              · rw [if_neg c45] at H
                exact absurd H (by simp)
            · rw [if_neg c43] at H
              have c43b0 : (t259 == 0) = false := beq_eq_false_iff_ne.mpr c43
              have c43b1 : (t259 != 0) = true := bne_iff_ne.mpr c43
              (first | rw [c43b0] | (simp only [i64_w, i32_w]; rw [c43b0]) | skip)
              have H' := Aside0.mk H
              clear H
              go_wp2
              repeat (go_quiet (fail); try go_wp2)
              go_meet
              case rel => exact ⟨_, H', ⟨by have := HJ6.out; first | omega | exact Nat.le_refl _⟩, ⟨by (with_reducible repeat (first | apply Kd.R_alloc | apply Kd.R_drewN | apply Kd.R_drew)); exact Kd.R_mono HO258.out (fun _ hk => hk.2)⟩, ⟨by (with_reducible repeat (first | apply Kd.R_alloc | apply Kd.R_drewN | apply Kd.R_drew)); exact Kd.R_mono HO262.out (fun _ hk => hk.2)⟩, ⟨by (with_reducible repeat (first | refine blk_drewN ?_ _ | refine blk_drew ?_ | refine blk_alloc ?_ _)); exact BK251.out⟩, ⟨by (with_reducible repeat (first | refine blk_drewN ?_ _ | refine blk_drew ?_ | refine blk_alloc ?_ _)); exact BK252.out⟩, ⟨by repeat (first | (with_reducible first | exact HB.out | apply below_alloc | apply pw_below_drewN | apply below_drew1 | refine below_set ?_ GE251.out | refine below_set ?_ GE252.out) | exact HB.out)⟩⟩
          case rest =>
            clear HC37
            try clear c1
            try clear c2
            try clear p2
            try clear c3
            try clear c4
            try clear c5
            try clear c6
            try clear p6
            try clear c7
            try clear c8
            try clear c9
            try clear c10
            try clear c11
            try clear c12
            try clear c14
            try clear c15
            try clear c15b0
            try clear c15b1
            try clear c16
            try clear c21
            try clear c26
            try clear c31
            try clear c34
            try clear c38
            try clear c43
            try clear c43b0
            try clear c43b1
            try clear c45
            try clear c46
            try clear c52
            try clear c53
            try clear c62
            try clear c63
            try clear c64
            try clear p64
            try clear c68
            try clear c68b0
            try clear c68b1
            try clear c70
            try clear c72
            try clear c73
            try clear c74
            try clear c76
            try clear c77
            try clear c83
            try clear c84
            try clear c85
            try clear c87
            try clear c88
            try clear c91
            try clear c92
            try clear c92b0
            try clear c93
            try clear c93b0
            try clear c93b1
            try clear c94
            try clear c94b0
            try clear c94b1
            try clear c96
            try clear c97
            try clear c98
            try clear c99
            try clear c101
            try clear c102
            try clear c105
            try clear c106
            try clear c107
            try clear c109
            try clear c110
            try clear hcz100_0
            try clear hcz100_1
            try clear hcz100_2
            try clear hcz103_0
            try clear hcz103_1
            try clear hcz103_2
            try clear hcz108_0
            try clear hcz108_1
            try clear hcz108_2
            try clear hcz111_0
            try clear hcz111_1
            try clear hcz111_2
            try clear hcz17_0
            try clear hcz17_1
            try clear hcz17_2
            try clear hcz19_0
            try clear hcz19_1
            try clear hcz19_2
            try clear hcz22_0
            try clear hcz22_1
            try clear hcz22_2
            try clear hcz24_0
            try clear hcz24_1
            try clear hcz24_2
            try clear hcz27_0
            try clear hcz27_1
            try clear hcz27_2
            try clear hcz29_0
            try clear hcz29_1
            try clear hcz29_2
            try clear hcz32_0
            try clear hcz32_1
            try clear hcz32_2
            try clear hcz39_0
            try clear hcz39_1
            try clear hcz39_2
            try clear hcz41_0
            try clear hcz41_1
            try clear hcz41_2
            try clear hcz54_0
            try clear hcz54_1
            try clear hcz54_2
            try clear hcz65_0
            try clear hcz65_1
            try clear hcz65_2
            try clear hcz75_0
            try clear hcz75_1
            try clear hcz75_2
            try clear hcz78_0
            try clear hcz78_1
            try clear hcz78_2
            try clear hcz80_0
            try clear hcz80_1
            try clear hcz80_2
            try clear hcz81_0
            try clear hcz81_1
            try clear hcz81_2
            try clear hcz86_0
            try clear hcz86_1
            try clear hcz86_2
            try clear hcz89_0
            try clear hcz89_1
            try clear hcz89_2
            try clear hfz100_0
            try clear hfz100_1
            try clear hfz100_2
            try clear hfz103_0
            try clear hfz103_1
            try clear hfz103_2
            try clear hfz108_0
            try clear hfz108_1
            try clear hfz108_2
            try clear hfz111_0
            try clear hfz111_1
            try clear hfz111_2
            try clear hfz17_0
            try clear hfz17_1
            try clear hfz17_2
            try clear hfz19_0
            try clear hfz19_1
            try clear hfz19_2
            try clear hfz22_0
            try clear hfz22_1
            try clear hfz22_2
            try clear hfz24_0
            try clear hfz24_1
            try clear hfz24_2
            try clear hfz27_0
            try clear hfz27_1
            try clear hfz27_2
            try clear hfz29_0
            try clear hfz29_1
            try clear hfz29_2
            try clear hfz32_0
            try clear hfz32_1
            try clear hfz32_2
            try clear hfz39_0
            try clear hfz39_1
            try clear hfz39_2
            try clear hfz41_0
            try clear hfz41_1
            try clear hfz41_2
            try clear hfz54_0
            try clear hfz54_1
            try clear hfz54_2
            try clear hfz65_0
            try clear hfz65_1
            try clear hfz65_2
            try clear hfz75_0
            try clear hfz75_1
            try clear hfz75_2
            try clear hfz78_0
            try clear hfz78_1
            try clear hfz78_2
            try clear hfz80_0
            try clear hfz80_1
            try clear hfz80_2
            try clear hfz81_0
            try clear hfz81_1
            try clear hfz81_2
            try clear hfz86_0
            try clear hfz86_1
            try clear hfz86_2
            try clear hfz89_0
            try clear hfz89_1
            try clear hfz89_2
            try clear p2
            obtain ⟨kq, HA, HJ36, HO_9, HO_11, BK251, BK252, HB⟩ := hcut
            cases kq with
            | zero => exact absurd HA.out (by simp [morainelaw4_RlpBack.j2])
            | succ kj36 =>
              have H := HA.out
              clear HA
              simp only [morainelaw4_RlpBack.j2] at H
              have HC113 := Aside0.mk H
              clear H
              go_upto_region 14 with (fail)
              repeat (go_quiet (fail); go_upto_region 14 with (fail))
              go_cut [123] (fun v123 wc => ∃ (kq : Nat) (x123_112 : Bool), v123 = .bool x123_112 ∧ Aside0 (morainelaw4_RlpBack.j3 kq l3 t256 t259 t260 t263 x123_112 a0_0 l0_1 l0_2 a1_0 l1_1 l1_2 = some r) ∧ Aside0 (kq ≤ kj36) ∧ Aside0 (Kd.R (Kd.int .u8) 5 wc w.heap.size (fun k_ => some k_ ≠ (v261 : Value).ownBlock) v257 t256) ∧ Aside0 (Kd.R (Kd.int .u8) 5 wc w.heap.size (fun k_ => some k_ ≠ (v257 : Value).ownBlock) v261 t260) ∧ Aside0 (wc.heap[gb251]? = some (.cells #[.bool a0_0, (.slice A0_1 l0_1.length c0_1), (.slice A0_2 l0_2.length c0_2)] 25 (0, 0))) ∧ Aside0 (wc.heap[gb252]? = some (.cells #[.bool a1_0, (.slice A1_1 l1_1.length c1_1), (.slice A1_2 l1_2.length c1_2)] 25 (0, 0))) ∧ Aside0 (Below w.heap.size w wc))
              case first =>
                have H := HC113.out
                clear HC113
                by_cases c114 : t259 = 0
                · rw [if_pos c114] at H
                  have c114b0 : (t259 == 0) = true := beq_iff_eq.mpr c114
                  have c114b1 : (t259 != 0) = false := bne_eq_false_iff_eq.mpr c114
                  clear c114
                  (first | rw [c114b0] | (simp only [i64_w, i32_w]; rw [c114b0]) | skip)
                  by_cases c115 : t263 = 0
                  · rw [if_pos c115] at H
                    have c115b0 : (t263 == 0) = true := beq_iff_eq.mpr c115
                    have c115b1 : (t263 != 0) = false := bne_eq_false_iff_eq.mpr c115
                    clear c115
                    by_cases c116 : (t256.length : Int) < (t260.length : Int)
                    · rw [if_pos c116] at H
                      have c116b0 : decide ((t256.length : Int) < (t260.length : Int)) = true := decide_eq_true c116
                      have c116b1 : decide (t256.length < t260.length) = true := decide_eq_true (Int.ofNat_lt.mp c116)
                      clear c116
                      by_cases c117 : 0 ≤ (t256.length : Int)
                      · rw [if_pos c117] at H
                        have c117b0 := eq_true c117
                        have c117b1 : decide (0 ≤ (t256.length : Int)) = true := decide_eq_true c117
                        clear c117
                        by_cases c118 : (t256.length : Int) ≤ (t260.length : Int)
                        · rw [if_pos c118] at H
                          have c118b0 := eq_true c118
                          have c118b1 : decide ((t256.length : Int) ≤ (t260.length : Int)) = true := decide_eq_true c118
                          clear c118
                          obtain ⟨y292, hy292⟩ : ∃ y_ : List Int, y_ = (t260.take ((t256.length : Int) : Int).toNat) := ⟨_, rfl⟩
                          replace H : (morainelaw4_RlpBack.j3 kj36 l3 t256 t259 t260 t263 ((strOfNums y292).toList == (strOfNums t256).toList) a0_0 l0_1 l0_2 a1_0 l1_1 l1_2) = some r := by first | (rw [hy292]; with_reducible exact H) | (have H2_ := (Option.bind_some _ _).symm.trans H; rw [hy292]; with_reducible exact H2_) | (have H2_ := (Option.bind_some _ _).symm.trans H; with_reducible exact H2_) | with_reducible exact H | (rw [hy292]; exact H) | exact H
                          have Ny292 := Aside0.mk hy292
                          clear hy292
                          have H' := Aside0.mk H
                          clear H
                          obtain ⟨Ao119, co119, eo119⟩ := Kd.R_slice HO_9.out
                          subst eo119
                          obtain ⟨Ao120, co120, eo120⟩ := Kd.R_slice HO_11.out
                          subst eo120
                          have q121 : ((t256.length : Int) : Int) ≤ ((t260.length : Int) : Int) := of_decide_eq_true (by first | (with_reducible assumption) | assumption)
                          obtain ⟨i0121, hi0121, _, hsz121, _⟩ := info_parts info5
                          have hroom121 : t260.length ≤ co120 := (Kd.R_reads' HO_11.out).2.1
                          have hC121 : Kd.C (Kd.int .u8) _ Ao120 t260.length t260 := (Kd.R_reads' HO_11.out).2.2
                          have hcut121 := cut_to (P := Try.prog) 22 5 .i64 Try.underlying22 hi0121 Ao120 t260.length co120 (t256.length : Int) (of_decide_eq_true (by first | (with_reducible assumption) | assumption)) q121 hroom121
                          have hr121 := Kd.C_take (m := ((t256.length : Int) : Int).toNat) hC121 (by omega)
                          have hy121 : y292.length = ((t256.length : Int) : Int).toNat := (by rw [Ny292.out, List.length_take]; omega)
                          rw [← Ny292.out] at hr121
                          rw [← hy121] at hcut121
                          have HR295 := Aside0.mk hr121
                          have HC295 := Aside0.mk (show y292.length ≤ co120 from by omega)
                          clear hr121 hC121 hroom121 hi0121 hsz121
                          have KY121 := Aside0.mk hy121
                          clear hy121
                          have KL121 := Aside0.mk (show ((t256.length : Int) : Int).toNat ≤ t260.length from by omega)
                          replace q121 := eq_true q121
                          have hcv122 := Kd.C_string (P := Try.prog) (A := Ao120) (c := co120) Try.underlying22 Try.underlying5 Try.underlying9 (by repeat (first | (with_reducible exact HR295.out) | (with_reducible refine Kd.C_alloc ?_ _) | (with_reducible refine Kd.C_drewN ?_ _) | (with_reducible refine Kd.C_drew ?_) | exact HR295.out))
                          have hcv123 := own_string (P := Try.prog) Try.underlying22 Try.underlying5 Try.underlying9 (Kd.own_of_R HO_9.out)
                          have hcv124 := fun (m : Nat) => Kd.C_string (P := Try.prog) (A := Ao120) (c := co120) Try.underlying22 Try.underlying5 Try.underlying9 (Kd.C_drewN HR295.out m)
                          have hcv125 := fun (m : Nat) => own_string (P := Try.prog) Try.underlying22 Try.underlying5 Try.underlying9 (pw_own_drewN (Kd.own_of_R HO_9.out) m)
                          go_wp2
                          repeat (go_quiet (fail); try go_wp2)
                          go_meet
                          case rel => exact ⟨_, (((strOfNums y292).toList == (strOfNums t256).toList)), zw11, H', ⟨by have := HJ6.out; have := HJ36.out; first | omega | exact Nat.le_refl _⟩, ⟨by (with_reducible repeat (first | apply Kd.R_alloc | apply Kd.R_drewN | apply Kd.R_drew)); exact HO_9.out⟩, ⟨by (with_reducible repeat (first | apply Kd.R_alloc | apply Kd.R_drewN | apply Kd.R_drew)); exact HO_11.out⟩, ⟨by (with_reducible repeat (first | refine blk_drewN ?_ _ | refine blk_drew ?_ | refine blk_alloc ?_ _)); exact BK251.out⟩, ⟨by (with_reducible repeat (first | refine blk_drewN ?_ _ | refine blk_drew ?_ | refine blk_alloc ?_ _)); exact BK252.out⟩, ⟨by repeat (first | (with_reducible first | exact HB.out | apply below_alloc | apply pw_below_drewN | apply below_drew1 | refine below_set ?_ GE251.out | refine below_set ?_ GE252.out) | exact HB.out)⟩⟩
                        · rw [if_neg c118] at H
                          exact absurd H (by simp)
                      · rw [if_neg c117] at H
                        exact absurd H (by simp)
                    · rw [if_neg c116] at H
                      have c116b0 : decide ((t256.length : Int) < (t260.length : Int)) = false := decide_eq_false c116
                      have c116b1 : decide (t256.length < t260.length) = false := decide_eq_false (fun h => c116 (Int.ofNat_lt.mpr h))
                      clear c116
                      have H' := Aside0.mk H
                      clear H
                      obtain ⟨Ao124, co124, eo124⟩ := Kd.R_slice HO_9.out
                      subst eo124
                      obtain ⟨Ao125, co125, eo125⟩ := Kd.R_slice HO_11.out
                      subst eo125
                      go_wp2
                      repeat (go_quiet (fail); try go_wp2)
                      go_meet
                      case rel => exact ⟨_, (false), zw11, H', ⟨by have := HJ6.out; have := HJ36.out; first | omega | exact Nat.le_refl _⟩, ⟨by (with_reducible repeat (first | apply Kd.R_alloc | apply Kd.R_drewN | apply Kd.R_drew)); exact HO_9.out⟩, ⟨by (with_reducible repeat (first | apply Kd.R_alloc | apply Kd.R_drewN | apply Kd.R_drew)); exact HO_11.out⟩, ⟨by (with_reducible repeat (first | refine blk_drewN ?_ _ | refine blk_drew ?_ | refine blk_alloc ?_ _)); exact BK251.out⟩, ⟨by (with_reducible repeat (first | refine blk_drewN ?_ _ | refine blk_drew ?_ | refine blk_alloc ?_ _)); exact BK252.out⟩, ⟨by repeat (first | (with_reducible first | exact HB.out | apply below_alloc | apply pw_below_drewN | apply below_drew1 | refine below_set ?_ GE251.out | refine below_set ?_ GE252.out) | exact HB.out)⟩⟩
                  · rw [if_neg c115] at H
                    have c115b0 : (t263 == 0) = false := beq_eq_false_iff_ne.mpr c115
                    have c115b1 : (t263 != 0) = true := bne_iff_ne.mpr c115
                    have H' := Aside0.mk H
                    clear H
                    go_wp2
                    repeat (go_quiet (fail); try go_wp2)
                    go_meet
                    case rel => exact ⟨_, (false), zw11, H', ⟨by have := HJ6.out; have := HJ36.out; first | omega | exact Nat.le_refl _⟩, ⟨by (with_reducible repeat (first | apply Kd.R_alloc | apply Kd.R_drewN | apply Kd.R_drew)); exact HO_9.out⟩, ⟨by (with_reducible repeat (first | apply Kd.R_alloc | apply Kd.R_drewN | apply Kd.R_drew)); exact HO_11.out⟩, ⟨by (with_reducible repeat (first | refine blk_drewN ?_ _ | refine blk_drew ?_ | refine blk_alloc ?_ _)); exact BK251.out⟩, ⟨by (with_reducible repeat (first | refine blk_drewN ?_ _ | refine blk_drew ?_ | refine blk_alloc ?_ _)); exact BK252.out⟩, ⟨by repeat (first | (with_reducible first | exact HB.out | apply below_alloc | apply pw_below_drewN | apply below_drew1 | refine below_set ?_ GE251.out | refine below_set ?_ GE252.out) | exact HB.out)⟩⟩
                · rw [if_neg c114] at H
                  have c114b0 : (t259 == 0) = false := beq_eq_false_iff_ne.mpr c114
                  have c114b1 : (t259 != 0) = true := bne_iff_ne.mpr c114
                  (first | rw [c114b0] | (simp only [i64_w, i32_w]; rw [c114b0]) | skip)
                  have H' := Aside0.mk H
                  clear H
                  go_wp2
                  repeat (go_quiet (fail); try go_wp2)
                  go_meet
                  case rel => exact ⟨_, (false), zw11, H', ⟨by have := HJ6.out; have := HJ36.out; first | omega | exact Nat.le_refl _⟩, ⟨by (with_reducible repeat (first | apply Kd.R_alloc | apply Kd.R_drewN | apply Kd.R_drew)); exact HO_9.out⟩, ⟨by (with_reducible repeat (first | apply Kd.R_alloc | apply Kd.R_drewN | apply Kd.R_drew)); exact HO_11.out⟩, ⟨by (with_reducible repeat (first | refine blk_drewN ?_ _ | refine blk_drew ?_ | refine blk_alloc ?_ _)); exact BK251.out⟩, ⟨by (with_reducible repeat (first | refine blk_drewN ?_ _ | refine blk_drew ?_ | refine blk_alloc ?_ _)); exact BK252.out⟩, ⟨by repeat (first | (with_reducible first | exact HB.out | apply below_alloc | apply pw_below_drewN | apply below_drew1 | refine below_set ?_ GE251.out | refine below_set ?_ GE252.out) | exact HB.out)⟩⟩
              case rest =>
                clear HC113
                try clear c1
                try clear q1
                try clear hcv1
                try clear c2
                try clear p2
                try clear c3
                try clear c4
                try clear c5
                try clear c6
                try clear p6
                try clear c7
                try clear c8
                try clear c9
                try clear c10
                try clear c11
                try clear c12
                try clear q12
                try clear hcv12
                try clear c14
                try clear c15
                try clear c15b0
                try clear c15b1
                try clear c16
                try clear c21
                try clear c26
                try clear c31
                try clear c34
                try clear c38
                try clear c43
                try clear c43b0
                try clear c43b1
                try clear c45
                try clear c46
                try clear c52
                try clear c53
                try clear c62
                try clear c63
                try clear c64
                try clear p64
                try clear c68
                try clear c68b0
                try clear c68b1
                try clear c70
                try clear c72
                try clear c73
                try clear c74
                try clear c76
                try clear c77
                try clear c83
                try clear c84
                try clear c85
                try clear c87
                try clear c88
                try clear c91
                try clear c92
                try clear c92b0
                try clear c93
                try clear c93b0
                try clear c93b1
                try clear c94
                try clear c94b0
                try clear c94b1
                try clear c96
                try clear c97
                try clear c98
                try clear c99
                try clear c101
                try clear c102
                try clear c105
                try clear c106
                try clear c107
                try clear c109
                try clear c110
                try clear c114
                try clear c114b0
                try clear c114b1
                try clear c115
                try clear c115b0
                try clear c115b1
                try clear c116
                try clear c116b0
                try clear c116b1
                try clear c117
                try clear c117b0
                try clear c117b1
                try clear c118
                try clear c118b0
                try clear c118b1
                try clear q121
                try clear hcv122
                try clear hcv123
                try clear hcz100_0
                try clear hcz100_1
                try clear hcz100_2
                try clear hcz103_0
                try clear hcz103_1
                try clear hcz103_2
                try clear hcz108_0
                try clear hcz108_1
                try clear hcz108_2
                try clear hcz111_0
                try clear hcz111_1
                try clear hcz111_2
                try clear hcz17_0
                try clear hcz17_1
                try clear hcz17_2
                try clear hcz19_0
                try clear hcz19_1
                try clear hcz19_2
                try clear hcz22_0
                try clear hcz22_1
                try clear hcz22_2
                try clear hcz24_0
                try clear hcz24_1
                try clear hcz24_2
                try clear hcz27_0
                try clear hcz27_1
                try clear hcz27_2
                try clear hcz29_0
                try clear hcz29_1
                try clear hcz29_2
                try clear hcz32_0
                try clear hcz32_1
                try clear hcz32_2
                try clear hcz39_0
                try clear hcz39_1
                try clear hcz39_2
                try clear hcz41_0
                try clear hcz41_1
                try clear hcz41_2
                try clear hcz54_0
                try clear hcz54_1
                try clear hcz54_2
                try clear hcz65_0
                try clear hcz65_1
                try clear hcz65_2
                try clear hcz75_0
                try clear hcz75_1
                try clear hcz75_2
                try clear hcz78_0
                try clear hcz78_1
                try clear hcz78_2
                try clear hcz80_0
                try clear hcz80_1
                try clear hcz80_2
                try clear hcz81_0
                try clear hcz81_1
                try clear hcz81_2
                try clear hcz86_0
                try clear hcz86_1
                try clear hcz86_2
                try clear hcz89_0
                try clear hcz89_1
                try clear hcz89_2
                try clear hfz100_0
                try clear hfz100_1
                try clear hfz100_2
                try clear hfz103_0
                try clear hfz103_1
                try clear hfz103_2
                try clear hfz108_0
                try clear hfz108_1
                try clear hfz108_2
                try clear hfz111_0
                try clear hfz111_1
                try clear hfz111_2
                try clear hfz17_0
                try clear hfz17_1
                try clear hfz17_2
                try clear hfz19_0
                try clear hfz19_1
                try clear hfz19_2
                try clear hfz22_0
                try clear hfz22_1
                try clear hfz22_2
                try clear hfz24_0
                try clear hfz24_1
                try clear hfz24_2
                try clear hfz27_0
                try clear hfz27_1
                try clear hfz27_2
                try clear hfz29_0
                try clear hfz29_1
                try clear hfz29_2
                try clear hfz32_0
                try clear hfz32_1
                try clear hfz32_2
                try clear hfz39_0
                try clear hfz39_1
                try clear hfz39_2
                try clear hfz41_0
                try clear hfz41_1
                try clear hfz41_2
                try clear hfz54_0
                try clear hfz54_1
                try clear hfz54_2
                try clear hfz65_0
                try clear hfz65_1
                try clear hfz65_2
                try clear hfz75_0
                try clear hfz75_1
                try clear hfz75_2
                try clear hfz78_0
                try clear hfz78_1
                try clear hfz78_2
                try clear hfz80_0
                try clear hfz80_1
                try clear hfz80_2
                try clear hfz81_0
                try clear hfz81_1
                try clear hfz81_2
                try clear hfz86_0
                try clear hfz86_1
                try clear hfz86_2
                try clear hfz89_0
                try clear hfz89_1
                try clear hfz89_2
                try clear p2
                try clear p6
                try clear p64
                try clear q121
                obtain ⟨kq, x123_112, rfl, HA, HJ112, HO_9, HO_11, BK251, BK252, HB⟩ := hcut
                cases kq with
                | zero => exact absurd HA.out (by simp [morainelaw4_RlpBack.j3])
                | succ kj112 =>
                  have H := HA.out
                  clear HA
                  simp only [morainelaw4_RlpBack.j3] at H
                  by_cases c126 : x123_112 = true
                  · subst c126
                    have H1 : (some false) = some r := by rw [if_pos rfl] at H; exact H
                    clear H
                    have H := H1
                    clear H1
                    obtain rfl := Option.some.inj H
                    go_wp2
                    repeat (go_quiet (fail); try go_wp2)
                    go_ret
                    exact ⟨by first | rfl | (simp [errW_none, errW_some] <;> rfl) | (simp [*, errW_none, errW_some] <;> rfl), by repeat (first | (with_reducible first | exact HB.out | apply below_alloc | apply pw_below_drewN | apply below_drew1 | refine below_set ?_ GE251.out | refine below_set ?_ GE252.out) | exact HB.out)⟩
                  · replace c126 := Bool.eq_false_iff.mpr c126
                    subst c126
                    have H1 : ((rlp_Equal.f kj112 a0_0 l0_1 l0_2 a1_0 l1_1 l1_2).bind fun t296 => (if t259 = 0 then (if t263 = 0 then (morainelaw4_RlpBack.j4 kj112 l3 (t296 != ((strOfNums t256).toList == (strOfNums t260).toList))) else (morainelaw4_RlpBack.j4 kj112 l3 (t296 != false))) else (morainelaw4_RlpBack.j4 kj112 l3 (t296 != false)))) = some r := by rw [if_neg (show ¬ (false = true) by decide)] at H; exact H
                    clear H
                    have H := H1
                    clear H1
                    have HC127 := Aside0.mk H
                    clear H
                    go_upto_region 16 with (fail)
                    repeat (go_quiet (fail); go_upto_region 16 with (fail))
                    go_cut [140] (fun v140 wc => ∃ (kq : Nat) (x140_126 : Bool), v140 = .bool x140_126 ∧ Aside0 (morainelaw4_RlpBack.j4 kq l3 x140_126 = some r) ∧ Aside0 (kq ≤ kj112) ∧ Aside0 (wc.heap[gb251]? = some (.cells #[.bool a0_0, (.slice A0_1 l0_1.length c0_1), (.slice A0_2 l0_2.length c0_2)] 25 (0, 0))) ∧ Aside0 (wc.heap[gb252]? = some (.cells #[.bool a1_0, (.slice A1_1 l1_1.length c1_1), (.slice A1_2 l1_2.length c1_2)] 25 (0, 0))) ∧ Aside0 (Below w.heap.size w wc))
                    case first =>
                      have H := HC127.out
                      clear HC127
                      replace H := Option.bind_eq_some_iff.mp H
                      obtain ⟨t296, A1280, H⟩ := H
                      replace H : (if t259 = 0 then (if t263 = 0 then (morainelaw4_RlpBack.j4 kj112 l3 (t296 != ((strOfNums t256).toList == (strOfNums t260).toList))) else (morainelaw4_RlpBack.j4 kj112 l3 (t296 != false))) else (morainelaw4_RlpBack.j4 kj112 l3 (t296 != false))) = some r := H
                      have A128 := Aside0.mk A1280
                      clear A1280
                      by_cases c129 : t259 = 0
                      · rw [if_pos c129] at H
                        have c129b0 : (t259 == 0) = true := beq_iff_eq.mpr c129
                        have c129b1 : (t259 != 0) = false := bne_eq_false_iff_eq.mpr c129
                        clear c129
                        (first | rw [c129b0] | (simp only [i64_w, i32_w]; rw [c129b0]) | skip)
                        by_cases c130 : t263 = 0
                        · rw [if_pos c130] at H
                          have c130b0 : (t263 == 0) = true := beq_iff_eq.mpr c130
                          have c130b1 : (t263 != 0) = false := bne_eq_false_iff_eq.mpr c130
                          clear c130
                          have H' := Aside0.mk H
                          clear H
                          have hnb131 := NB251_252.out
                          have hnc131 := NB252_251.out
                          have hcz132_0 : wc.cell? ⟨gb251, 0, none⟩ = some (.bool a0_0) := (blk_cell BK251.out 0).trans rfl
                          have hcz132_1 : wc.cell? ⟨gb251, 1, none⟩ = some (.slice A0_1 l0_1.length c0_1) := (blk_cell BK251.out 1).trans rfl
                          have hcz132_2 : wc.cell? ⟨gb251, 2, none⟩ = some (.slice A0_2 l0_2.length c0_2) := (blk_cell BK251.out 2).trans rfl
                          have hfz132_0 := blk_frozen BK251.out 0
                          have hfz132_1 := blk_frozen BK251.out 1
                          have hfz132_2 := blk_frozen BK251.out 2
                          have hcz133_0 : wc.cell? ⟨gb252, 0, none⟩ = some (.bool a1_0) := (blk_cell BK252.out 0).trans rfl
                          have hcz133_1 : wc.cell? ⟨gb252, 1, none⟩ = some (.slice A1_1 l1_1.length c1_1) := (blk_cell BK252.out 1).trans rfl
                          have hcz133_2 : wc.cell? ⟨gb252, 2, none⟩ = some (.slice A1_2 l1_2.length c1_2) := (blk_cell BK252.out 2).trans rfl
                          have hfz133_0 := blk_frozen BK252.out 0
                          have hfz133_1 := blk_frozen BK252.out 1
                          have hfz133_2 := blk_frozen BK252.out 2
                          go_wp2_with (first | (go_at_call 22; (with_reducible refine (rlp_Equal.calls kj112 a0_0 _ _ l0_1 _ _ l0_2 a1_0 _ _ l1_1 _ _ l1_2 t296 _ ?side1 ?side2 ?side3 ?side4 ?side5 ?side6 ?side7 ?side8 A128.out).mono ?_); (case side1 => exact zw2 HR0_1.out HB.out); (case side2 => exact HC0_1.out); (case side3 => exact zw2 HR0_2.out HB.out); (case side4 => exact HC0_2.out); (case side5 => exact zw2 HR1_1.out HB.out); (case side6 => exact HC1_1.out); (case side7 => exact zw2 HR1_2.out HB.out); (case side8 => exact HC1_2.out); rintro e w134 ⟨rfl, hb⟩; have n0_ := Aside0.mk (Kd.R_below (zw1 HO_9.out) hb); have n1_ := Aside0.mk (Kd.R_below (zw1 HO_11.out) hb); have n2_ := Aside0.mk (blk_below (g := gb251) (o := .cells #[.bool a0_0, .slice A0_1 l0_1.length c0_1, .slice A0_2 l0_2.length c0_2] 25 (0, 0)) (zw0 BK251.out) hb); have n3_ := Aside0.mk (blk_below (g := gb252) (o := .cells #[.bool a1_0, .slice A1_1 l1_1.length c1_1, .slice A1_2 l1_2.length c1_2] 25 (0, 0)) (zw0 BK252.out) hb); have n4_ := Aside0.mk (below_step (zw3 HB.out GE251.out GE252.out) hb); clear HO_9; clear HO_11; clear BK251; clear BK252; clear HB; have HO_9 := n0_; have HO_11 := n1_; have BK251 := n2_; have BK252 := n3_; have HB := n4_; clear n0_ n1_ n2_ n3_ n4_; (try clear hb); (try clear hb2); (try clear hk); (try clear hi); have hcv135 := own_string (P := Try.prog) Try.underlying22 Try.underlying5 Try.underlying9 (Kd.own_of_R HO_9.out); have hcv136 := own_string (P := Try.prog) Try.underlying22 Try.underlying5 Try.underlying9 (Kd.own_of_R HO_11.out)))
                          repeat (go_quiet (first | (go_at_call 22; (with_reducible refine (rlp_Equal.calls kj112 a0_0 _ _ l0_1 _ _ l0_2 a1_0 _ _ l1_1 _ _ l1_2 t296 _ ?side1 ?side2 ?side3 ?side4 ?side5 ?side6 ?side7 ?side8 A128.out).mono ?_); (case side1 => exact zw2 HR0_1.out HB.out); (case side2 => exact HC0_1.out); (case side3 => exact zw2 HR0_2.out HB.out); (case side4 => exact HC0_2.out); (case side5 => exact zw2 HR1_1.out HB.out); (case side6 => exact HC1_1.out); (case side7 => exact zw2 HR1_2.out HB.out); (case side8 => exact HC1_2.out); rintro e w134 ⟨rfl, hb⟩; have n0_ := Aside0.mk (Kd.R_below (zw1 HO_9.out) hb); have n1_ := Aside0.mk (Kd.R_below (zw1 HO_11.out) hb); have n2_ := Aside0.mk (blk_below (g := gb251) (o := .cells #[.bool a0_0, .slice A0_1 l0_1.length c0_1, .slice A0_2 l0_2.length c0_2] 25 (0, 0)) (zw0 BK251.out) hb); have n3_ := Aside0.mk (blk_below (g := gb252) (o := .cells #[.bool a1_0, .slice A1_1 l1_1.length c1_1, .slice A1_2 l1_2.length c1_2] 25 (0, 0)) (zw0 BK252.out) hb); have n4_ := Aside0.mk (below_step (zw3 HB.out GE251.out GE252.out) hb); clear HO_9; clear HO_11; clear BK251; clear BK252; clear HB; have HO_9 := n0_; have HO_11 := n1_; have BK251 := n2_; have BK252 := n3_; have HB := n4_; clear n0_ n1_ n2_ n3_ n4_; (try clear hb); (try clear hb2); (try clear hk); (try clear hi); have hcv135 := own_string (P := Try.prog) Try.underlying22 Try.underlying5 Try.underlying9 (Kd.own_of_R HO_9.out); have hcv136 := own_string (P := Try.prog) Try.underlying22 Try.underlying5 Try.underlying9 (Kd.own_of_R HO_11.out))); try go_wp2_with (first | (go_at_call 22; (with_reducible refine (rlp_Equal.calls kj112 a0_0 _ _ l0_1 _ _ l0_2 a1_0 _ _ l1_1 _ _ l1_2 t296 _ ?side1 ?side2 ?side3 ?side4 ?side5 ?side6 ?side7 ?side8 A128.out).mono ?_); (case side1 => exact zw2 HR0_1.out HB.out); (case side2 => exact HC0_1.out); (case side3 => exact zw2 HR0_2.out HB.out); (case side4 => exact HC0_2.out); (case side5 => exact zw2 HR1_1.out HB.out); (case side6 => exact HC1_1.out); (case side7 => exact zw2 HR1_2.out HB.out); (case side8 => exact HC1_2.out); rintro e w134 ⟨rfl, hb⟩; have n0_ := Aside0.mk (Kd.R_below (zw1 HO_9.out) hb); have n1_ := Aside0.mk (Kd.R_below (zw1 HO_11.out) hb); have n2_ := Aside0.mk (blk_below (g := gb251) (o := .cells #[.bool a0_0, .slice A0_1 l0_1.length c0_1, .slice A0_2 l0_2.length c0_2] 25 (0, 0)) (zw0 BK251.out) hb); have n3_ := Aside0.mk (blk_below (g := gb252) (o := .cells #[.bool a1_0, .slice A1_1 l1_1.length c1_1, .slice A1_2 l1_2.length c1_2] 25 (0, 0)) (zw0 BK252.out) hb); have n4_ := Aside0.mk (below_step (zw3 HB.out GE251.out GE252.out) hb); clear HO_9; clear HO_11; clear BK251; clear BK252; clear HB; have HO_9 := n0_; have HO_11 := n1_; have BK251 := n2_; have BK252 := n3_; have HB := n4_; clear n0_ n1_ n2_ n3_ n4_; (try clear hb); (try clear hb2); (try clear hk); (try clear hi); have hcv135 := own_string (P := Try.prog) Try.underlying22 Try.underlying5 Try.underlying9 (Kd.own_of_R HO_9.out); have hcv136 := own_string (P := Try.prog) Try.underlying22 Try.underlying5 Try.underlying9 (Kd.own_of_R HO_11.out))))
                          go_meet
                          case rel => exact ⟨_, ((t296 != ((strOfNums t256).toList == (strOfNums t260).toList))), zw11, H', ⟨by have := HJ6.out; have := HJ36.out; have := HJ112.out; first | omega | exact Nat.le_refl _⟩, ⟨by (with_reducible repeat (first | refine blk_drewN ?_ _ | refine blk_drew ?_ | refine blk_alloc ?_ _)); exact BK251.out⟩, ⟨by (with_reducible repeat (first | refine blk_drewN ?_ _ | refine blk_drew ?_ | refine blk_alloc ?_ _)); exact BK252.out⟩, ⟨by repeat (first | (with_reducible first | exact HB.out | apply below_alloc | apply pw_below_drewN | apply below_drew1 | refine below_set ?_ GE251.out | refine below_set ?_ GE252.out) | exact HB.out)⟩⟩
                        · rw [if_neg c130] at H
                          have c130b0 : (t263 == 0) = false := beq_eq_false_iff_ne.mpr c130
                          have c130b1 : (t263 != 0) = true := bne_iff_ne.mpr c130
                          have H' := Aside0.mk H
                          clear H
                          have hnb137 := NB251_252.out
                          have hnc137 := NB252_251.out
                          have hcz138_0 : wc.cell? ⟨gb251, 0, none⟩ = some (.bool a0_0) := (blk_cell BK251.out 0).trans rfl
                          have hcz138_1 : wc.cell? ⟨gb251, 1, none⟩ = some (.slice A0_1 l0_1.length c0_1) := (blk_cell BK251.out 1).trans rfl
                          have hcz138_2 : wc.cell? ⟨gb251, 2, none⟩ = some (.slice A0_2 l0_2.length c0_2) := (blk_cell BK251.out 2).trans rfl
                          have hfz138_0 := blk_frozen BK251.out 0
                          have hfz138_1 := blk_frozen BK251.out 1
                          have hfz138_2 := blk_frozen BK251.out 2
                          have hcz139_0 : wc.cell? ⟨gb252, 0, none⟩ = some (.bool a1_0) := (blk_cell BK252.out 0).trans rfl
                          have hcz139_1 : wc.cell? ⟨gb252, 1, none⟩ = some (.slice A1_1 l1_1.length c1_1) := (blk_cell BK252.out 1).trans rfl
                          have hcz139_2 : wc.cell? ⟨gb252, 2, none⟩ = some (.slice A1_2 l1_2.length c1_2) := (blk_cell BK252.out 2).trans rfl
                          have hfz139_0 := blk_frozen BK252.out 0
                          have hfz139_1 := blk_frozen BK252.out 1
                          have hfz139_2 := blk_frozen BK252.out 2
                          go_wp2_with (first | (go_at_call 22; (with_reducible refine (rlp_Equal.calls kj112 a0_0 _ _ l0_1 _ _ l0_2 a1_0 _ _ l1_1 _ _ l1_2 t296 _ ?side1 ?side2 ?side3 ?side4 ?side5 ?side6 ?side7 ?side8 A128.out).mono ?_); (case side1 => exact zw2 HR0_1.out HB.out); (case side2 => exact HC0_1.out); (case side3 => exact zw2 HR0_2.out HB.out); (case side4 => exact HC0_2.out); (case side5 => exact zw2 HR1_1.out HB.out); (case side6 => exact HC1_1.out); (case side7 => exact zw2 HR1_2.out HB.out); (case side8 => exact HC1_2.out); rintro e w140 ⟨rfl, hb⟩; have n0_ := Aside0.mk (Kd.R_below (zw1 HO_9.out) hb); have n1_ := Aside0.mk (Kd.R_below (zw1 HO_11.out) hb); have n2_ := Aside0.mk (blk_below (g := gb251) (o := .cells #[.bool a0_0, .slice A0_1 l0_1.length c0_1, .slice A0_2 l0_2.length c0_2] 25 (0, 0)) (zw0 BK251.out) hb); have n3_ := Aside0.mk (blk_below (g := gb252) (o := .cells #[.bool a1_0, .slice A1_1 l1_1.length c1_1, .slice A1_2 l1_2.length c1_2] 25 (0, 0)) (zw0 BK252.out) hb); have n4_ := Aside0.mk (below_step (zw3 HB.out GE251.out GE252.out) hb); clear HO_9; clear HO_11; clear BK251; clear BK252; clear HB; have HO_9 := n0_; have HO_11 := n1_; have BK251 := n2_; have BK252 := n3_; have HB := n4_; clear n0_ n1_ n2_ n3_ n4_; (try clear hb); (try clear hb2); (try clear hk); (try clear hi)))
                          repeat (go_quiet (first | (go_at_call 22; (with_reducible refine (rlp_Equal.calls kj112 a0_0 _ _ l0_1 _ _ l0_2 a1_0 _ _ l1_1 _ _ l1_2 t296 _ ?side1 ?side2 ?side3 ?side4 ?side5 ?side6 ?side7 ?side8 A128.out).mono ?_); (case side1 => exact zw2 HR0_1.out HB.out); (case side2 => exact HC0_1.out); (case side3 => exact zw2 HR0_2.out HB.out); (case side4 => exact HC0_2.out); (case side5 => exact zw2 HR1_1.out HB.out); (case side6 => exact HC1_1.out); (case side7 => exact zw2 HR1_2.out HB.out); (case side8 => exact HC1_2.out); rintro e w140 ⟨rfl, hb⟩; have n0_ := Aside0.mk (Kd.R_below (zw1 HO_9.out) hb); have n1_ := Aside0.mk (Kd.R_below (zw1 HO_11.out) hb); have n2_ := Aside0.mk (blk_below (g := gb251) (o := .cells #[.bool a0_0, .slice A0_1 l0_1.length c0_1, .slice A0_2 l0_2.length c0_2] 25 (0, 0)) (zw0 BK251.out) hb); have n3_ := Aside0.mk (blk_below (g := gb252) (o := .cells #[.bool a1_0, .slice A1_1 l1_1.length c1_1, .slice A1_2 l1_2.length c1_2] 25 (0, 0)) (zw0 BK252.out) hb); have n4_ := Aside0.mk (below_step (zw3 HB.out GE251.out GE252.out) hb); clear HO_9; clear HO_11; clear BK251; clear BK252; clear HB; have HO_9 := n0_; have HO_11 := n1_; have BK251 := n2_; have BK252 := n3_; have HB := n4_; clear n0_ n1_ n2_ n3_ n4_; (try clear hb); (try clear hb2); (try clear hk); (try clear hi))); try go_wp2_with (first | (go_at_call 22; (with_reducible refine (rlp_Equal.calls kj112 a0_0 _ _ l0_1 _ _ l0_2 a1_0 _ _ l1_1 _ _ l1_2 t296 _ ?side1 ?side2 ?side3 ?side4 ?side5 ?side6 ?side7 ?side8 A128.out).mono ?_); (case side1 => exact zw2 HR0_1.out HB.out); (case side2 => exact HC0_1.out); (case side3 => exact zw2 HR0_2.out HB.out); (case side4 => exact HC0_2.out); (case side5 => exact zw2 HR1_1.out HB.out); (case side6 => exact HC1_1.out); (case side7 => exact zw2 HR1_2.out HB.out); (case side8 => exact HC1_2.out); rintro e w140 ⟨rfl, hb⟩; have n0_ := Aside0.mk (Kd.R_below (zw1 HO_9.out) hb); have n1_ := Aside0.mk (Kd.R_below (zw1 HO_11.out) hb); have n2_ := Aside0.mk (blk_below (g := gb251) (o := .cells #[.bool a0_0, .slice A0_1 l0_1.length c0_1, .slice A0_2 l0_2.length c0_2] 25 (0, 0)) (zw0 BK251.out) hb); have n3_ := Aside0.mk (blk_below (g := gb252) (o := .cells #[.bool a1_0, .slice A1_1 l1_1.length c1_1, .slice A1_2 l1_2.length c1_2] 25 (0, 0)) (zw0 BK252.out) hb); have n4_ := Aside0.mk (below_step (zw3 HB.out GE251.out GE252.out) hb); clear HO_9; clear HO_11; clear BK251; clear BK252; clear HB; have HO_9 := n0_; have HO_11 := n1_; have BK251 := n2_; have BK252 := n3_; have HB := n4_; clear n0_ n1_ n2_ n3_ n4_; (try clear hb); (try clear hb2); (try clear hk); (try clear hi))))
                          go_meet
                          case rel => exact ⟨_, ((t296 != false)), zw11, H', ⟨by have := HJ6.out; have := HJ36.out; have := HJ112.out; first | omega | exact Nat.le_refl _⟩, ⟨by (with_reducible repeat (first | refine blk_drewN ?_ _ | refine blk_drew ?_ | refine blk_alloc ?_ _)); exact BK251.out⟩, ⟨by (with_reducible repeat (first | refine blk_drewN ?_ _ | refine blk_drew ?_ | refine blk_alloc ?_ _)); exact BK252.out⟩, ⟨by repeat (first | (with_reducible first | exact HB.out | apply below_alloc | apply pw_below_drewN | apply below_drew1 | refine below_set ?_ GE251.out | refine below_set ?_ GE252.out) | exact HB.out)⟩⟩
                      · rw [if_neg c129] at H
                        have c129b0 : (t259 == 0) = false := beq_eq_false_iff_ne.mpr c129
                        have c129b1 : (t259 != 0) = true := bne_iff_ne.mpr c129
                        (first | rw [c129b0] | (simp only [i64_w, i32_w]; rw [c129b0]) | skip)
                        have H' := Aside0.mk H
                        clear H
                        have hnb141 := NB251_252.out
                        have hnc141 := NB252_251.out
                        have hcz142_0 : wc.cell? ⟨gb251, 0, none⟩ = some (.bool a0_0) := (blk_cell BK251.out 0).trans rfl
                        have hcz142_1 : wc.cell? ⟨gb251, 1, none⟩ = some (.slice A0_1 l0_1.length c0_1) := (blk_cell BK251.out 1).trans rfl
                        have hcz142_2 : wc.cell? ⟨gb251, 2, none⟩ = some (.slice A0_2 l0_2.length c0_2) := (blk_cell BK251.out 2).trans rfl
                        have hfz142_0 := blk_frozen BK251.out 0
                        have hfz142_1 := blk_frozen BK251.out 1
                        have hfz142_2 := blk_frozen BK251.out 2
                        have hcz143_0 : wc.cell? ⟨gb252, 0, none⟩ = some (.bool a1_0) := (blk_cell BK252.out 0).trans rfl
                        have hcz143_1 : wc.cell? ⟨gb252, 1, none⟩ = some (.slice A1_1 l1_1.length c1_1) := (blk_cell BK252.out 1).trans rfl
                        have hcz143_2 : wc.cell? ⟨gb252, 2, none⟩ = some (.slice A1_2 l1_2.length c1_2) := (blk_cell BK252.out 2).trans rfl
                        have hfz143_0 := blk_frozen BK252.out 0
                        have hfz143_1 := blk_frozen BK252.out 1
                        have hfz143_2 := blk_frozen BK252.out 2
                        go_wp2_with (first | (go_at_call 22; (with_reducible refine (rlp_Equal.calls kj112 a0_0 _ _ l0_1 _ _ l0_2 a1_0 _ _ l1_1 _ _ l1_2 t296 _ ?side1 ?side2 ?side3 ?side4 ?side5 ?side6 ?side7 ?side8 A128.out).mono ?_); (case side1 => exact zw2 HR0_1.out HB.out); (case side2 => exact HC0_1.out); (case side3 => exact zw2 HR0_2.out HB.out); (case side4 => exact HC0_2.out); (case side5 => exact zw2 HR1_1.out HB.out); (case side6 => exact HC1_1.out); (case side7 => exact zw2 HR1_2.out HB.out); (case side8 => exact HC1_2.out); rintro e w144 ⟨rfl, hb⟩; have n0_ := Aside0.mk (Kd.R_below (zw1 HO_9.out) hb); have n1_ := Aside0.mk (Kd.R_below (zw1 HO_11.out) hb); have n2_ := Aside0.mk (blk_below (g := gb251) (o := .cells #[.bool a0_0, .slice A0_1 l0_1.length c0_1, .slice A0_2 l0_2.length c0_2] 25 (0, 0)) (zw0 BK251.out) hb); have n3_ := Aside0.mk (blk_below (g := gb252) (o := .cells #[.bool a1_0, .slice A1_1 l1_1.length c1_1, .slice A1_2 l1_2.length c1_2] 25 (0, 0)) (zw0 BK252.out) hb); have n4_ := Aside0.mk (below_step (zw3 HB.out GE251.out GE252.out) hb); clear HO_9; clear HO_11; clear BK251; clear BK252; clear HB; have HO_9 := n0_; have HO_11 := n1_; have BK251 := n2_; have BK252 := n3_; have HB := n4_; clear n0_ n1_ n2_ n3_ n4_; (try clear hb); (try clear hb2); (try clear hk); (try clear hi)))
                        repeat (go_quiet (first | (go_at_call 22; (with_reducible refine (rlp_Equal.calls kj112 a0_0 _ _ l0_1 _ _ l0_2 a1_0 _ _ l1_1 _ _ l1_2 t296 _ ?side1 ?side2 ?side3 ?side4 ?side5 ?side6 ?side7 ?side8 A128.out).mono ?_); (case side1 => exact zw2 HR0_1.out HB.out); (case side2 => exact HC0_1.out); (case side3 => exact zw2 HR0_2.out HB.out); (case side4 => exact HC0_2.out); (case side5 => exact zw2 HR1_1.out HB.out); (case side6 => exact HC1_1.out); (case side7 => exact zw2 HR1_2.out HB.out); (case side8 => exact HC1_2.out); rintro e w144 ⟨rfl, hb⟩; have n0_ := Aside0.mk (Kd.R_below (zw1 HO_9.out) hb); have n1_ := Aside0.mk (Kd.R_below (zw1 HO_11.out) hb); have n2_ := Aside0.mk (blk_below (g := gb251) (o := .cells #[.bool a0_0, .slice A0_1 l0_1.length c0_1, .slice A0_2 l0_2.length c0_2] 25 (0, 0)) (zw0 BK251.out) hb); have n3_ := Aside0.mk (blk_below (g := gb252) (o := .cells #[.bool a1_0, .slice A1_1 l1_1.length c1_1, .slice A1_2 l1_2.length c1_2] 25 (0, 0)) (zw0 BK252.out) hb); have n4_ := Aside0.mk (below_step (zw3 HB.out GE251.out GE252.out) hb); clear HO_9; clear HO_11; clear BK251; clear BK252; clear HB; have HO_9 := n0_; have HO_11 := n1_; have BK251 := n2_; have BK252 := n3_; have HB := n4_; clear n0_ n1_ n2_ n3_ n4_; (try clear hb); (try clear hb2); (try clear hk); (try clear hi))); try go_wp2_with (first | (go_at_call 22; (with_reducible refine (rlp_Equal.calls kj112 a0_0 _ _ l0_1 _ _ l0_2 a1_0 _ _ l1_1 _ _ l1_2 t296 _ ?side1 ?side2 ?side3 ?side4 ?side5 ?side6 ?side7 ?side8 A128.out).mono ?_); (case side1 => exact zw2 HR0_1.out HB.out); (case side2 => exact HC0_1.out); (case side3 => exact zw2 HR0_2.out HB.out); (case side4 => exact HC0_2.out); (case side5 => exact zw2 HR1_1.out HB.out); (case side6 => exact HC1_1.out); (case side7 => exact zw2 HR1_2.out HB.out); (case side8 => exact HC1_2.out); rintro e w144 ⟨rfl, hb⟩; have n0_ := Aside0.mk (Kd.R_below (zw1 HO_9.out) hb); have n1_ := Aside0.mk (Kd.R_below (zw1 HO_11.out) hb); have n2_ := Aside0.mk (blk_below (g := gb251) (o := .cells #[.bool a0_0, .slice A0_1 l0_1.length c0_1, .slice A0_2 l0_2.length c0_2] 25 (0, 0)) (zw0 BK251.out) hb); have n3_ := Aside0.mk (blk_below (g := gb252) (o := .cells #[.bool a1_0, .slice A1_1 l1_1.length c1_1, .slice A1_2 l1_2.length c1_2] 25 (0, 0)) (zw0 BK252.out) hb); have n4_ := Aside0.mk (below_step (zw3 HB.out GE251.out GE252.out) hb); clear HO_9; clear HO_11; clear BK251; clear BK252; clear HB; have HO_9 := n0_; have HO_11 := n1_; have BK251 := n2_; have BK252 := n3_; have HB := n4_; clear n0_ n1_ n2_ n3_ n4_; (try clear hb); (try clear hb2); (try clear hk); (try clear hi))))
                        go_meet
                        case rel => exact ⟨_, ((t296 != false)), zw11, H', ⟨by have := HJ6.out; have := HJ36.out; have := HJ112.out; first | omega | exact Nat.le_refl _⟩, ⟨by (with_reducible repeat (first | refine blk_drewN ?_ _ | refine blk_drew ?_ | refine blk_alloc ?_ _)); exact BK251.out⟩, ⟨by (with_reducible repeat (first | refine blk_drewN ?_ _ | refine blk_drew ?_ | refine blk_alloc ?_ _)); exact BK252.out⟩, ⟨by repeat (first | (with_reducible first | exact HB.out | apply below_alloc | apply pw_below_drewN | apply below_drew1 | refine below_set ?_ GE251.out | refine below_set ?_ GE252.out) | exact HB.out)⟩⟩
                    case rest =>
                      clear HC127
                      try clear c1
                      try clear q1
                      try clear hcv1
                      try clear c2
                      try clear p2
                      try clear c3
                      try clear c4
                      try clear c5
                      try clear c6
                      try clear p6
                      try clear c7
                      try clear c8
                      try clear c9
                      try clear c10
                      try clear c11
                      try clear c12
                      try clear q12
                      try clear hcv12
                      try clear c13
                      try clear hcv13
                      try clear c14
                      try clear c15
                      try clear c15b0
                      try clear c15b1
                      try clear c16
                      try clear c21
                      try clear c26
                      try clear c31
                      try clear c34
                      try clear c38
                      try clear c43
                      try clear c43b0
                      try clear c43b1
                      try clear c45
                      try clear c46
                      try clear c52
                      try clear c53
                      try clear c62
                      try clear c63
                      try clear c64
                      try clear p64
                      try clear c68
                      try clear c68b0
                      try clear c68b1
                      try clear c70
                      try clear c72
                      try clear c73
                      try clear c74
                      try clear c76
                      try clear c77
                      try clear c83
                      try clear c84
                      try clear c85
                      try clear c87
                      try clear c88
                      try clear c91
                      try clear c92
                      try clear c92b0
                      try clear c93
                      try clear c93b0
                      try clear c93b1
                      try clear c94
                      try clear c94b0
                      try clear c94b1
                      try clear c96
                      try clear c97
                      try clear c98
                      try clear c99
                      try clear c101
                      try clear c102
                      try clear c105
                      try clear c106
                      try clear c107
                      try clear c109
                      try clear c110
                      try clear c114
                      try clear c114b0
                      try clear c114b1
                      try clear c115
                      try clear c115b0
                      try clear c115b1
                      try clear c116
                      try clear c116b0
                      try clear c116b1
                      try clear c117
                      try clear c117b0
                      try clear c117b1
                      try clear c118
                      try clear c118b0
                      try clear c118b1
                      try clear q121
                      try clear hcv122
                      try clear hcv123
                      try clear c126
                      try clear c129
                      try clear c129b0
                      try clear c129b1
                      try clear c130
                      try clear c130b0
                      try clear c130b1
                      try clear c131
                      try clear hcv135
                      try clear hcv136
                      try clear c137
                      try clear c141
                      try clear hcz100_0
                      try clear hcz100_1
                      try clear hcz100_2
                      try clear hcz103_0
                      try clear hcz103_1
                      try clear hcz103_2
                      try clear hcz108_0
                      try clear hcz108_1
                      try clear hcz108_2
                      try clear hcz111_0
                      try clear hcz111_1
                      try clear hcz111_2
                      try clear hcz132_0
                      try clear hcz132_1
                      try clear hcz132_2
                      try clear hcz133_0
                      try clear hcz133_1
                      try clear hcz133_2
                      try clear hcz138_0
                      try clear hcz138_1
                      try clear hcz138_2
                      try clear hcz139_0
                      try clear hcz139_1
                      try clear hcz139_2
                      try clear hcz142_0
                      try clear hcz142_1
                      try clear hcz142_2
                      try clear hcz143_0
                      try clear hcz143_1
                      try clear hcz143_2
                      try clear hcz17_0
                      try clear hcz17_1
                      try clear hcz17_2
                      try clear hcz19_0
                      try clear hcz19_1
                      try clear hcz19_2
                      try clear hcz22_0
                      try clear hcz22_1
                      try clear hcz22_2
                      try clear hcz24_0
                      try clear hcz24_1
                      try clear hcz24_2
                      try clear hcz27_0
                      try clear hcz27_1
                      try clear hcz27_2
                      try clear hcz29_0
                      try clear hcz29_1
                      try clear hcz29_2
                      try clear hcz32_0
                      try clear hcz32_1
                      try clear hcz32_2
                      try clear hcz39_0
                      try clear hcz39_1
                      try clear hcz39_2
                      try clear hcz41_0
                      try clear hcz41_1
                      try clear hcz41_2
                      try clear hcz54_0
                      try clear hcz54_1
                      try clear hcz54_2
                      try clear hcz65_0
                      try clear hcz65_1
                      try clear hcz65_2
                      try clear hcz75_0
                      try clear hcz75_1
                      try clear hcz75_2
                      try clear hcz78_0
                      try clear hcz78_1
                      try clear hcz78_2
                      try clear hcz80_0
                      try clear hcz80_1
                      try clear hcz80_2
                      try clear hcz81_0
                      try clear hcz81_1
                      try clear hcz81_2
                      try clear hcz86_0
                      try clear hcz86_1
                      try clear hcz86_2
                      try clear hcz89_0
                      try clear hcz89_1
                      try clear hcz89_2
                      try clear hfz100_0
                      try clear hfz100_1
                      try clear hfz100_2
                      try clear hfz103_0
                      try clear hfz103_1
                      try clear hfz103_2
                      try clear hfz108_0
                      try clear hfz108_1
                      try clear hfz108_2
                      try clear hfz111_0
                      try clear hfz111_1
                      try clear hfz111_2
                      try clear hfz132_0
                      try clear hfz132_1
                      try clear hfz132_2
                      try clear hfz133_0
                      try clear hfz133_1
                      try clear hfz133_2
                      try clear hfz138_0
                      try clear hfz138_1
                      try clear hfz138_2
                      try clear hfz139_0
                      try clear hfz139_1
                      try clear hfz139_2
                      try clear hfz142_0
                      try clear hfz142_1
                      try clear hfz142_2
                      try clear hfz143_0
                      try clear hfz143_1
                      try clear hfz143_2
                      try clear hfz17_0
                      try clear hfz17_1
                      try clear hfz17_2
                      try clear hfz19_0
                      try clear hfz19_1
                      try clear hfz19_2
                      try clear hfz22_0
                      try clear hfz22_1
                      try clear hfz22_2
                      try clear hfz24_0
                      try clear hfz24_1
                      try clear hfz24_2
                      try clear hfz27_0
                      try clear hfz27_1
                      try clear hfz27_2
                      try clear hfz29_0
                      try clear hfz29_1
                      try clear hfz29_2
                      try clear hfz32_0
                      try clear hfz32_1
                      try clear hfz32_2
                      try clear hfz39_0
                      try clear hfz39_1
                      try clear hfz39_2
                      try clear hfz41_0
                      try clear hfz41_1
                      try clear hfz41_2
                      try clear hfz54_0
                      try clear hfz54_1
                      try clear hfz54_2
                      try clear hfz65_0
                      try clear hfz65_1
                      try clear hfz65_2
                      try clear hfz75_0
                      try clear hfz75_1
                      try clear hfz75_2
                      try clear hfz78_0
                      try clear hfz78_1
                      try clear hfz78_2
                      try clear hfz80_0
                      try clear hfz80_1
                      try clear hfz80_2
                      try clear hfz81_0
                      try clear hfz81_1
                      try clear hfz81_2
                      try clear hfz86_0
                      try clear hfz86_1
                      try clear hfz86_2
                      try clear hfz89_0
                      try clear hfz89_1
                      try clear hfz89_2
                      try clear p2
                      try clear p6
                      try clear p64
                      try clear q1
                      try clear q12
                      try clear q121
                      obtain ⟨kq, x140_126, rfl, HA, HJ126, BK251, BK252, HB⟩ := hcut
                      cases kq with
                      | zero => exact absurd HA.out (by simp [morainelaw4_RlpBack.j4])
                      | succ kj126 =>
                        have H := HA.out
                        clear HA
                        simp only [morainelaw4_RlpBack.j4] at H
                        by_cases c145 : x140_126 = true
                        · subst c145
                          have H1 : (some false) = some r := by rw [if_pos rfl] at H; exact H
                          clear H
                          have H := H1
                          clear H1
                          obtain rfl := Option.some.inj H
                          go_wp2
                          repeat (go_quiet (fail); try go_wp2)
                          go_ret
                          exact ⟨by first | rfl | (simp [errW_none, errW_some] <;> rfl) | (simp [*, errW_none, errW_some] <;> rfl), by repeat (first | (with_reducible first | exact HB.out | apply below_alloc | apply pw_below_drewN | apply below_drew1 | refine below_set ?_ GE251.out | refine below_set ?_ GE252.out) | exact HB.out)⟩
                        · replace c145 := Bool.eq_false_iff.mpr c145
                          subst c145
                          have H1 : ((rlp_Decode.f kj126 l3).bind fun bt297 => (if bt297.2.2.2 = 0 then ((rlp_Encode.f kj126 bt297.1 bt297.2.1 bt297.2.2.1).bind fun bt306 => (if bt306.2 = 0 then ((morainehelp_Bytes.f bt306.1 l3).bind fun t310 => (some t310)) else (some false))) else (some true))) = some r := by rw [if_neg (show ¬ (false = true) by decide)] at H; exact H
                          clear H
                          have H := H1
                          clear H1
                          replace H := Option.bind_eq_some_iff.mp H
                          obtain ⟨⟨t297, t298, t301, t304⟩, A1460, H⟩ := H
                          replace H : (if t304 = 0 then ((rlp_Encode.f kj126 t297 t298 t301).bind fun bt306 => (if bt306.2 = 0 then ((morainehelp_Bytes.f bt306.1 l3).bind fun t310 => (some t310)) else (some false))) else (some true)) = some r := H
                          have A146 := Aside0.mk A1460
                          clear A1460
                          by_cases c147 : t304 = 0
                          · rw [if_pos c147] at H
                            have c147b0 : (t304 == 0) = true := beq_iff_eq.mpr c147
                            have c147b1 : (t304 != 0) = false := bne_eq_false_iff_eq.mpr c147
                            clear c147
                            replace H := Option.bind_eq_some_iff.mp H
                            obtain ⟨⟨t306, t309⟩, A1480, H⟩ := H
                            replace H : (if t309 = 0 then ((morainehelp_Bytes.f t306 l3).bind fun t310 => (some t310)) else (some false)) = some r := H
                            have A148 := Aside0.mk A1480
                            clear A1480
                            by_cases c149 : t309 = 0
                            · rw [if_pos c149] at H
                              have c149b0 : (t309 == 0) = true := beq_iff_eq.mpr c149
                              have c149b1 : (t309 != 0) = false := bne_eq_false_iff_eq.mpr c149
                              clear c149
                              replace H := Option.bind_eq_some_iff.mp H
                              obtain ⟨t310, A1500, H⟩ := H
                              replace H : (some t310) = some r := H
                              have A150 := Aside0.mk A1500
                              clear A1500
                              obtain rfl := Option.some.inj H
                              go_wp2_with (first | (go_at_call 14; (with_reducible refine (rlp_Decode.calls kj126 _ _ l3 t297 t298 t301 t304 _ ?side1 ?side2 A146.out).mono ?_); (case side1 => exact zw2 HR3.out HB.out); (case side2 => exact HC3.out); rintro e w151 ⟨v299, v302, rfl, ho0, ho1, hb⟩; have n0_ := Aside0.mk (Kd.R_lower ho0 (below_size (zw3 HB.out GE251.out GE252.out))); have n1_ := Aside0.mk (Kd.R_lower (Kd.R_newB (Kd.R_newB ho1 (g := gb251) (o := .cells #[.bool a0_0, .slice A0_1 l0_1.length c0_1, .slice A0_2 l0_2.length c0_2] 25 (0, 0)) (zw0 BK251.out)) (g := gb252) (o := .cells #[.bool a1_0, .slice A1_1 l1_1.length c1_1, .slice A1_2 l1_2.length c1_2] 25 (0, 0)) (zw0 BK252.out)) (below_size (zw3 HB.out GE251.out GE252.out))); have n2_ := Aside0.mk (blk_below (g := gb251) (o := .cells #[.bool a0_0, .slice A0_1 l0_1.length c0_1, .slice A0_2 l0_2.length c0_2] 25 (0, 0)) (zw0 BK251.out) hb); have n3_ := Aside0.mk (blk_below (g := gb252) (o := .cells #[.bool a1_0, .slice A1_1 l1_1.length c1_1, .slice A1_2 l1_2.length c1_2] 25 (0, 0)) (zw0 BK252.out) hb); have n4_ := Aside0.mk (below_step (zw3 HB.out GE251.out GE252.out) hb); clear BK251; clear BK252; clear HB; have HO300 := n0_; have HO303 := n1_; have BK251 := n2_; have BK252 := n3_; have HB := n4_; clear n0_ n1_ n2_ n3_ n4_; (try clear hb); (try clear hb2); (try clear hk); (try clear hi); (try clear ho0); (try clear ho1)) | ((with_reducible refine gate_dst (N := 18) rfl ?_); (try (refine gate_guard (by rfl) ?_; dsimp only)); refine box_event ?hg (N := 18) ?hd (cs := #[.bool false, .slice none 0 0, .slice none 0 0]) (t := 25) ?hr ?_; (case hd => rfl); (case hg => rfl); (case hr => first | (go_simp; done) | (go_simp; rfl)); intro gb305 hg w152 hbox hb; have n0_ := Aside0.mk (Kd.R_below (zw1 HO300.out) hb); have n1_ := Aside0.mk (Kd.R_below (Kd.R_elderB (zw1 HO303.out) gb305 (Nat.le_of_eq hg.symm)) hb); have n2_ := Aside0.mk (blk_below (g := gb251) (o := .cells #[.bool a0_0, .slice A0_1 l0_1.length c0_1, .slice A0_2 l0_2.length c0_2] 25 (0, 0)) (zw0 BK251.out) hb); have n3_ := Aside0.mk (blk_below (g := gb252) (o := .cells #[.bool a1_0, .slice A1_1 l1_1.length c1_1, .slice A1_2 l1_2.length c1_2] 25 (0, 0)) (zw0 BK252.out) hb); have n4_ := Aside0.mk (below_step (zw3 HB.out GE251.out GE252.out) hb); have n5_ := Aside0.mk (hbox); have n6_ := Aside0.mk ((by rw [hg]; exact (below_size (zw3 HB.out GE251.out GE252.out)) : w.heap.size ≤ gb305)); have n7_ := Aside0.mk ((by rw [hg]; exact (below_size (zw3 HB.out GE251.out GE252.out)) : w.heap.size ≤ gb305)); have n8_ := Aside0.mk ((by rw [hg]; exact Nat.ne_of_lt (blk_lt (g := gb251) (o := .cells #[.bool a0_0, .slice A0_1 l0_1.length c0_1, .slice A0_2 l0_2.length c0_2] 25 (0, 0)) (zw0 BK251.out)) : gb251 ≠ gb305)); have n9_ := Aside0.mk ((by rw [hg]; exact Nat.ne_of_gt (blk_lt (g := gb251) (o := .cells #[.bool a0_0, .slice A0_1 l0_1.length c0_1, .slice A0_2 l0_2.length c0_2] 25 (0, 0)) (zw0 BK251.out)) : gb305 ≠ gb251)); have n10_ := Aside0.mk ((by rw [hg]; exact Nat.ne_of_lt (blk_lt (g := gb252) (o := .cells #[.bool a1_0, .slice A1_1 l1_1.length c1_1, .slice A1_2 l1_2.length c1_2] 25 (0, 0)) (zw0 BK252.out)) : gb252 ≠ gb305)); have n11_ := Aside0.mk ((by rw [hg]; exact Nat.ne_of_gt (blk_lt (g := gb252) (o := .cells #[.bool a1_0, .slice A1_1 l1_1.length c1_1, .slice A1_2 l1_2.length c1_2] 25 (0, 0)) (zw0 BK252.out)) : gb305 ≠ gb252)); clear HO300; clear HO303; clear BK251; clear BK252; clear HB; have HO300 := n0_; have HO303 := n1_; have BK251 := n2_; have BK252 := n3_; have HB := n4_; have BK305 := n5_; have GW305 := n6_; have GE305 := n7_; have NB251_305 := n8_; have NB305_251 := n9_; have NB252_305 := n10_; have NB305_252 := n11_; clear n0_ n1_ n2_ n3_ n4_ n5_ n6_ n7_ n8_ n9_ n10_ n11_; clear hb hbox hg; have hnb153 := NB305_251.out; have hnc153 := NB251_305.out; have hnb154 := NB305_252.out; have hnc154 := NB252_305.out; have hcz155_0 : w152.cell? ⟨gb305, 0, none⟩ = some (.bool false) := (blk_cell BK305.out 0).trans rfl; have hcz155_1 : w152.cell? ⟨gb305, 1, none⟩ = some (.slice none 0 0) := (blk_cell BK305.out 1).trans rfl; have hcz155_2 : w152.cell? ⟨gb305, 2, none⟩ = some (.slice none 0 0) := (blk_cell BK305.out 2).trans rfl; have hfz155_0 := blk_frozen BK305.out 0; have hfz155_1 := blk_frozen BK305.out 1; have hfz155_2 := blk_frozen BK305.out 2; obtain ⟨Ao156, co156, eo156⟩ := Kd.R_slice HO300.out; subst eo156; obtain ⟨Ao157, co157, eo157⟩ := Kd.R_slice HO303.out; subst eo157) | (go_at_call 11; (with_reducible refine (rlp_Encode.calls kj126 t297 _ _ t298 _ _ t301 t306 t309 _ ?side1 ?side2 ?side3 ?side4 A148.out).mono ?_); (case side1 => refine (Kd.R_reads' (e := 5) (base := w.heap.size) (ok := fun k_ => True) (n := t298.length) (c := co156) ?_).2.2; exact (by (with_reducible repeat (first | apply Kd.R_alloc | apply Kd.R_drewN | apply Kd.R_drew)); exact (Kd.R_mono (Kd.R_far (p := ⟨gb305, 2, none⟩) (Kd.R_far (p := ⟨gb305, 1, none⟩) (Kd.R_far (p := ⟨gb305, 0, none⟩) (Kd.R_types HO300.out BK305.out (by decide)) (fun _ hk => hk.2) (.bool t297)) (fun _ hk => hk.2) (.slice Ao156 t298.length co156)) (fun _ hk => hk.2) (.slice Ao157 t301.length co157)) (fun _ h_ => h_.1)))); (case side2 => exact (Kd.R_reads' HO300.out).2.1); (case side3 => refine (Kd.R_reads' (e := 25) (base := w.heap.size) (ok := fun k_ => (((some k_ ≠ (.slice Ao156 t298.length co156 : Value).ownBlock ∧ k_ ≠ gb251) ∧ k_ ≠ gb252) ∧ k_ ≠ gb305)) (n := t301.length) (c := co157) ?_).2.2; exact (by (with_reducible repeat (first | apply Kd.R_alloc | apply Kd.R_drewN | apply Kd.R_drew)); exact (Kd.R_mono (Kd.R_far (p := ⟨gb305, 2, none⟩) (Kd.R_far (p := ⟨gb305, 1, none⟩) (Kd.R_far (p := ⟨gb305, 0, none⟩) (Kd.R_mono HO303.out (fun k_ hk => (⟨hk, hk.2⟩ : _ ∧ k_ ≠ gb305))) (fun _ hk => hk.2) (.bool t297)) (fun _ hk => hk.2) (.slice Ao156 t298.length co156)) (fun _ hk => hk.2) (.slice Ao157 t301.length co157)) (fun _ h_ => h_.1)))); (case side4 => exact (Kd.R_reads' HO303.out).2.1); rintro e w158 ⟨v307, rfl, ho0, hb⟩; have n0_ := Aside0.mk (Kd.R_elder' (by (with_reducible repeat (first | apply Kd.R_alloc | apply Kd.R_drewN | apply Kd.R_drew)); exact (Kd.R_mono (Kd.R_far (p := ⟨gb305, 2, none⟩) (Kd.R_far (p := ⟨gb305, 1, none⟩) (Kd.R_far (p := ⟨gb305, 0, none⟩) (Kd.R_types HO300.out BK305.out (by decide)) (fun _ hk => hk.2) (.bool t297)) (fun _ hk => hk.2) (.slice Ao156 t298.length co156)) (fun _ hk => hk.2) (.slice Ao157 t301.length co157)) (fun _ h_ => h_.1))) (Kd.R_base ho0) hb); have n1_ := Aside0.mk (Kd.R_elder' (by (with_reducible repeat (first | apply Kd.R_alloc | apply Kd.R_drewN | apply Kd.R_drew)); exact (Kd.R_mono (Kd.R_far (p := ⟨gb305, 2, none⟩) (Kd.R_far (p := ⟨gb305, 1, none⟩) (Kd.R_far (p := ⟨gb305, 0, none⟩) (Kd.R_mono HO303.out (fun k_ hk => (⟨hk, hk.2⟩ : _ ∧ k_ ≠ gb305))) (fun _ hk => hk.2) (.bool t297)) (fun _ hk => hk.2) (.slice Ao156 t298.length co156)) (fun _ hk => hk.2) (.slice Ao157 t301.length co157)) (fun _ h_ => h_.1))) (Kd.R_base ho0) hb); have n2_ := Aside0.mk (Kd.R_lower (Kd.R_new' ho0 (Kd.R_lt (by (with_reducible repeat (first | apply Kd.R_alloc | apply Kd.R_drewN | apply Kd.R_drew)); exact (Kd.R_mono (Kd.R_far (p := ⟨gb305, 2, none⟩) (Kd.R_far (p := ⟨gb305, 1, none⟩) (Kd.R_far (p := ⟨gb305, 0, none⟩) (Kd.R_types HO300.out BK305.out (by decide)) (fun _ hk => hk.2) (.bool t297)) (fun _ hk => hk.2) (.slice Ao156 t298.length co156)) (fun _ hk => hk.2) (.slice Ao157 t301.length co157)) (fun _ h_ => h_.1))))) (below_size (zw7 HB.out GE251.out GE252.out GE305.out))); have n3_ := Aside0.mk (blk_below (g := gb251) (o := .cells #[.bool a0_0, .slice A0_1 l0_1.length c0_1, .slice A0_2 l0_2.length c0_2] 25 (0, 0)) (zw10 NB251_305.out BK251.out) hb); have n4_ := Aside0.mk (blk_below (g := gb252) (o := .cells #[.bool a1_0, .slice A1_1 l1_1.length c1_1, .slice A1_2 l1_2.length c1_2] 25 (0, 0)) (zw10 NB252_305.out BK252.out) hb); have n5_ := Aside0.mk (blk_below (g := gb305) (o := .cells #[.bool t297, .slice Ao156 t298.length co156, .slice Ao157 t301.length co157] 25 (0, 0)) (by (with_reducible repeat (first | refine blk_drewN ?_ _ | refine blk_drew ?_ | refine blk_alloc ?_ _)); refine blk_put (cs := #[.bool t297, .slice Ao156 t298.length co156, .slice none 0 0]) ?_ 2 _ rfl; (with_reducible repeat (first | refine blk_drewN ?_ _ | refine blk_drew ?_ | refine blk_alloc ?_ _)); refine blk_put (cs := #[.bool t297, .slice none 0 0, .slice none 0 0]) ?_ 1 _ rfl; (with_reducible repeat (first | refine blk_drewN ?_ _ | refine blk_drew ?_ | refine blk_alloc ?_ _)); refine blk_put (cs := #[.bool false, .slice none 0 0, .slice none 0 0]) ?_ 0 _ rfl; (with_reducible repeat (first | refine blk_drewN ?_ _ | refine blk_drew ?_ | refine blk_alloc ?_ _)); exact BK305.out) hb); have n6_ := Aside0.mk (below_step (zw7 HB.out GE251.out GE252.out GE305.out) hb); clear HO300; clear HO303; clear BK251; clear BK252; clear BK305; clear HB; have HO300 := n0_; have HO303 := n1_; have HO308 := n2_; have BK251 := n3_; have BK252 := n4_; have BK305 := n5_; have HB := n6_; clear n0_ n1_ n2_ n3_ n4_ n5_ n6_; (try clear hb); (try clear hb2); (try clear hk); (try clear hi); (try clear ho0); obtain ⟨Ao159, co159, eo159⟩ := Kd.R_slice HO308.out; subst eo159) | (go_at_call 13; (with_reducible refine (morainehelp_Bytes.calls _ _ t306 _ _ l3 t310 _ ?side1 ?side2 ?side3 ?side4 A150.out).mono ?_); (case side1 => exact zw15 HO308.out); (case side2 => exact (Kd.R_reads' HO308.out).2.1); (case side3 => exact zw2 HR3.out HB.out); (case side4 => exact HC3.out); rintro e w' ⟨rfl, ⟨nd, rfl⟩⟩; (try first | exact ⟨rfl, _, World.drewN_drewN _ _ _⟩ | exact ⟨rfl, _, Eq.trans (World.drewN_drewN _ _ _) (congrArg (World.drewN _) (Nat.add_assoc _ _ _))⟩)))
                              skip
                              go_ret
                              exact ⟨by first | rfl | (simp [errW_none, errW_some] <;> rfl) | (simp [*, errW_none, errW_some] <;> rfl), by repeat (first | (with_reducible first | exact HB.out | apply below_alloc | apply pw_below_drewN | apply below_drew1 | refine below_set ?_ GE251.out | refine below_set ?_ GE252.out | refine below_set ?_ GE305.out) | exact HB.out)⟩
                            · rw [if_neg c149] at H
                              have c149b0 : (t309 == 0) = false := beq_eq_false_iff_ne.mpr c149
                              have c149b1 : (t309 != 0) = true := bne_iff_ne.mpr c149
                              obtain rfl := Option.some.inj H
                              go_wp2_with (first | (go_at_call 14; (with_reducible refine (rlp_Decode.calls kj126 _ _ l3 t297 t298 t301 t304 _ ?side1 ?side2 A146.out).mono ?_); (case side1 => exact zw2 HR3.out HB.out); (case side2 => exact HC3.out); rintro e w160 ⟨v299, v302, rfl, ho0, ho1, hb⟩; have n0_ := Aside0.mk (Kd.R_lower ho0 (below_size (zw3 HB.out GE251.out GE252.out))); have n1_ := Aside0.mk (Kd.R_lower (Kd.R_newB (Kd.R_newB ho1 (g := gb251) (o := .cells #[.bool a0_0, .slice A0_1 l0_1.length c0_1, .slice A0_2 l0_2.length c0_2] 25 (0, 0)) (zw0 BK251.out)) (g := gb252) (o := .cells #[.bool a1_0, .slice A1_1 l1_1.length c1_1, .slice A1_2 l1_2.length c1_2] 25 (0, 0)) (zw0 BK252.out)) (below_size (zw3 HB.out GE251.out GE252.out))); have n2_ := Aside0.mk (blk_below (g := gb251) (o := .cells #[.bool a0_0, .slice A0_1 l0_1.length c0_1, .slice A0_2 l0_2.length c0_2] 25 (0, 0)) (zw0 BK251.out) hb); have n3_ := Aside0.mk (blk_below (g := gb252) (o := .cells #[.bool a1_0, .slice A1_1 l1_1.length c1_1, .slice A1_2 l1_2.length c1_2] 25 (0, 0)) (zw0 BK252.out) hb); have n4_ := Aside0.mk (below_step (zw3 HB.out GE251.out GE252.out) hb); clear BK251; clear BK252; clear HB; have HO300 := n0_; have HO303 := n1_; have BK251 := n2_; have BK252 := n3_; have HB := n4_; clear n0_ n1_ n2_ n3_ n4_; (try clear hb); (try clear hb2); (try clear hk); (try clear hi); (try clear ho0); (try clear ho1)) | ((with_reducible refine gate_dst (N := 18) rfl ?_); (try (refine gate_guard (by rfl) ?_; dsimp only)); refine box_event ?hg (N := 18) ?hd (cs := #[.bool false, .slice none 0 0, .slice none 0 0]) (t := 25) ?hr ?_; (case hd => rfl); (case hg => rfl); (case hr => first | (go_simp; done) | (go_simp; rfl)); intro gb305 hg w161 hbox hb; have n0_ := Aside0.mk (Kd.R_below (zw1 HO300.out) hb); have n1_ := Aside0.mk (Kd.R_below (Kd.R_elderB (zw1 HO303.out) gb305 (Nat.le_of_eq hg.symm)) hb); have n2_ := Aside0.mk (blk_below (g := gb251) (o := .cells #[.bool a0_0, .slice A0_1 l0_1.length c0_1, .slice A0_2 l0_2.length c0_2] 25 (0, 0)) (zw0 BK251.out) hb); have n3_ := Aside0.mk (blk_below (g := gb252) (o := .cells #[.bool a1_0, .slice A1_1 l1_1.length c1_1, .slice A1_2 l1_2.length c1_2] 25 (0, 0)) (zw0 BK252.out) hb); have n4_ := Aside0.mk (below_step (zw3 HB.out GE251.out GE252.out) hb); have n5_ := Aside0.mk (hbox); have n6_ := Aside0.mk ((by rw [hg]; exact (below_size (zw3 HB.out GE251.out GE252.out)) : w.heap.size ≤ gb305)); have n7_ := Aside0.mk ((by rw [hg]; exact (below_size (zw3 HB.out GE251.out GE252.out)) : w.heap.size ≤ gb305)); have n8_ := Aside0.mk ((by rw [hg]; exact Nat.ne_of_lt (blk_lt (g := gb251) (o := .cells #[.bool a0_0, .slice A0_1 l0_1.length c0_1, .slice A0_2 l0_2.length c0_2] 25 (0, 0)) (zw0 BK251.out)) : gb251 ≠ gb305)); have n9_ := Aside0.mk ((by rw [hg]; exact Nat.ne_of_gt (blk_lt (g := gb251) (o := .cells #[.bool a0_0, .slice A0_1 l0_1.length c0_1, .slice A0_2 l0_2.length c0_2] 25 (0, 0)) (zw0 BK251.out)) : gb305 ≠ gb251)); have n10_ := Aside0.mk ((by rw [hg]; exact Nat.ne_of_lt (blk_lt (g := gb252) (o := .cells #[.bool a1_0, .slice A1_1 l1_1.length c1_1, .slice A1_2 l1_2.length c1_2] 25 (0, 0)) (zw0 BK252.out)) : gb252 ≠ gb305)); have n11_ := Aside0.mk ((by rw [hg]; exact Nat.ne_of_gt (blk_lt (g := gb252) (o := .cells #[.bool a1_0, .slice A1_1 l1_1.length c1_1, .slice A1_2 l1_2.length c1_2] 25 (0, 0)) (zw0 BK252.out)) : gb305 ≠ gb252)); clear HO300; clear HO303; clear BK251; clear BK252; clear HB; have HO300 := n0_; have HO303 := n1_; have BK251 := n2_; have BK252 := n3_; have HB := n4_; have BK305 := n5_; have GW305 := n6_; have GE305 := n7_; have NB251_305 := n8_; have NB305_251 := n9_; have NB252_305 := n10_; have NB305_252 := n11_; clear n0_ n1_ n2_ n3_ n4_ n5_ n6_ n7_ n8_ n9_ n10_ n11_; clear hb hbox hg; have hnb162 := NB305_251.out; have hnc162 := NB251_305.out; have hnb163 := NB305_252.out; have hnc163 := NB252_305.out; have hcz164_0 : w161.cell? ⟨gb305, 0, none⟩ = some (.bool false) := (blk_cell BK305.out 0).trans rfl; have hcz164_1 : w161.cell? ⟨gb305, 1, none⟩ = some (.slice none 0 0) := (blk_cell BK305.out 1).trans rfl; have hcz164_2 : w161.cell? ⟨gb305, 2, none⟩ = some (.slice none 0 0) := (blk_cell BK305.out 2).trans rfl; have hfz164_0 := blk_frozen BK305.out 0; have hfz164_1 := blk_frozen BK305.out 1; have hfz164_2 := blk_frozen BK305.out 2; obtain ⟨Ao165, co165, eo165⟩ := Kd.R_slice HO300.out; subst eo165; obtain ⟨Ao166, co166, eo166⟩ := Kd.R_slice HO303.out; subst eo166) | (go_at_call 11; (with_reducible refine (rlp_Encode.calls kj126 t297 _ _ t298 _ _ t301 t306 t309 _ ?side1 ?side2 ?side3 ?side4 A148.out).mono ?_); (case side1 => refine (Kd.R_reads' (e := 5) (base := w.heap.size) (ok := fun k_ => True) (n := t298.length) (c := co165) ?_).2.2; exact (by (with_reducible repeat (first | apply Kd.R_alloc | apply Kd.R_drewN | apply Kd.R_drew)); exact (Kd.R_mono (Kd.R_far (p := ⟨gb305, 2, none⟩) (Kd.R_far (p := ⟨gb305, 1, none⟩) (Kd.R_far (p := ⟨gb305, 0, none⟩) (Kd.R_types HO300.out BK305.out (by decide)) (fun _ hk => hk.2) (.bool t297)) (fun _ hk => hk.2) (.slice Ao165 t298.length co165)) (fun _ hk => hk.2) (.slice Ao166 t301.length co166)) (fun _ h_ => h_.1)))); (case side2 => exact (Kd.R_reads' HO300.out).2.1); (case side3 => refine (Kd.R_reads' (e := 25) (base := w.heap.size) (ok := fun k_ => (((some k_ ≠ (.slice Ao165 t298.length co165 : Value).ownBlock ∧ k_ ≠ gb251) ∧ k_ ≠ gb252) ∧ k_ ≠ gb305)) (n := t301.length) (c := co166) ?_).2.2; exact (by (with_reducible repeat (first | apply Kd.R_alloc | apply Kd.R_drewN | apply Kd.R_drew)); exact (Kd.R_mono (Kd.R_far (p := ⟨gb305, 2, none⟩) (Kd.R_far (p := ⟨gb305, 1, none⟩) (Kd.R_far (p := ⟨gb305, 0, none⟩) (Kd.R_mono HO303.out (fun k_ hk => (⟨hk, hk.2⟩ : _ ∧ k_ ≠ gb305))) (fun _ hk => hk.2) (.bool t297)) (fun _ hk => hk.2) (.slice Ao165 t298.length co165)) (fun _ hk => hk.2) (.slice Ao166 t301.length co166)) (fun _ h_ => h_.1)))); (case side4 => exact (Kd.R_reads' HO303.out).2.1); rintro e w167 ⟨v307, rfl, ho0, hb⟩; have n0_ := Aside0.mk (Kd.R_elder' (by (with_reducible repeat (first | apply Kd.R_alloc | apply Kd.R_drewN | apply Kd.R_drew)); exact (Kd.R_mono (Kd.R_far (p := ⟨gb305, 2, none⟩) (Kd.R_far (p := ⟨gb305, 1, none⟩) (Kd.R_far (p := ⟨gb305, 0, none⟩) (Kd.R_types HO300.out BK305.out (by decide)) (fun _ hk => hk.2) (.bool t297)) (fun _ hk => hk.2) (.slice Ao165 t298.length co165)) (fun _ hk => hk.2) (.slice Ao166 t301.length co166)) (fun _ h_ => h_.1))) (Kd.R_base ho0) hb); have n1_ := Aside0.mk (Kd.R_elder' (by (with_reducible repeat (first | apply Kd.R_alloc | apply Kd.R_drewN | apply Kd.R_drew)); exact (Kd.R_mono (Kd.R_far (p := ⟨gb305, 2, none⟩) (Kd.R_far (p := ⟨gb305, 1, none⟩) (Kd.R_far (p := ⟨gb305, 0, none⟩) (Kd.R_mono HO303.out (fun k_ hk => (⟨hk, hk.2⟩ : _ ∧ k_ ≠ gb305))) (fun _ hk => hk.2) (.bool t297)) (fun _ hk => hk.2) (.slice Ao165 t298.length co165)) (fun _ hk => hk.2) (.slice Ao166 t301.length co166)) (fun _ h_ => h_.1))) (Kd.R_base ho0) hb); have n2_ := Aside0.mk (Kd.R_lower (Kd.R_new' ho0 (Kd.R_lt (by (with_reducible repeat (first | apply Kd.R_alloc | apply Kd.R_drewN | apply Kd.R_drew)); exact (Kd.R_mono (Kd.R_far (p := ⟨gb305, 2, none⟩) (Kd.R_far (p := ⟨gb305, 1, none⟩) (Kd.R_far (p := ⟨gb305, 0, none⟩) (Kd.R_types HO300.out BK305.out (by decide)) (fun _ hk => hk.2) (.bool t297)) (fun _ hk => hk.2) (.slice Ao165 t298.length co165)) (fun _ hk => hk.2) (.slice Ao166 t301.length co166)) (fun _ h_ => h_.1))))) (below_size (zw7 HB.out GE251.out GE252.out GE305.out))); have n3_ := Aside0.mk (blk_below (g := gb251) (o := .cells #[.bool a0_0, .slice A0_1 l0_1.length c0_1, .slice A0_2 l0_2.length c0_2] 25 (0, 0)) (zw10 NB251_305.out BK251.out) hb); have n4_ := Aside0.mk (blk_below (g := gb252) (o := .cells #[.bool a1_0, .slice A1_1 l1_1.length c1_1, .slice A1_2 l1_2.length c1_2] 25 (0, 0)) (zw10 NB252_305.out BK252.out) hb); have n5_ := Aside0.mk (blk_below (g := gb305) (o := .cells #[.bool t297, .slice Ao165 t298.length co165, .slice Ao166 t301.length co166] 25 (0, 0)) (by (with_reducible repeat (first | refine blk_drewN ?_ _ | refine blk_drew ?_ | refine blk_alloc ?_ _)); refine blk_put (cs := #[.bool t297, .slice Ao165 t298.length co165, .slice none 0 0]) ?_ 2 _ rfl; (with_reducible repeat (first | refine blk_drewN ?_ _ | refine blk_drew ?_ | refine blk_alloc ?_ _)); refine blk_put (cs := #[.bool t297, .slice none 0 0, .slice none 0 0]) ?_ 1 _ rfl; (with_reducible repeat (first | refine blk_drewN ?_ _ | refine blk_drew ?_ | refine blk_alloc ?_ _)); refine blk_put (cs := #[.bool false, .slice none 0 0, .slice none 0 0]) ?_ 0 _ rfl; (with_reducible repeat (first | refine blk_drewN ?_ _ | refine blk_drew ?_ | refine blk_alloc ?_ _)); exact BK305.out) hb); have n6_ := Aside0.mk (below_step (zw7 HB.out GE251.out GE252.out GE305.out) hb); clear HO300; clear HO303; clear BK251; clear BK252; clear BK305; clear HB; have HO300 := n0_; have HO303 := n1_; have HO308 := n2_; have BK251 := n3_; have BK252 := n4_; have BK305 := n5_; have HB := n6_; clear n0_ n1_ n2_ n3_ n4_ n5_ n6_; (try clear hb); (try clear hb2); (try clear hk); (try clear hi); (try clear ho0)))
                              skip
                              go_ret
                              exact ⟨by first | rfl | (simp [errW_none, errW_some] <;> rfl) | (simp [*, errW_none, errW_some] <;> rfl), by repeat (first | (with_reducible first | exact HB.out | apply below_alloc | apply pw_below_drewN | apply below_drew1 | refine below_set ?_ GE251.out | refine below_set ?_ GE252.out | refine below_set ?_ GE305.out) | exact HB.out)⟩
                          · rw [if_neg c147] at H
                            have c147b0 : (t304 == 0) = false := beq_eq_false_iff_ne.mpr c147
                            have c147b1 : (t304 != 0) = true := bne_iff_ne.mpr c147
                            obtain rfl := Option.some.inj H
                            go_wp2_with (first | (go_at_call 14; (with_reducible refine (rlp_Decode.calls kj126 _ _ l3 t297 t298 t301 t304 _ ?side1 ?side2 A146.out).mono ?_); (case side1 => exact zw2 HR3.out HB.out); (case side2 => exact HC3.out); rintro e w168 ⟨v299, v302, rfl, ho0, ho1, hb⟩; have n0_ := Aside0.mk (Kd.R_lower ho0 (below_size (zw3 HB.out GE251.out GE252.out))); have n1_ := Aside0.mk (Kd.R_lower (Kd.R_newB (Kd.R_newB ho1 (g := gb251) (o := .cells #[.bool a0_0, .slice A0_1 l0_1.length c0_1, .slice A0_2 l0_2.length c0_2] 25 (0, 0)) (zw0 BK251.out)) (g := gb252) (o := .cells #[.bool a1_0, .slice A1_1 l1_1.length c1_1, .slice A1_2 l1_2.length c1_2] 25 (0, 0)) (zw0 BK252.out)) (below_size (zw3 HB.out GE251.out GE252.out))); have n2_ := Aside0.mk (blk_below (g := gb251) (o := .cells #[.bool a0_0, .slice A0_1 l0_1.length c0_1, .slice A0_2 l0_2.length c0_2] 25 (0, 0)) (zw0 BK251.out) hb); have n3_ := Aside0.mk (blk_below (g := gb252) (o := .cells #[.bool a1_0, .slice A1_1 l1_1.length c1_1, .slice A1_2 l1_2.length c1_2] 25 (0, 0)) (zw0 BK252.out) hb); have n4_ := Aside0.mk (below_step (zw3 HB.out GE251.out GE252.out) hb); clear BK251; clear BK252; clear HB; have HO300 := n0_; have HO303 := n1_; have BK251 := n2_; have BK252 := n3_; have HB := n4_; clear n0_ n1_ n2_ n3_ n4_; (try clear hb); (try clear hb2); (try clear hk); (try clear hi); (try clear ho0); (try clear ho1)) | ((with_reducible refine gate_dst (N := 18) rfl ?_); (try (refine gate_guard (by rfl) ?_; dsimp only)); refine box_event ?hg (N := 18) ?hd (cs := #[.bool false, .slice none 0 0, .slice none 0 0]) (t := 25) ?hr ?_; (case hd => rfl); (case hg => rfl); (case hr => first | (go_simp; done) | (go_simp; rfl)); intro gb305 hg w169 hbox hb; have n0_ := Aside0.mk (Kd.R_below (zw1 HO300.out) hb); have n1_ := Aside0.mk (Kd.R_below (Kd.R_elderB (zw1 HO303.out) gb305 (Nat.le_of_eq hg.symm)) hb); have n2_ := Aside0.mk (blk_below (g := gb251) (o := .cells #[.bool a0_0, .slice A0_1 l0_1.length c0_1, .slice A0_2 l0_2.length c0_2] 25 (0, 0)) (zw0 BK251.out) hb); have n3_ := Aside0.mk (blk_below (g := gb252) (o := .cells #[.bool a1_0, .slice A1_1 l1_1.length c1_1, .slice A1_2 l1_2.length c1_2] 25 (0, 0)) (zw0 BK252.out) hb); have n4_ := Aside0.mk (below_step (zw3 HB.out GE251.out GE252.out) hb); have n5_ := Aside0.mk (hbox); have n6_ := Aside0.mk ((by rw [hg]; exact (below_size (zw3 HB.out GE251.out GE252.out)) : w.heap.size ≤ gb305)); have n7_ := Aside0.mk ((by rw [hg]; exact (below_size (zw3 HB.out GE251.out GE252.out)) : w.heap.size ≤ gb305)); have n8_ := Aside0.mk ((by rw [hg]; exact Nat.ne_of_lt (blk_lt (g := gb251) (o := .cells #[.bool a0_0, .slice A0_1 l0_1.length c0_1, .slice A0_2 l0_2.length c0_2] 25 (0, 0)) (zw0 BK251.out)) : gb251 ≠ gb305)); have n9_ := Aside0.mk ((by rw [hg]; exact Nat.ne_of_gt (blk_lt (g := gb251) (o := .cells #[.bool a0_0, .slice A0_1 l0_1.length c0_1, .slice A0_2 l0_2.length c0_2] 25 (0, 0)) (zw0 BK251.out)) : gb305 ≠ gb251)); have n10_ := Aside0.mk ((by rw [hg]; exact Nat.ne_of_lt (blk_lt (g := gb252) (o := .cells #[.bool a1_0, .slice A1_1 l1_1.length c1_1, .slice A1_2 l1_2.length c1_2] 25 (0, 0)) (zw0 BK252.out)) : gb252 ≠ gb305)); have n11_ := Aside0.mk ((by rw [hg]; exact Nat.ne_of_gt (blk_lt (g := gb252) (o := .cells #[.bool a1_0, .slice A1_1 l1_1.length c1_1, .slice A1_2 l1_2.length c1_2] 25 (0, 0)) (zw0 BK252.out)) : gb305 ≠ gb252)); clear HO300; clear HO303; clear BK251; clear BK252; clear HB; have HO300 := n0_; have HO303 := n1_; have BK251 := n2_; have BK252 := n3_; have HB := n4_; have BK305 := n5_; have GW305 := n6_; have GE305 := n7_; have NB251_305 := n8_; have NB305_251 := n9_; have NB252_305 := n10_; have NB305_252 := n11_; clear n0_ n1_ n2_ n3_ n4_ n5_ n6_ n7_ n8_ n9_ n10_ n11_; clear hb hbox hg; have hnb170 := NB305_251.out; have hnc170 := NB251_305.out; have hnb171 := NB305_252.out; have hnc171 := NB252_305.out; have hcz172_0 : w169.cell? ⟨gb305, 0, none⟩ = some (.bool false) := (blk_cell BK305.out 0).trans rfl; have hcz172_1 : w169.cell? ⟨gb305, 1, none⟩ = some (.slice none 0 0) := (blk_cell BK305.out 1).trans rfl; have hcz172_2 : w169.cell? ⟨gb305, 2, none⟩ = some (.slice none 0 0) := (blk_cell BK305.out 2).trans rfl; have hfz172_0 := blk_frozen BK305.out 0; have hfz172_1 := blk_frozen BK305.out 1; have hfz172_2 := blk_frozen BK305.out 2; obtain ⟨Ao173, co173, eo173⟩ := Kd.R_slice HO300.out; subst eo173; obtain ⟨Ao174, co174, eo174⟩ := Kd.R_slice HO303.out; subst eo174))
                            skip
                            go_ret
                            exact ⟨by first | rfl | (simp [errW_none, errW_some] <;> rfl) | (simp [*, errW_none, errW_some] <;> rfl), by repeat (first | (with_reducible first | exact HB.out | apply below_alloc | apply pw_below_drewN | apply below_drew1 | refine below_set ?_ GE251.out | refine below_set ?_ GE252.out | refine below_set ?_ GE305.out) | exact HB.out)⟩
  · replace c6 := Bool.eq_false_iff.mpr c6
    subst c6
    have H1 : (some false) = some r := by rw [if_neg (show ¬ (false = true) by decide)] at H; exact H
    clear H
    have H := H1
    clear H1
    obtain rfl := Option.some.inj H
    go_enter Try.func8, Try.ntmps8
    go_wp2_with (first | ((with_reducible refine gate_dst (N := 4) rfl ?_); (try (refine gate_guard (by rfl) ?_; dsimp only)); refine box_event ?hg (N := 4) ?hd (cs := #[.bool a0_0, .slice A0_1 l0_1.length c0_1, .slice A0_2 l0_2.length c0_2]) (t := 25) ?hr ?_; (case hd => rfl); (case hg => rfl); (case hr => first | (go_simp; done) | (go_simp; rfl)); intro gb251 hg w175 hbox hb; have n0_ := Aside0.mk (below_step (zw4 HB.out) hb); have n1_ := Aside0.mk (hbox); have n2_ := Aside0.mk ((by rw [hg]; exact (below_size (zw4 HB.out)) : w.heap.size ≤ gb251)); have n3_ := Aside0.mk ((by rw [hg]; exact (below_size (zw4 HB.out)) : w.heap.size ≤ gb251)); clear HB; have HB := n0_; have BK251 := n1_; have GW251 := n2_; have GE251 := n3_; clear n0_ n1_ n2_ n3_; clear hb hbox hg) | ((with_reducible refine gate_dst (N := 5) rfl ?_); (try (refine gate_guard (by rfl) ?_; dsimp only)); refine box_event ?hg (N := 5) ?hd (cs := #[.bool a1_0, .slice A1_1 l1_1.length c1_1, .slice A1_2 l1_2.length c1_2]) (t := 25) ?hr ?_; (case hd => rfl); (case hg => rfl); (case hr => first | (go_simp; done) | (go_simp; rfl)); intro gb252 hg w176 hbox hb; have n0_ := Aside0.mk (blk_below (g := gb251) (o := .cells #[.bool a0_0, .slice A0_1 l0_1.length c0_1, .slice A0_2 l0_2.length c0_2] 25 (0, 0)) (zw0 BK251.out) hb); have n1_ := Aside0.mk (below_step (zw5 HB.out GE251.out) hb); have n2_ := Aside0.mk (hbox); have n3_ := Aside0.mk ((by rw [hg]; exact (below_size (zw5 HB.out GE251.out)) : w.heap.size ≤ gb252)); have n4_ := Aside0.mk ((by rw [hg]; exact (below_size (zw5 HB.out GE251.out)) : w.heap.size ≤ gb252)); have n5_ := Aside0.mk ((by rw [hg]; exact Nat.ne_of_lt (blk_lt (g := gb251) (o := .cells #[.bool a0_0, .slice A0_1 l0_1.length c0_1, .slice A0_2 l0_2.length c0_2] 25 (0, 0)) (zw0 BK251.out)) : gb251 ≠ gb252)); have n6_ := Aside0.mk ((by rw [hg]; exact Nat.ne_of_gt (blk_lt (g := gb251) (o := .cells #[.bool a0_0, .slice A0_1 l0_1.length c0_1, .slice A0_2 l0_2.length c0_2] 25 (0, 0)) (zw0 BK251.out)) : gb252 ≠ gb251)); clear BK251; clear HB; have BK251 := n0_; have HB := n1_; have BK252 := n2_; have GW252 := n3_; have GE252 := n4_; have NB251_252 := n5_; have NB252_251 := n6_; clear n0_ n1_ n2_ n3_ n4_ n5_ n6_; clear hb hbox hg) | (go_at_call 9; (with_reducible refine (morainelaw4_known.calls k  false _ A5.out).mono ?_); rintro e w177 ⟨rfl, hb⟩; have n0_ := Aside0.mk (blk_below (g := gb251) (o := .cells #[.bool a0_0, .slice A0_1 l0_1.length c0_1, .slice A0_2 l0_2.length c0_2] 25 (0, 0)) (zw0 BK251.out) hb); have n1_ := Aside0.mk (blk_below (g := gb252) (o := .cells #[.bool a1_0, .slice A1_1 l1_1.length c1_1, .slice A1_2 l1_2.length c1_2] 25 (0, 0)) (zw0 BK252.out) hb); have n2_ := Aside0.mk (below_step (zw3 HB.out GE251.out GE252.out) hb); clear BK251; clear BK252; clear HB; have BK251 := n0_; have BK252 := n1_; have HB := n2_; clear n0_ n1_ n2_; (try clear hb); (try clear hb2); (try clear hk); (try clear hi)))
    skip
    go_ret
    exact ⟨by first | rfl | (simp [errW_none, errW_some] <;> rfl) | (simp [*, errW_none, errW_some] <;> rfl), by repeat (first | (with_reducible first | exact HB.out | apply below_alloc | apply pw_below_drewN | apply below_drew1 | refine below_set ?_ GE251.out | refine below_set ?_ GE252.out) | exact HB.out)⟩

end Go.Proofs.Ytbobnopnfjcajaa.P
