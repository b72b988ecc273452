-- Written by a program of this session out of the translation.
import Derived.Test.YtbobnopnfjcajaaPx0
namespace Go.Proofs.Ytbobnopnfjcajaa.P
open Go.RowKit Go.Proofs.YtbobnopnfjcajaaW.PrintWords Go.Proofs.YtbobnopnfjcajaaW.PrintLast Go.Proofs.YtbobnopnfjcajaaW.PrintMore
attribute [local go_sem] max2_int min2_int max_two min_two max_three min_three max_four min_four   -- for this text's walks alone
set_option linter.unusedVariables false
set_option linter.unusedSimpArgs false

/-! ### rlp_reads: function 37 -/
def rlp_reads.num : List Int → Int → Int
  | [], n => n
  | x :: l, n => rlp_reads.num l (Go.bits .or .u64 (IntKind.u64.wrap (n * 256)) (IntKind.u64.wrap x))
theorem rlp_reads.rd_at {L : List Int} {i : Int} (h : i.toNat < L.length) : rd L i = L[i.toNat] := by simp [rd, List.getD_eq_getElem?_getD, h]
set_option maxHeartbeats 4000000 in
set_option maxRecDepth 100000 in
theorem rlp_reads.long_calls (base c o n : Int) (gc gk gh : Nat) (w : World) (hcc : w.cell? ⟨gc, 0, none⟩ = some (.int .i64 c)) (hck : w.cell? ⟨gk, 0, none⟩ = some (.int .i64 o)) (hch : w.cell? ⟨gh, 2, none⟩ = some (.int .i64 n))
    (hfk : w.frozen? ⟨gk, 0, none⟩ = false) (hfh : w.frozen? ⟨gh, 2, none⟩ = false)
    (h1 : gc ≠ gk) (h2 : gc ≠ gh) (h3 : gk ≠ gh) (k : Int) (hkk : mx (wrap64 (wrap64 (c - base) - 55)) 0 = k) :
    Calls Try.prog 41 #[.int .i64 base, .pointer (some ⟨gc, 0, none⟩), .pointer (some ⟨gk, 0, none⟩), .pointer (some ⟨gh, 0, none⟩)] w fun e w' => e = .returned (.tuple #[]) ∧
      w' = (w.setCell ⟨gk, 0, none⟩ (.int .i64 k)).setCell ⟨gh, 2, none⟩ (.int .i64 (wrap64 (c - base))) := by
  have huH := Try.underlying71
  have h3' := Ne.symm h3
  go_enter Try.func41, Try.ntmps41
  go_wp2
  all_goals (go_end0; refine ⟨rfl, ?_⟩; rw [← hkk]; unfold mx; first | (rw [if_pos (by omega)]; done) | (rw [if_neg (by omega)]; done) | trace_state)
set_option maxHeartbeats 8000000 in
set_option maxRecDepth 100000 in
theorem rlp_reads.small (c0 : Nat) (A0 : Option Addr) (l0 : List Int) (w : World) (hr0 : Kd.C (Kd.int .u8) w A0 l0.length l0) (hc0 : l0.length ≤ c0) (hl0 : 0 < l0.length) (hb0 : 0 ≤ rd l0 0) (hb1 : rd l0 0 < 256) (hc : rd l0 0 < 128) :
    Calls Try.prog 37 #[.slice A0 l0.length c0] w fun e w' => e = .returned (.tuple #[.agg #[.bool false, .int .i64 0, .int .i64 1, .bool true, .bool false], .int .i64 0]) ∧ Below w.heap.size w w' := by
  have huH := Try.underlying71
  have hmf : ∀ (fn : Fn) (first cap : Array Value) (w : World), (Instr.makeFunc fn first cap).run Try.prog w = .ok (.func fn first cap) w := fun _ _ _ _ => rfl
  obtain ⟨ad, he, hx⟩ := Kd.at_int hr0 0 (by omega) (by omega)
  cases he
  rw [show ((0 : Int)).toNat = 0 from rfl, Addr.add_zero'] at hx
  have q0 : ((0 : Int) < (l0.length : Int)) = True := eq_true (by omega)
  have hw0 : wrap64 (rd l0 0) = rd l0 0 := by unfold wrap64; omega
  have hx1 : ∀ o : Obj, (w.alloc o).cell? ad = some (.int .u8 (rd l0 0)) := fun o => (World.cell?_alloc_lt _ _ _ (World.block_lt_of_cell? w _ hx)).trans hx
  have c1 : decide (rd l0 0 < 128) = true := decide_eq_true hc
  clear hr0
  go_enter Try.func37, Try.ntmps37
  go_wp2
  (try simp only [Exit.inBlock, Exit.then])
  refine bodyPost_ret (results_ct rfl _ _ w.heap.size 71 #[.bool false, .int .i64 0, .int .i64 1, .bool true, .bool false] (0, 0) _ rfl (by repeat (first | exact heap_alloc_new _ _ | refine blk_alloc ?_ _)) Try.underlying71 rfl (by kernel_rfl)) rfl ?_
  exact ⟨rfl, by repeat (first | exact Below.refl _ _ | apply below_alloc)⟩
set_option maxHeartbeats 8000000 in
set_option maxRecDepth 100000 in
theorem rlp_reads.low192 (c0 : Nat) (A0 : Option Addr) (l0 : List Int) (w : World) (hr0 : Kd.C (Kd.int .u8) w A0 l0.length l0) (hc0 : l0.length ≤ c0) (hl0 : 0 < l0.length) (hb0 : 0 ≤ rd l0 0) (hb1 : rd l0 0 < 256) (hk : 192 ≤ rd l0 0) (hn : rd l0 0 - 192 < 55) :
    Calls Try.prog 37 #[.slice A0 l0.length c0] w fun e w' => e = .returned (.tuple #[.agg #[.bool true, .int .i64 1, .int .i64 (rd l0 0 - 192), .bool false, .bool false], .int .i64 0]) ∧ Below w.heap.size w w' := by
  have huH := Try.underlying71
  have hmf : ∀ (fn : Fn) (first cap : Array Value) (w : World), (Instr.makeFunc fn first cap).run Try.prog w = .ok (.func fn first cap) w := fun _ _ _ _ => rfl
  obtain ⟨ad, he, hx⟩ := Kd.at_int hr0 0 (by omega) (by omega)
  cases he
  rw [show ((0 : Int)).toNat = 0 from rfl, Addr.add_zero'] at hx
  have q0 : ((0 : Int) < (l0.length : Int)) = True := eq_true (by omega)
  have hw0 : wrap64 (rd l0 0) = rd l0 0 := by unfold wrap64; omega
  have hx1 : ∀ o : Obj, (w.alloc o).cell? ad = some (.int .u8 (rd l0 0)) := fun o => (World.cell?_alloc_lt _ _ _ (World.block_lt_of_cell? w _ hx)).trans hx
  have c1 : decide (rd l0 0 < 128) = false := decide_eq_false (by omega)
  have c2 : decide (192 ≤ rd l0 0) = true := decide_eq_true (by omega)
  have hw1 : wrap64 (rd l0 0 - 192) = rd l0 0 - 192 := by unfold wrap64; omega
  have hw2 : wrap64 (rd l0 0 - 192 - 55) = rd l0 0 - 192 - 55 := by unfold wrap64; omega
  have c3 : (rd l0 0 - 192 - 55 < 0) = True := eq_true (by omega)
  clear hr0
  go_enter Try.func37, Try.ntmps37
  go_wp2_with go_in
  go_end0
  go_wp2
  (try simp only [Exit.inBlock, Exit.then])
  refine bodyPost_ret (results_ct rfl _ _ w.heap.size 71 #[.bool true, .int .i64 1, .int .i64 (rd l0 0 - 192), .bool false, .bool false] (0, 0) _ rfl (by repeat (first | exact heap_alloc_new _ _ | refine blk_alloc ?_ _)) Try.underlying71 rfl (by kernel_rfl)) rfl ?_
  exact ⟨rfl, by repeat (first | exact Below.refl _ _ | apply below_alloc)⟩
set_option maxHeartbeats 8000000 in
set_option maxRecDepth 100000 in
theorem rlp_reads.edge192 (c0 : Nat) (A0 : Option Addr) (l0 : List Int) (w : World) (hr0 : Kd.C (Kd.int .u8) w A0 l0.length l0) (hc0 : l0.length ≤ c0) (hl0 : 0 < l0.length) (hb0 : 0 ≤ rd l0 0) (hb1 : rd l0 0 < 256) (hk : 192 ≤ rd l0 0) (hn : rd l0 0 - 192 = 55) :
    Calls Try.prog 37 #[.slice A0 l0.length c0] w fun e w' => e = .returned (.tuple #[.agg #[.bool true, .int .i64 1, .int .i64 (rd l0 0 - 192), .bool false, .bool false], .int .i64 0]) ∧ Below w.heap.size w w' := by
  have huH := Try.underlying71
  have hmf : ∀ (fn : Fn) (first cap : Array Value) (w : World), (Instr.makeFunc fn first cap).run Try.prog w = .ok (.func fn first cap) w := fun _ _ _ _ => rfl
  obtain ⟨ad, he, hx⟩ := Kd.at_int hr0 0 (by omega) (by omega)
  cases he
  rw [show ((0 : Int)).toNat = 0 from rfl, Addr.add_zero'] at hx
  have q0 : ((0 : Int) < (l0.length : Int)) = True := eq_true (by omega)
  have hw0 : wrap64 (rd l0 0) = rd l0 0 := by unfold wrap64; omega
  have hx1 : ∀ o : Obj, (w.alloc o).cell? ad = some (.int .u8 (rd l0 0)) := fun o => (World.cell?_alloc_lt _ _ _ (World.block_lt_of_cell? w _ hx)).trans hx
  have c1 : decide (rd l0 0 < 128) = false := decide_eq_false (by omega)
  have c2 : decide (192 ≤ rd l0 0) = true := decide_eq_true (by omega)
  have hw1 : wrap64 (rd l0 0 - 192) = rd l0 0 - 192 := by unfold wrap64; omega
  have hw2 : wrap64 (rd l0 0 - 192 - 55) = rd l0 0 - 192 - 55 := by unfold wrap64; omega
  have c3 : (rd l0 0 - 192 - 55 < 0) = False := eq_false (by omega)
  have c4 : ((rd l0 0 - 192 - 55) == 0) = true := beq_iff_eq.mpr (by omega)
  clear hr0 hn
  go_enter Try.func37, Try.ntmps37
  go_wp2_with go_in
  go_end0
  go_wp2
  (try simp only [Exit.inBlock, Exit.then])
  refine bodyPost_ret (results_ct rfl _ _ w.heap.size 71 #[.bool true, .int .i64 1, .int .i64 (rd l0 0 - 192), .bool false, .bool false] (0, 0) _ rfl (by repeat (first | exact heap_alloc_new _ _ | refine blk_alloc ?_ _)) Try.underlying71 rfl (by kernel_rfl)) rfl ?_
  exact ⟨rfl, by repeat (first | exact Below.refl _ _ | apply below_alloc)⟩
set_option maxHeartbeats 8000000 in
set_option maxRecDepth 100000 in
theorem rlp_reads.short192 (c0 : Nat) (A0 : Option Addr) (l0 : List Int) (w : World) (hr0 : Kd.C (Kd.int .u8) w A0 l0.length l0) (hc0 : l0.length ≤ c0) (hl0 : 0 < l0.length) (hb0 : 0 ≤ rd l0 0) (hb1 : rd l0 0 < 256) (hk : 192 ≤ rd l0 0) (hn : 55 < rd l0 0 - 192) (hs : (l0.length : Int) < 1 + (rd l0 0 - 192 - 55)) :
    Calls Try.prog 37 #[.slice A0 l0.length c0] w fun e w' => e = .returned (.tuple #[.agg #[.bool true, .int .i64 1, .int .i64 (rd l0 0 - 192), .bool false, .bool false], .int .i64 41]) ∧ Below w.heap.size w w' := by
  have huH := Try.underlying71
  have hmf : ∀ (fn : Fn) (first cap : Array Value) (w : World), (Instr.makeFunc fn first cap).run Try.prog w = .ok (.func fn first cap) w := fun _ _ _ _ => rfl
  obtain ⟨ad, he, hx⟩ := Kd.at_int hr0 0 (by omega) (by omega)
  cases he
  rw [show ((0 : Int)).toNat = 0 from rfl, Addr.add_zero'] at hx
  have q0 : ((0 : Int) < (l0.length : Int)) = True := eq_true (by omega)
  have hw0 : wrap64 (rd l0 0) = rd l0 0 := by unfold wrap64; omega
  have hx1 : ∀ o : Obj, (w.alloc o).cell? ad = some (.int .u8 (rd l0 0)) := fun o => (World.cell?_alloc_lt _ _ _ (World.block_lt_of_cell? w _ hx)).trans hx
  have c1 : decide (rd l0 0 < 128) = false := decide_eq_false (by omega)
  have c2 : decide (192 ≤ rd l0 0) = true := decide_eq_true (by omega)
  have hw1 : wrap64 (rd l0 0 - 192) = rd l0 0 - 192 := by unfold wrap64; omega
  have hw2 : wrap64 (rd l0 0 - 192 - 55) = rd l0 0 - 192 - 55 := by unfold wrap64; omega
  have c3 : (rd l0 0 - 192 - 55 < 0) = False := eq_false (by omega)
  have c4 : ((rd l0 0 - 192 - 55) == 0) = false := beq_eq_false_iff_ne.mpr (by omega)
  have hw3 : wrap64 (1 + (rd l0 0 - 192 - 55)) = 1 + (rd l0 0 - 192 - 55) := by unfold wrap64; omega
  have c5 : decide ((l0.length : Int) < 1 + (rd l0 0 - 192 - 55)) = true := decide_eq_true hs
  clear hr0
  go_enter Try.func37, Try.ntmps37
  go_wp2_with go_in
  go_end0
  go_wp2
  (try simp only [Exit.inBlock, Exit.then])
  refine bodyPost_ret (results_ct rfl _ _ w.heap.size 71 #[.bool true, .int .i64 1, .int .i64 (rd l0 0 - 192), .bool false, .bool false] (0, 0) _ rfl (by repeat (first | exact heap_alloc_new _ _ | refine blk_alloc ?_ _)) Try.underlying71 rfl (by kernel_rfl)) rfl ?_
  exact ⟨rfl, by repeat (first | exact Below.refl _ _ | apply below_alloc)⟩
set_option maxHeartbeats 8000000 in
set_option maxRecDepth 100000 in
theorem rlp_reads.low128 (c0 : Nat) (A0 : Option Addr) (l0 : List Int) (w : World) (hr0 : Kd.C (Kd.int .u8) w A0 l0.length l0) (hc0 : l0.length ≤ c0) (hl0 : 0 < l0.length) (hb0 : 0 ≤ rd l0 0) (hb1 : rd l0 0 < 256) (hk : 128 ≤ rd l0 0) (hk2 : rd l0 0 < 192) (hn : rd l0 0 - 128 < 55) :
    Calls Try.prog 37 #[.slice A0 l0.length c0] w fun e w' => e = .returned (.tuple #[.agg #[.bool false, .int .i64 1, .int .i64 (rd l0 0 - 128), .bool false, .bool false], .int .i64 0]) ∧ Below w.heap.size w w' := by
  have huH := Try.underlying71
  have hmf : ∀ (fn : Fn) (first cap : Array Value) (w : World), (Instr.makeFunc fn first cap).run Try.prog w = .ok (.func fn first cap) w := fun _ _ _ _ => rfl
  obtain ⟨ad, he, hx⟩ := Kd.at_int hr0 0 (by omega) (by omega)
  cases he
  rw [show ((0 : Int)).toNat = 0 from rfl, Addr.add_zero'] at hx
  have q0 : ((0 : Int) < (l0.length : Int)) = True := eq_true (by omega)
  have hw0 : wrap64 (rd l0 0) = rd l0 0 := by unfold wrap64; omega
  have hx1 : ∀ o : Obj, (w.alloc o).cell? ad = some (.int .u8 (rd l0 0)) := fun o => (World.cell?_alloc_lt _ _ _ (World.block_lt_of_cell? w _ hx)).trans hx
  have c1 : decide (rd l0 0 < 128) = false := decide_eq_false (by omega)
  have c2 : decide (192 ≤ rd l0 0) = false := decide_eq_false (by omega)
  have hw1 : wrap64 (rd l0 0 - 128) = rd l0 0 - 128 := by unfold wrap64; omega
  have hw2 : wrap64 (rd l0 0 - 128 - 55) = rd l0 0 - 128 - 55 := by unfold wrap64; omega
  have c3 : (rd l0 0 - 128 - 55 < 0) = True := eq_true (by omega)
  clear hr0
  go_enter Try.func37, Try.ntmps37
  go_wp2_with go_in
  go_end0
  go_wp2
  (try simp only [Exit.inBlock, Exit.then])
  refine bodyPost_ret (results_ct rfl _ _ w.heap.size 71 #[.bool false, .int .i64 1, .int .i64 (rd l0 0 - 128), .bool false, .bool false] (0, 0) _ rfl (by repeat (first | exact heap_alloc_new _ _ | refine blk_alloc ?_ _)) Try.underlying71 rfl (by kernel_rfl)) rfl ?_
  exact ⟨rfl, by repeat (first | exact Below.refl _ _ | apply below_alloc)⟩
set_option maxHeartbeats 8000000 in
set_option maxRecDepth 100000 in
theorem rlp_reads.edge128 (c0 : Nat) (A0 : Option Addr) (l0 : List Int) (w : World) (hr0 : Kd.C (Kd.int .u8) w A0 l0.length l0) (hc0 : l0.length ≤ c0) (hl0 : 0 < l0.length) (hb0 : 0 ≤ rd l0 0) (hb1 : rd l0 0 < 256) (hk : 128 ≤ rd l0 0) (hk2 : rd l0 0 < 192) (hn : rd l0 0 - 128 = 55) :
    Calls Try.prog 37 #[.slice A0 l0.length c0] w fun e w' => e = .returned (.tuple #[.agg #[.bool false, .int .i64 1, .int .i64 (rd l0 0 - 128), .bool false, .bool false], .int .i64 0]) ∧ Below w.heap.size w w' := by
  have huH := Try.underlying71
  have hmf : ∀ (fn : Fn) (first cap : Array Value) (w : World), (Instr.makeFunc fn first cap).run Try.prog w = .ok (.func fn first cap) w := fun _ _ _ _ => rfl
  obtain ⟨ad, he, hx⟩ := Kd.at_int hr0 0 (by omega) (by omega)
  cases he
  rw [show ((0 : Int)).toNat = 0 from rfl, Addr.add_zero'] at hx
  have q0 : ((0 : Int) < (l0.length : Int)) = True := eq_true (by omega)
  have hw0 : wrap64 (rd l0 0) = rd l0 0 := by unfold wrap64; omega
  have hx1 : ∀ o : Obj, (w.alloc o).cell? ad = some (.int .u8 (rd l0 0)) := fun o => (World.cell?_alloc_lt _ _ _ (World.block_lt_of_cell? w _ hx)).trans hx
  have c1 : decide (rd l0 0 < 128) = false := decide_eq_false (by omega)
  have c2 : decide (192 ≤ rd l0 0) = false := decide_eq_false (by omega)
  have hw1 : wrap64 (rd l0 0 - 128) = rd l0 0 - 128 := by unfold wrap64; omega
  have hw2 : wrap64 (rd l0 0 - 128 - 55) = rd l0 0 - 128 - 55 := by unfold wrap64; omega
  have c3 : (rd l0 0 - 128 - 55 < 0) = False := eq_false (by omega)
  have c4 : ((rd l0 0 - 128 - 55) == 0) = true := beq_iff_eq.mpr (by omega)
  clear hr0 hn
  go_enter Try.func37, Try.ntmps37
  go_wp2_with go_in
  go_end0
  go_wp2
  (try simp only [Exit.inBlock, Exit.then])
  refine bodyPost_ret (results_ct rfl _ _ w.heap.size 71 #[.bool false, .int .i64 1, .int .i64 (rd l0 0 - 128), .bool false, .bool false] (0, 0) _ rfl (by repeat (first | exact heap_alloc_new _ _ | refine blk_alloc ?_ _)) Try.underlying71 rfl (by kernel_rfl)) rfl ?_
  exact ⟨rfl, by repeat (first | exact Below.refl _ _ | apply below_alloc)⟩
set_option maxHeartbeats 8000000 in
set_option maxRecDepth 100000 in
theorem rlp_reads.short128 (c0 : Nat) (A0 : Option Addr) (l0 : List Int) (w : World) (hr0 : Kd.C (Kd.int .u8) w A0 l0.length l0) (hc0 : l0.length ≤ c0) (hl0 : 0 < l0.length) (hb0 : 0 ≤ rd l0 0) (hb1 : rd l0 0 < 256) (hk : 128 ≤ rd l0 0) (hk2 : rd l0 0 < 192) (hn : 55 < rd l0 0 - 128) (hs : (l0.length : Int) < 1 + (rd l0 0 - 128 - 55)) :
    Calls Try.prog 37 #[.slice A0 l0.length c0] w fun e w' => e = .returned (.tuple #[.agg #[.bool false, .int .i64 1, .int .i64 (rd l0 0 - 128), .bool false, .bool false], .int .i64 41]) ∧ Below w.heap.size w w' := by
  have huH := Try.underlying71
  have hmf : ∀ (fn : Fn) (first cap : Array Value) (w : World), (Instr.makeFunc fn first cap).run Try.prog w = .ok (.func fn first cap) w := fun _ _ _ _ => rfl
  obtain ⟨ad, he, hx⟩ := Kd.at_int hr0 0 (by omega) (by omega)
  cases he
  rw [show ((0 : Int)).toNat = 0 from rfl, Addr.add_zero'] at hx
  have q0 : ((0 : Int) < (l0.length : Int)) = True := eq_true (by omega)
  have hw0 : wrap64 (rd l0 0) = rd l0 0 := by unfold wrap64; omega
  have hx1 : ∀ o : Obj, (w.alloc o).cell? ad = some (.int .u8 (rd l0 0)) := fun o => (World.cell?_alloc_lt _ _ _ (World.block_lt_of_cell? w _ hx)).trans hx
  have c1 : decide (rd l0 0 < 128) = false := decide_eq_false (by omega)
  have c2 : decide (192 ≤ rd l0 0) = false := decide_eq_false (by omega)
  have hw1 : wrap64 (rd l0 0 - 128) = rd l0 0 - 128 := by unfold wrap64; omega
  have hw2 : wrap64 (rd l0 0 - 128 - 55) = rd l0 0 - 128 - 55 := by unfold wrap64; omega
  have c3 : (rd l0 0 - 128 - 55 < 0) = False := eq_false (by omega)
  have c4 : ((rd l0 0 - 128 - 55) == 0) = false := beq_eq_false_iff_ne.mpr (by omega)
  have hw3 : wrap64 (1 + (rd l0 0 - 128 - 55)) = 1 + (rd l0 0 - 128 - 55) := by unfold wrap64; omega
  have c5 : decide ((l0.length : Int) < 1 + (rd l0 0 - 128 - 55)) = true := decide_eq_true hs
  clear hr0
  go_enter Try.func37, Try.ntmps37
  go_wp2_with go_in
  go_end0
  go_wp2
  (try simp only [Exit.inBlock, Exit.then])
  refine bodyPost_ret (results_ct rfl _ _ w.heap.size 71 #[.bool false, .int .i64 1, .int .i64 (rd l0 0 - 128), .bool false, .bool false] (0, 0) _ rfl (by repeat (first | exact heap_alloc_new _ _ | refine blk_alloc ?_ _)) Try.underlying71 rfl (by kernel_rfl)) rfl ?_
  exact ⟨rfl, by repeat (first | exact Below.refl _ _ | apply below_alloc)⟩
set_option maxHeartbeats 8000000 in
set_option maxRecDepth 100000 in
theorem rlp_reads.zero192 (c0 : Nat) (A0 : Option Addr) (l0 : List Int) (w : World) (hr0 : Kd.C (Kd.int .u8) w A0 l0.length l0) (hc0 : l0.length ≤ c0) (hl0 : 0 < l0.length) (hb0 : 0 ≤ rd l0 0) (hb1 : rd l0 0 < 256) (N : Int) (hk : 192 ≤ rd l0 0) (hn : 55 < rd l0 0 - 192) (hs : 1 + (rd l0 0 - 192 - 55) ≤ (l0.length : Int)) (hN : rlp_reads.num ((l0.drop 1).take (rd l0 0 - 192 - 55).toNat) 0 = N) (hNr : 0 ≤ N) (hf : rd l0 1 = 0) :
    Calls Try.prog 37 #[.slice A0 l0.length c0] w fun e w' => e = .returned (.tuple #[.agg #[.bool true, .int .i64 1, .int .i64 (rd l0 0 - 192), .bool false, .bool false], .int .i64 40]) ∧ Below w.heap.size w w' := by
  have huH := Try.underlying71
  have hmf : ∀ (fn : Fn) (first cap : Array Value) (w : World), (Instr.makeFunc fn first cap).run Try.prog w = .ok (.func fn first cap) w := fun _ _ _ _ => rfl
  obtain ⟨ad, he, hx⟩ := Kd.at_int hr0 0 (by omega) (by omega)
  cases he
  rw [show ((0 : Int)).toNat = 0 from rfl, Addr.add_zero'] at hx
  have q0 : ((0 : Int) < (l0.length : Int)) = True := eq_true (by omega)
  have hw0 : wrap64 (rd l0 0) = rd l0 0 := by unfold wrap64; omega
  have hx1 : ∀ o : Obj, (w.alloc o).cell? ad = some (.int .u8 (rd l0 0)) := fun o => (World.cell?_alloc_lt _ _ _ (World.block_lt_of_cell? w _ hx)).trans hx
  have c1 : decide (rd l0 0 < 128) = false := decide_eq_false (by omega)
  have c2 : decide (192 ≤ rd l0 0) = true := decide_eq_true (by omega)
  have hw1 : wrap64 (rd l0 0 - 192) = rd l0 0 - 192 := by unfold wrap64; omega
  have hw2 : wrap64 (rd l0 0 - 192 - 55) = rd l0 0 - 192 - 55 := by unfold wrap64; omega
  have c3 : ((rd l0 0 - 192 - 55) < 0) = False := eq_false (by omega)
  have c4 : ((rd l0 0 - 192 - 55) == 0) = false := beq_eq_false_iff_ne.mpr (by omega)
  have hw3 : wrap64 (1 + (rd l0 0 - 192 - 55)) = 1 + (rd l0 0 - 192 - 55) := by unfold wrap64; omega
  have c5 : decide ((l0.length : Int) < 1 + (rd l0 0 - 192 - 55)) = false := decide_eq_false (by omega)
  have HR := Aside0.mk hr0
  clear hr0
  obtain ⟨i0, hi0, _, hsz, _⟩ := info_parts info5
  obtain ⟨A7, hcut, hA, hC⟩ := print_mid_of (P := Try.prog) (Value.int .u8) 0 22 5 .i64 .i64 Try.underlying22 hi0 hsz (some ad) c0 l0 1 (1 + (rd l0 0 - 192 - 55)) (by omega) (by omega) (by omega) hc0
  have HP := Aside0.mk (Kd.C_of_reads (h1 := fun _ => rfl) (hA _ (Kd.reads_of_C HR.out)))
  clear hA
  have hlen : ((l0.take (1 + (rd l0 0 - 192 - 55)).toNat).drop (1 : Int).toNat).length = (rd l0 0 - 192 - 55).toNat := by simp only [List.length_drop, List.length_take, Int.toNat_one]; omega
  have hpart : (l0.take (1 + (rd l0 0 - 192 - 55)).toNat).drop (1 : Int).toNat = (l0.drop 1).take (rd l0 0 - 192 - 55).toNat := by rw [List.drop_take]; congr 1; omega
  obtain ⟨ad1, he1, hx2⟩ := Kd.at_int HR.out 1 (by omega) (by omega)
  obtain rfl : ad = ad1 := by injection he1
  have q1 : ((1 : Int) < (l0.length : Int)) = True := eq_true (by omega)
  clear he1
  have d1 : (rd l0 1 == 0) = true := beq_iff_eq.mpr hf
  clear hf
  go_enter Try.func37, Try.ntmps37
  go_wp2_with go_in
  go_end0
  go_wp2
  go_loopg [8, 10, 43] (rd l0 0 - 192 - 55).toNat (fun kq v8 v10 v43 w' => ∃ (n i : Int), v8 = .int .u64 n ∧ v43 = .int .i64 i ∧ Aside0 (0 ≤ i ∧ i + (kq : Int) = (rd l0 0 - 192 - 55)) ∧ Aside0 (rlp_reads.num (((l0.take (1 + (rd l0 0 - 192 - 55)).toNat).drop (1 : Int).toNat).drop i.toNat) n = N) ∧ w' = (((w.alloc (.cells #[.bool false, .int .i64 0, .int .i64 0, .bool false, .bool false] 71)).alloc (.cells #[.int .i64 (rd l0 0)] 3)).alloc (.cells #[.bool true, .int .i64 1, .int .i64 (rd l0 0 - 192), .bool false, .bool false] 71)).alloc (.cells #[.int .i64 (rd l0 0 - 192 - 55)] 3))
  case atStart => exact ⟨0, 0, rfl, rfl, ⟨by omega⟩, ⟨by rw [hpart]; exact hN⟩, rfl⟩
  case round =>
    obtain ⟨n, i, rfl, rfl, HI, HN, rfl⟩ := hrel
    have HBW := Aside0.mk (show Below w.heap.size w ((((w.alloc (.cells #[.bool false, .int .i64 0, .int .i64 0, .bool false, .bool false] 71)).alloc (.cells #[.int .i64 (rd l0 0)] 3)).alloc (.cells #[.bool true, .int .i64 1, .int .i64 (rd l0 0 - 192), .bool false, .bool false] 71)).alloc (.cells #[.int .i64 (rd l0 0 - 192 - 55)] 3)) by repeat (first | exact Below.refl _ _ | apply below_alloc))
    have hi0' := HI.out.1
    have hi1' := HI.out.2
    by_cases c6 : i < (rd l0 0 - 192 - 55)
    · have c6l : i < (((l0.take (1 + (rd l0 0 - 192 - 55)).toNat).drop (1 : Int).toNat).length : Int) := by rw [hlen]; omega
      have c6b : decide (i < (((l0.take (1 + (rd l0 0 - 192 - 55)).toNat).drop (1 : Int).toNat).length : Int)) = true := decide_eq_true c6l
      obtain ⟨ad7, he7, hx7⟩ := Kd.at_int HP.out i hi0' c6l
      cases he7
      replace hx7 := (HBW.out.cell (World.block_lt_of_cell? w _ hx7)).trans hx7
      have p7 := eq_true hi0'
      have q7 := eq_true c6l
      have hwi : wrap64 (i + 1) = i + 1 := by unfold wrap64; omega
      have hnext : rlp_reads.num (((l0.take (1 + (rd l0 0 - 192 - 55)).toNat).drop (1 : Int).toNat).drop (i + 1).toNat) (Go.bits .or .u64 (IntKind.u64.wrap (n * 256)) (IntKind.u64.wrap (rd ((l0.take (1 + (rd l0 0 - 192 - 55)).toNat).drop (1 : Int).toNat) i))) = N := by
        have hlt : i.toNat < ((l0.take (1 + (rd l0 0 - 192 - 55)).toNat).drop (1 : Int).toNat).length := by omega
        have h := HN.out
        rw [List.drop_eq_getElem_cons hlt] at h
        have e : (i + 1).toNat = i.toNat + 1 := by omega
        have e2 := rlp_reads.rd_at hlt
        rw [e, e2]
        exact h
      have HNX := Aside0.mk hnext
      clear hnext HN hN hpart
      go_wp2
      go_roundg (gk - 1)
      case measure => omega
      case rel => exact ⟨_, i + 1, rfl, by simp [hwi], ⟨by omega⟩, (by first | exact HNX | (refine ⟨?_⟩; rw [← List.drop_one]; exact HNX.out)), rfl⟩
    · have c6b : decide (i < (((l0.take (1 + (rd l0 0 - 192 - 55)).toNat).drop (1 : Int).toNat).length : Int)) = false := decide_eq_false (by rw [hlen]; omega)
      have hfin : N = n := by
        have h := HN.out
        rw [List.drop_eq_nil_of_le (by rw [hlen]; omega)] at h
        exact h.symm
      subst hfin
      replace hx2 := (HBW.out.cell (World.block_lt_of_cell? w _ hx2)).trans hx2
      simp only [show (1 : Int).toNat = 1 from rfl, Nat.reduceMul, Nat.reduceEqDiff, Go.Addr.add, ↓reduceIte] at hx2
      clear HN hN hpart
      go_wp2
      (try simp only [Exit.inBlock, Exit.then])
      refine bodyPost_ret (results_ct rfl _ _ w.heap.size 71 #[.bool true, .int .i64 1, .int .i64 (rd l0 0 - 192), .bool false, .bool false] (0, 0) _ rfl (by repeat (first | exact heap_alloc_new _ _ | refine blk_alloc ?_ _)) Try.underlying71 rfl (by kernel_rfl)) rfl ?_
      exact ⟨rfl, by repeat (first | exact Below.refl _ _ | apply below_alloc)⟩
set_option maxHeartbeats 8000000 in
set_option maxRecDepth 100000 in
theorem rlp_reads.few192 (c0 : Nat) (A0 : Option Addr) (l0 : List Int) (w : World) (hr0 : Kd.C (Kd.int .u8) w A0 l0.length l0) (hc0 : l0.length ≤ c0) (hl0 : 0 < l0.length) (hb0 : 0 ≤ rd l0 0) (hb1 : rd l0 0 < 256) (N : Int) (hk : 192 ≤ rd l0 0) (hn : 55 < rd l0 0 - 192) (hs : 1 + (rd l0 0 - 192 - 55) ≤ (l0.length : Int)) (hN : rlp_reads.num ((l0.drop 1).take (rd l0 0 - 192 - 55).toNat) 0 = N) (hNr : 0 ≤ N) (hf0 : ¬ rd l0 1 = 0) (hf : N ≤ 55) :
    Calls Try.prog 37 #[.slice A0 l0.length c0] w fun e w' => e = .returned (.tuple #[.agg #[.bool true, .int .i64 1, .int .i64 (rd l0 0 - 192), .bool false, .bool false], .int .i64 40]) ∧ Below w.heap.size w w' := by
  have huH := Try.underlying71
  have hmf : ∀ (fn : Fn) (first cap : Array Value) (w : World), (Instr.makeFunc fn first cap).run Try.prog w = .ok (.func fn first cap) w := fun _ _ _ _ => rfl
  obtain ⟨ad, he, hx⟩ := Kd.at_int hr0 0 (by omega) (by omega)
  cases he
  rw [show ((0 : Int)).toNat = 0 from rfl, Addr.add_zero'] at hx
  have q0 : ((0 : Int) < (l0.length : Int)) = True := eq_true (by omega)
  have hw0 : wrap64 (rd l0 0) = rd l0 0 := by unfold wrap64; omega
  have hx1 : ∀ o : Obj, (w.alloc o).cell? ad = some (.int .u8 (rd l0 0)) := fun o => (World.cell?_alloc_lt _ _ _ (World.block_lt_of_cell? w _ hx)).trans hx
  have c1 : decide (rd l0 0 < 128) = false := decide_eq_false (by omega)
  have c2 : decide (192 ≤ rd l0 0) = true := decide_eq_true (by omega)
  have hw1 : wrap64 (rd l0 0 - 192) = rd l0 0 - 192 := by unfold wrap64; omega
  have hw2 : wrap64 (rd l0 0 - 192 - 55) = rd l0 0 - 192 - 55 := by unfold wrap64; omega
  have c3 : ((rd l0 0 - 192 - 55) < 0) = False := eq_false (by omega)
  have c4 : ((rd l0 0 - 192 - 55) == 0) = false := beq_eq_false_iff_ne.mpr (by omega)
  have hw3 : wrap64 (1 + (rd l0 0 - 192 - 55)) = 1 + (rd l0 0 - 192 - 55) := by unfold wrap64; omega
  have c5 : decide ((l0.length : Int) < 1 + (rd l0 0 - 192 - 55)) = false := decide_eq_false (by omega)
  have HR := Aside0.mk hr0
  clear hr0
  obtain ⟨i0, hi0, _, hsz, _⟩ := info_parts info5
  obtain ⟨A7, hcut, hA, hC⟩ := print_mid_of (P := Try.prog) (Value.int .u8) 0 22 5 .i64 .i64 Try.underlying22 hi0 hsz (some ad) c0 l0 1 (1 + (rd l0 0 - 192 - 55)) (by omega) (by omega) (by omega) hc0
  have HP := Aside0.mk (Kd.C_of_reads (h1 := fun _ => rfl) (hA _ (Kd.reads_of_C HR.out)))
  clear hA
  have hlen : ((l0.take (1 + (rd l0 0 - 192 - 55)).toNat).drop (1 : Int).toNat).length = (rd l0 0 - 192 - 55).toNat := by simp only [List.length_drop, List.length_take, Int.toNat_one]; omega
  have hpart : (l0.take (1 + (rd l0 0 - 192 - 55)).toNat).drop (1 : Int).toNat = (l0.drop 1).take (rd l0 0 - 192 - 55).toNat := by rw [List.drop_take]; congr 1; omega
  obtain ⟨ad1, he1, hx2⟩ := Kd.at_int HR.out 1 (by omega) (by omega)
  obtain rfl : ad = ad1 := by injection he1
  have q1 : ((1 : Int) < (l0.length : Int)) = True := eq_true (by omega)
  clear he1
  have d1 : (rd l0 1 == 0) = false := beq_eq_false_iff_ne.mpr hf0
  have d2 : decide (N ≤ 55) = true := decide_eq_true hf
  clear hf hf0
  go_enter Try.func37, Try.ntmps37
  go_wp2_with go_in
  go_end0
  go_wp2
  go_loopg [8, 10, 43] (rd l0 0 - 192 - 55).toNat (fun kq v8 v10 v43 w' => ∃ (n i : Int), v8 = .int .u64 n ∧ v43 = .int .i64 i ∧ Aside0 (0 ≤ i ∧ i + (kq : Int) = (rd l0 0 - 192 - 55)) ∧ Aside0 (rlp_reads.num (((l0.take (1 + (rd l0 0 - 192 - 55)).toNat).drop (1 : Int).toNat).drop i.toNat) n = N) ∧ w' = (((w.alloc (.cells #[.bool false, .int .i64 0, .int .i64 0, .bool false, .bool false] 71)).alloc (.cells #[.int .i64 (rd l0 0)] 3)).alloc (.cells #[.bool true, .int .i64 1, .int .i64 (rd l0 0 - 192), .bool false, .bool false] 71)).alloc (.cells #[.int .i64 (rd l0 0 - 192 - 55)] 3))
  case atStart => exact ⟨0, 0, rfl, rfl, ⟨by omega⟩, ⟨by rw [hpart]; exact hN⟩, rfl⟩
  case round =>
    obtain ⟨n, i, rfl, rfl, HI, HN, rfl⟩ := hrel
    have HBW := Aside0.mk (show Below w.heap.size w ((((w.alloc (.cells #[.bool false, .int .i64 0, .int .i64 0, .bool false, .bool false] 71)).alloc (.cells #[.int .i64 (rd l0 0)] 3)).alloc (.cells #[.bool true, .int .i64 1, .int .i64 (rd l0 0 - 192), .bool false, .bool false] 71)).alloc (.cells #[.int .i64 (rd l0 0 - 192 - 55)] 3)) by repeat (first | exact Below.refl _ _ | apply below_alloc))
    have hi0' := HI.out.1
    have hi1' := HI.out.2
    by_cases c6 : i < (rd l0 0 - 192 - 55)
    · have c6l : i < (((l0.take (1 + (rd l0 0 - 192 - 55)).toNat).drop (1 : Int).toNat).length : Int) := by rw [hlen]; omega
      have c6b : decide (i < (((l0.take (1 + (rd l0 0 - 192 - 55)).toNat).drop (1 : Int).toNat).length : Int)) = true := decide_eq_true c6l
      obtain ⟨ad7, he7, hx7⟩ := Kd.at_int HP.out i hi0' c6l
      cases he7
      replace hx7 := (HBW.out.cell (World.block_lt_of_cell? w _ hx7)).trans hx7
      have p7 := eq_true hi0'
      have q7 := eq_true c6l
      have hwi : wrap64 (i + 1) = i + 1 := by unfold wrap64; omega
      have hnext : rlp_reads.num (((l0.take (1 + (rd l0 0 - 192 - 55)).toNat).drop (1 : Int).toNat).drop (i + 1).toNat) (Go.bits .or .u64 (IntKind.u64.wrap (n * 256)) (IntKind.u64.wrap (rd ((l0.take (1 + (rd l0 0 - 192 - 55)).toNat).drop (1 : Int).toNat) i))) = N := by
        have hlt : i.toNat < ((l0.take (1 + (rd l0 0 - 192 - 55)).toNat).drop (1 : Int).toNat).length := by omega
        have h := HN.out
        rw [List.drop_eq_getElem_cons hlt] at h
        have e : (i + 1).toNat = i.toNat + 1 := by omega
        have e2 := rlp_reads.rd_at hlt
        rw [e, e2]
        exact h
      have HNX := Aside0.mk hnext
      clear hnext HN hN hpart
      go_wp2
      go_roundg (gk - 1)
      case measure => omega
      case rel => exact ⟨_, i + 1, rfl, by simp [hwi], ⟨by omega⟩, (by first | exact HNX | (refine ⟨?_⟩; rw [← List.drop_one]; exact HNX.out)), rfl⟩
    · have c6b : decide (i < (((l0.take (1 + (rd l0 0 - 192 - 55)).toNat).drop (1 : Int).toNat).length : Int)) = false := decide_eq_false (by rw [hlen]; omega)
      have hfin : N = n := by
        have h := HN.out
        rw [List.drop_eq_nil_of_le (by rw [hlen]; omega)] at h
        exact h.symm
      subst hfin
      replace hx2 := (HBW.out.cell (World.block_lt_of_cell? w _ hx2)).trans hx2
      simp only [show (1 : Int).toNat = 1 from rfl, Nat.reduceMul, Nat.reduceEqDiff, Go.Addr.add, ↓reduceIte] at hx2
      clear HN hN hpart
      go_wp2
      (try simp only [Exit.inBlock, Exit.then])
      refine bodyPost_ret (results_ct rfl _ _ w.heap.size 71 #[.bool true, .int .i64 1, .int .i64 (rd l0 0 - 192), .bool false, .bool false] (0, 0) _ rfl (by repeat (first | exact heap_alloc_new _ _ | refine blk_alloc ?_ _)) Try.underlying71 rfl (by kernel_rfl)) rfl ?_
      exact ⟨rfl, by repeat (first | exact Below.refl _ _ | apply below_alloc)⟩
set_option maxHeartbeats 8000000 in
set_option maxRecDepth 100000 in
theorem rlp_reads.many192 (c0 : Nat) (A0 : Option Addr) (l0 : List Int) (w : World) (hr0 : Kd.C (Kd.int .u8) w A0 l0.length l0) (hc0 : l0.length ≤ c0) (hl0 : 0 < l0.length) (hb0 : 0 ≤ rd l0 0) (hb1 : rd l0 0 < 256) (N : Int) (hk : 192 ≤ rd l0 0) (hn : 55 < rd l0 0 - 192) (hs : 1 + (rd l0 0 - 192 - 55) ≤ (l0.length : Int)) (hN : rlp_reads.num ((l0.drop 1).take (rd l0 0 - 192 - 55).toNat) 0 = N) (hNr : 0 ≤ N) (hf0 : ¬ rd l0 1 = 0) (hf1 : ¬ N ≤ 55) (hf : N > 2147483648) :
    Calls Try.prog 37 #[.slice A0 l0.length c0] w fun e w' => e = .returned (.tuple #[.agg #[.bool true, .int .i64 1, .int .i64 (rd l0 0 - 192), .bool false, .bool false], .int .i64 40]) ∧ Below w.heap.size w w' := by
  have huH := Try.underlying71
  have hmf : ∀ (fn : Fn) (first cap : Array Value) (w : World), (Instr.makeFunc fn first cap).run Try.prog w = .ok (.func fn first cap) w := fun _ _ _ _ => rfl
  obtain ⟨ad, he, hx⟩ := Kd.at_int hr0 0 (by omega) (by omega)
  cases he
  rw [show ((0 : Int)).toNat = 0 from rfl, Addr.add_zero'] at hx
  have q0 : ((0 : Int) < (l0.length : Int)) = True := eq_true (by omega)
  have hw0 : wrap64 (rd l0 0) = rd l0 0 := by unfold wrap64; omega
  have hx1 : ∀ o : Obj, (w.alloc o).cell? ad = some (.int .u8 (rd l0 0)) := fun o => (World.cell?_alloc_lt _ _ _ (World.block_lt_of_cell? w _ hx)).trans hx
  have c1 : decide (rd l0 0 < 128) = false := decide_eq_false (by omega)
  have c2 : decide (192 ≤ rd l0 0) = true := decide_eq_true (by omega)
  have hw1 : wrap64 (rd l0 0 - 192) = rd l0 0 - 192 := by unfold wrap64; omega
  have hw2 : wrap64 (rd l0 0 - 192 - 55) = rd l0 0 - 192 - 55 := by unfold wrap64; omega
  have c3 : ((rd l0 0 - 192 - 55) < 0) = False := eq_false (by omega)
  have c4 : ((rd l0 0 - 192 - 55) == 0) = false := beq_eq_false_iff_ne.mpr (by omega)
  have hw3 : wrap64 (1 + (rd l0 0 - 192 - 55)) = 1 + (rd l0 0 - 192 - 55) := by unfold wrap64; omega
  have c5 : decide ((l0.length : Int) < 1 + (rd l0 0 - 192 - 55)) = false := decide_eq_false (by omega)
  have HR := Aside0.mk hr0
  clear hr0
  obtain ⟨i0, hi0, _, hsz, _⟩ := info_parts info5
  obtain ⟨A7, hcut, hA, hC⟩ := print_mid_of (P := Try.prog) (Value.int .u8) 0 22 5 .i64 .i64 Try.underlying22 hi0 hsz (some ad) c0 l0 1 (1 + (rd l0 0 - 192 - 55)) (by omega) (by omega) (by omega) hc0
  have HP := Aside0.mk (Kd.C_of_reads (h1 := fun _ => rfl) (hA _ (Kd.reads_of_C HR.out)))
  clear hA
  have hlen : ((l0.take (1 + (rd l0 0 - 192 - 55)).toNat).drop (1 : Int).toNat).length = (rd l0 0 - 192 - 55).toNat := by simp only [List.length_drop, List.length_take, Int.toNat_one]; omega
  have hpart : (l0.take (1 + (rd l0 0 - 192 - 55)).toNat).drop (1 : Int).toNat = (l0.drop 1).take (rd l0 0 - 192 - 55).toNat := by rw [List.drop_take]; congr 1; omega
  obtain ⟨ad1, he1, hx2⟩ := Kd.at_int HR.out 1 (by omega) (by omega)
  obtain rfl : ad = ad1 := by injection he1
  have q1 : ((1 : Int) < (l0.length : Int)) = True := eq_true (by omega)
  clear he1
  have d1 : (rd l0 1 == 0) = false := beq_eq_false_iff_ne.mpr hf0
  have d2 : decide (N ≤ 55) = false := decide_eq_false hf1
  have d3 : decide (2147483648 < N) = true := decide_eq_true hf
  clear hf hf0 hf1
  go_enter Try.func37, Try.ntmps37
  go_wp2_with go_in
  go_end0
  go_wp2
  go_loopg [8, 10, 43] (rd l0 0 - 192 - 55).toNat (fun kq v8 v10 v43 w' => ∃ (n i : Int), v8 = .int .u64 n ∧ v43 = .int .i64 i ∧ Aside0 (0 ≤ i ∧ i + (kq : Int) = (rd l0 0 - 192 - 55)) ∧ Aside0 (rlp_reads.num (((l0.take (1 + (rd l0 0 - 192 - 55)).toNat).drop (1 : Int).toNat).drop i.toNat) n = N) ∧ w' = (((w.alloc (.cells #[.bool false, .int .i64 0, .int .i64 0, .bool false, .bool false] 71)).alloc (.cells #[.int .i64 (rd l0 0)] 3)).alloc (.cells #[.bool true, .int .i64 1, .int .i64 (rd l0 0 - 192), .bool false, .bool false] 71)).alloc (.cells #[.int .i64 (rd l0 0 - 192 - 55)] 3))
  case atStart => exact ⟨0, 0, rfl, rfl, ⟨by omega⟩, ⟨by rw [hpart]; exact hN⟩, rfl⟩
  case round =>
    obtain ⟨n, i, rfl, rfl, HI, HN, rfl⟩ := hrel
    have HBW := Aside0.mk (show Below w.heap.size w ((((w.alloc (.cells #[.bool false, .int .i64 0, .int .i64 0, .bool false, .bool false] 71)).alloc (.cells #[.int .i64 (rd l0 0)] 3)).alloc (.cells #[.bool true, .int .i64 1, .int .i64 (rd l0 0 - 192), .bool false, .bool false] 71)).alloc (.cells #[.int .i64 (rd l0 0 - 192 - 55)] 3)) by repeat (first | exact Below.refl _ _ | apply below_alloc))
    have hi0' := HI.out.1
    have hi1' := HI.out.2
    by_cases c6 : i < (rd l0 0 - 192 - 55)
    · have c6l : i < (((l0.take (1 + (rd l0 0 - 192 - 55)).toNat).drop (1 : Int).toNat).length : Int) := by rw [hlen]; omega
      have c6b : decide (i < (((l0.take (1 + (rd l0 0 - 192 - 55)).toNat).drop (1 : Int).toNat).length : Int)) = true := decide_eq_true c6l
      obtain ⟨ad7, he7, hx7⟩ := Kd.at_int HP.out i hi0' c6l
      cases he7
      replace hx7 := (HBW.out.cell (World.block_lt_of_cell? w _ hx7)).trans hx7
      have p7 := eq_true hi0'
      have q7 := eq_true c6l
      have hwi : wrap64 (i + 1) = i + 1 := by unfold wrap64; omega
      have hnext : rlp_reads.num (((l0.take (1 + (rd l0 0 - 192 - 55)).toNat).drop (1 : Int).toNat).drop (i + 1).toNat) (Go.bits .or .u64 (IntKind.u64.wrap (n * 256)) (IntKind.u64.wrap (rd ((l0.take (1 + (rd l0 0 - 192 - 55)).toNat).drop (1 : Int).toNat) i))) = N := by
        have hlt : i.toNat < ((l0.take (1 + (rd l0 0 - 192 - 55)).toNat).drop (1 : Int).toNat).length := by omega
        have h := HN.out
        rw [List.drop_eq_getElem_cons hlt] at h
        have e : (i + 1).toNat = i.toNat + 1 := by omega
        have e2 := rlp_reads.rd_at hlt
        rw [e, e2]
        exact h
      have HNX := Aside0.mk hnext
      clear hnext HN hN hpart
      go_wp2
      go_roundg (gk - 1)
      case measure => omega
      case rel => exact ⟨_, i + 1, rfl, by simp [hwi], ⟨by omega⟩, (by first | exact HNX | (refine ⟨?_⟩; rw [← List.drop_one]; exact HNX.out)), rfl⟩
    · have c6b : decide (i < (((l0.take (1 + (rd l0 0 - 192 - 55)).toNat).drop (1 : Int).toNat).length : Int)) = false := decide_eq_false (by rw [hlen]; omega)
      have hfin : N = n := by
        have h := HN.out
        rw [List.drop_eq_nil_of_le (by rw [hlen]; omega)] at h
        exact h.symm
      subst hfin
      replace hx2 := (HBW.out.cell (World.block_lt_of_cell? w _ hx2)).trans hx2
      simp only [show (1 : Int).toNat = 1 from rfl, Nat.reduceMul, Nat.reduceEqDiff, Go.Addr.add, ↓reduceIte] at hx2
      clear HN hN hpart
      go_wp2
      (try simp only [Exit.inBlock, Exit.then])
      refine bodyPost_ret (results_ct rfl _ _ w.heap.size 71 #[.bool true, .int .i64 1, .int .i64 (rd l0 0 - 192), .bool false, .bool false] (0, 0) _ rfl (by repeat (first | exact heap_alloc_new _ _ | refine blk_alloc ?_ _)) Try.underlying71 rfl (by kernel_rfl)) rfl ?_
      exact ⟨rfl, by repeat (first | exact Below.refl _ _ | apply below_alloc)⟩
set_option maxHeartbeats 8000000 in
set_option maxRecDepth 100000 in
theorem rlp_reads.good192 (c0 : Nat) (A0 : Option Addr) (l0 : List Int) (w : World) (hr0 : Kd.C (Kd.int .u8) w A0 l0.length l0) (hc0 : l0.length ≤ c0) (hl0 : 0 < l0.length) (hb0 : 0 ≤ rd l0 0) (hb1 : rd l0 0 < 256) (N : Int) (hk : 192 ≤ rd l0 0) (hn : 55 < rd l0 0 - 192) (hs : 1 + (rd l0 0 - 192 - 55) ≤ (l0.length : Int)) (hN : rlp_reads.num ((l0.drop 1).take (rd l0 0 - 192 - 55).toNat) 0 = N) (hNr : 0 ≤ N) (hf0 : ¬ rd l0 1 = 0) (hf1 : ¬ N ≤ 55) (hf : ¬ N > 2147483648) :
    Calls Try.prog 37 #[.slice A0 l0.length c0] w fun e w' => e = .returned (.tuple #[.agg #[.bool true, .int .i64 (1 + (rd l0 0 - 192 - 55)), .int .i64 N, .bool false, .bool false], .int .i64 0]) ∧ Below w.heap.size w w' := by
  have huH := Try.underlying71
  have hmf : ∀ (fn : Fn) (first cap : Array Value) (w : World), (Instr.makeFunc fn first cap).run Try.prog w = .ok (.func fn first cap) w := fun _ _ _ _ => rfl
  obtain ⟨ad, he, hx⟩ := Kd.at_int hr0 0 (by omega) (by omega)
  cases he
  rw [show ((0 : Int)).toNat = 0 from rfl, Addr.add_zero'] at hx
  have q0 : ((0 : Int) < (l0.length : Int)) = True := eq_true (by omega)
  have hw0 : wrap64 (rd l0 0) = rd l0 0 := by unfold wrap64; omega
  have hx1 : ∀ o : Obj, (w.alloc o).cell? ad = some (.int .u8 (rd l0 0)) := fun o => (World.cell?_alloc_lt _ _ _ (World.block_lt_of_cell? w _ hx)).trans hx
  have c1 : decide (rd l0 0 < 128) = false := decide_eq_false (by omega)
  have c2 : decide (192 ≤ rd l0 0) = true := decide_eq_true (by omega)
  have hw1 : wrap64 (rd l0 0 - 192) = rd l0 0 - 192 := by unfold wrap64; omega
  have hw2 : wrap64 (rd l0 0 - 192 - 55) = rd l0 0 - 192 - 55 := by unfold wrap64; omega
  have c3 : ((rd l0 0 - 192 - 55) < 0) = False := eq_false (by omega)
  have c4 : ((rd l0 0 - 192 - 55) == 0) = false := beq_eq_false_iff_ne.mpr (by omega)
  have hw3 : wrap64 (1 + (rd l0 0 - 192 - 55)) = 1 + (rd l0 0 - 192 - 55) := by unfold wrap64; omega
  have c5 : decide ((l0.length : Int) < 1 + (rd l0 0 - 192 - 55)) = false := decide_eq_false (by omega)
  have HR := Aside0.mk hr0
  clear hr0
  obtain ⟨i0, hi0, _, hsz, _⟩ := info_parts info5
  obtain ⟨A7, hcut, hA, hC⟩ := print_mid_of (P := Try.prog) (Value.int .u8) 0 22 5 .i64 .i64 Try.underlying22 hi0 hsz (some ad) c0 l0 1 (1 + (rd l0 0 - 192 - 55)) (by omega) (by omega) (by omega) hc0
  have HP := Aside0.mk (Kd.C_of_reads (h1 := fun _ => rfl) (hA _ (Kd.reads_of_C HR.out)))
  clear hA
  have hlen : ((l0.take (1 + (rd l0 0 - 192 - 55)).toNat).drop (1 : Int).toNat).length = (rd l0 0 - 192 - 55).toNat := by simp only [List.length_drop, List.length_take, Int.toNat_one]; omega
  have hpart : (l0.take (1 + (rd l0 0 - 192 - 55)).toNat).drop (1 : Int).toNat = (l0.drop 1).take (rd l0 0 - 192 - 55).toNat := by rw [List.drop_take]; congr 1; omega
  obtain ⟨ad1, he1, hx2⟩ := Kd.at_int HR.out 1 (by omega) (by omega)
  obtain rfl : ad = ad1 := by injection he1
  have q1 : ((1 : Int) < (l0.length : Int)) = True := eq_true (by omega)
  clear he1
  have d1 : (rd l0 1 == 0) = false := beq_eq_false_iff_ne.mpr hf0
  have d2 : decide (N ≤ 55) = false := decide_eq_false hf1
  have d3 : decide (2147483648 < N) = false := decide_eq_false hf
  have hwn : wrap64 N = N := by unfold wrap64; omega
  clear hf hf0 hf1
  go_enter Try.func37, Try.ntmps37
  go_wp2_with go_in
  go_end0
  go_wp2
  go_loopg [8, 10, 43] (rd l0 0 - 192 - 55).toNat (fun kq v8 v10 v43 w' => ∃ (n i : Int), v8 = .int .u64 n ∧ v43 = .int .i64 i ∧ Aside0 (0 ≤ i ∧ i + (kq : Int) = (rd l0 0 - 192 - 55)) ∧ Aside0 (rlp_reads.num (((l0.take (1 + (rd l0 0 - 192 - 55)).toNat).drop (1 : Int).toNat).drop i.toNat) n = N) ∧ w' = (((w.alloc (.cells #[.bool false, .int .i64 0, .int .i64 0, .bool false, .bool false] 71)).alloc (.cells #[.int .i64 (rd l0 0)] 3)).alloc (.cells #[.bool true, .int .i64 1, .int .i64 (rd l0 0 - 192), .bool false, .bool false] 71)).alloc (.cells #[.int .i64 (rd l0 0 - 192 - 55)] 3))
  case atStart => exact ⟨0, 0, rfl, rfl, ⟨by omega⟩, ⟨by rw [hpart]; exact hN⟩, rfl⟩
  case round =>
    obtain ⟨n, i, rfl, rfl, HI, HN, rfl⟩ := hrel
    have HBW := Aside0.mk (show Below w.heap.size w ((((w.alloc (.cells #[.bool false, .int .i64 0, .int .i64 0, .bool false, .bool false] 71)).alloc (.cells #[.int .i64 (rd l0 0)] 3)).alloc (.cells #[.bool true, .int .i64 1, .int .i64 (rd l0 0 - 192), .bool false, .bool false] 71)).alloc (.cells #[.int .i64 (rd l0 0 - 192 - 55)] 3)) by repeat (first | exact Below.refl _ _ | apply below_alloc))
    have hi0' := HI.out.1
    have hi1' := HI.out.2
    by_cases c6 : i < (rd l0 0 - 192 - 55)
    · have c6l : i < (((l0.take (1 + (rd l0 0 - 192 - 55)).toNat).drop (1 : Int).toNat).length : Int) := by rw [hlen]; omega
      have c6b : decide (i < (((l0.take (1 + (rd l0 0 - 192 - 55)).toNat).drop (1 : Int).toNat).length : Int)) = true := decide_eq_true c6l
      obtain ⟨ad7, he7, hx7⟩ := Kd.at_int HP.out i hi0' c6l
      cases he7
      replace hx7 := (HBW.out.cell (World.block_lt_of_cell? w _ hx7)).trans hx7
      have p7 := eq_true hi0'
      have q7 := eq_true c6l
      have hwi : wrap64 (i + 1) = i + 1 := by unfold wrap64; omega
      have hnext : rlp_reads.num (((l0.take (1 + (rd l0 0 - 192 - 55)).toNat).drop (1 : Int).toNat).drop (i + 1).toNat) (Go.bits .or .u64 (IntKind.u64.wrap (n * 256)) (IntKind.u64.wrap (rd ((l0.take (1 + (rd l0 0 - 192 - 55)).toNat).drop (1 : Int).toNat) i))) = N := by
        have hlt : i.toNat < ((l0.take (1 + (rd l0 0 - 192 - 55)).toNat).drop (1 : Int).toNat).length := by omega
        have h := HN.out
        rw [List.drop_eq_getElem_cons hlt] at h
        have e : (i + 1).toNat = i.toNat + 1 := by omega
        have e2 := rlp_reads.rd_at hlt
        rw [e, e2]
        exact h
      have HNX := Aside0.mk hnext
      clear hnext HN hN hpart
      go_wp2
      go_roundg (gk - 1)
      case measure => omega
      case rel => exact ⟨_, i + 1, rfl, by simp [hwi], ⟨by omega⟩, (by first | exact HNX | (refine ⟨?_⟩; rw [← List.drop_one]; exact HNX.out)), rfl⟩
    · have c6b : decide (i < (((l0.take (1 + (rd l0 0 - 192 - 55)).toNat).drop (1 : Int).toNat).length : Int)) = false := decide_eq_false (by rw [hlen]; omega)
      have hfin : N = n := by
        have h := HN.out
        rw [List.drop_eq_nil_of_le (by rw [hlen]; omega)] at h
        exact h.symm
      subst hfin
      replace hx2 := (HBW.out.cell (World.block_lt_of_cell? w _ hx2)).trans hx2
      simp only [show (1 : Int).toNat = 1 from rfl, Nat.reduceMul, Nat.reduceEqDiff, Go.Addr.add, ↓reduceIte] at hx2
      clear HN hN hpart
      go_wp2
      (try simp only [Exit.inBlock, Exit.then])
      refine bodyPost_ret (results_ct rfl _ _ w.heap.size 71 #[.bool true, .int .i64 (1 + (rd l0 0 - 192 - 55)), .int .i64 N, .bool false, .bool false] (0, 0) _ rfl (by repeat (first | exact heap_alloc_new _ _ | refine blk_alloc ?_ _)) Try.underlying71 rfl (by kernel_rfl)) rfl ?_
      exact ⟨rfl, by repeat (first | exact Below.refl _ _ | apply below_alloc)⟩
set_option maxHeartbeats 8000000 in
set_option maxRecDepth 100000 in
theorem rlp_reads.zero128 (c0 : Nat) (A0 : Option Addr) (l0 : List Int) (w : World) (hr0 : Kd.C (Kd.int .u8) w A0 l0.length l0) (hc0 : l0.length ≤ c0) (hl0 : 0 < l0.length) (hb0 : 0 ≤ rd l0 0) (hb1 : rd l0 0 < 256) (N : Int) (hk : 128 ≤ rd l0 0) (hk2 : rd l0 0 < 192) (hn : 55 < rd l0 0 - 128) (hs : 1 + (rd l0 0 - 128 - 55) ≤ (l0.length : Int)) (hN : rlp_reads.num ((l0.drop 1).take (rd l0 0 - 128 - 55).toNat) 0 = N) (hNr : 0 ≤ N) (hf : rd l0 1 = 0) :
    Calls Try.prog 37 #[.slice A0 l0.length c0] w fun e w' => e = .returned (.tuple #[.agg #[.bool false, .int .i64 1, .int .i64 (rd l0 0 - 128), .bool false, .bool false], .int .i64 40]) ∧ Below w.heap.size w w' := by
  have huH := Try.underlying71
  have hmf : ∀ (fn : Fn) (first cap : Array Value) (w : World), (Instr.makeFunc fn first cap).run Try.prog w = .ok (.func fn first cap) w := fun _ _ _ _ => rfl
  obtain ⟨ad, he, hx⟩ := Kd.at_int hr0 0 (by omega) (by omega)
  cases he
  rw [show ((0 : Int)).toNat = 0 from rfl, Addr.add_zero'] at hx
  have q0 : ((0 : Int) < (l0.length : Int)) = True := eq_true (by omega)
  have hw0 : wrap64 (rd l0 0) = rd l0 0 := by unfold wrap64; omega
  have hx1 : ∀ o : Obj, (w.alloc o).cell? ad = some (.int .u8 (rd l0 0)) := fun o => (World.cell?_alloc_lt _ _ _ (World.block_lt_of_cell? w _ hx)).trans hx
  have c1 : decide (rd l0 0 < 128) = false := decide_eq_false (by omega)
  have c2 : decide (192 ≤ rd l0 0) = false := decide_eq_false (by omega)
  have hw1 : wrap64 (rd l0 0 - 128) = rd l0 0 - 128 := by unfold wrap64; omega
  have hw2 : wrap64 (rd l0 0 - 128 - 55) = rd l0 0 - 128 - 55 := by unfold wrap64; omega
  have c3 : ((rd l0 0 - 128 - 55) < 0) = False := eq_false (by omega)
  have c4 : ((rd l0 0 - 128 - 55) == 0) = false := beq_eq_false_iff_ne.mpr (by omega)
  have hw3 : wrap64 (1 + (rd l0 0 - 128 - 55)) = 1 + (rd l0 0 - 128 - 55) := by unfold wrap64; omega
  have c5 : decide ((l0.length : Int) < 1 + (rd l0 0 - 128 - 55)) = false := decide_eq_false (by omega)
  have HR := Aside0.mk hr0
  clear hr0
  obtain ⟨i0, hi0, _, hsz, _⟩ := info_parts info5
  obtain ⟨A7, hcut, hA, hC⟩ := print_mid_of (P := Try.prog) (Value.int .u8) 0 22 5 .i64 .i64 Try.underlying22 hi0 hsz (some ad) c0 l0 1 (1 + (rd l0 0 - 128 - 55)) (by omega) (by omega) (by omega) hc0
  have HP := Aside0.mk (Kd.C_of_reads (h1 := fun _ => rfl) (hA _ (Kd.reads_of_C HR.out)))
  clear hA
  have hlen : ((l0.take (1 + (rd l0 0 - 128 - 55)).toNat).drop (1 : Int).toNat).length = (rd l0 0 - 128 - 55).toNat := by simp only [List.length_drop, List.length_take, Int.toNat_one]; omega
  have hpart : (l0.take (1 + (rd l0 0 - 128 - 55)).toNat).drop (1 : Int).toNat = (l0.drop 1).take (rd l0 0 - 128 - 55).toNat := by rw [List.drop_take]; congr 1; omega
  obtain ⟨ad1, he1, hx2⟩ := Kd.at_int HR.out 1 (by omega) (by omega)
  obtain rfl : ad = ad1 := by injection he1
  have q1 : ((1 : Int) < (l0.length : Int)) = True := eq_true (by omega)
  clear he1
  have d1 : (rd l0 1 == 0) = true := beq_iff_eq.mpr hf
  clear hf
  go_enter Try.func37, Try.ntmps37
  go_wp2_with go_in
  go_end0
  go_wp2
  go_loopg [8, 10, 43] (rd l0 0 - 128 - 55).toNat (fun kq v8 v10 v43 w' => ∃ (n i : Int), v8 = .int .u64 n ∧ v43 = .int .i64 i ∧ Aside0 (0 ≤ i ∧ i + (kq : Int) = (rd l0 0 - 128 - 55)) ∧ Aside0 (rlp_reads.num (((l0.take (1 + (rd l0 0 - 128 - 55)).toNat).drop (1 : Int).toNat).drop i.toNat) n = N) ∧ w' = (((w.alloc (.cells #[.bool false, .int .i64 0, .int .i64 0, .bool false, .bool false] 71)).alloc (.cells #[.int .i64 (rd l0 0)] 3)).alloc (.cells #[.bool false, .int .i64 1, .int .i64 (rd l0 0 - 128), .bool false, .bool false] 71)).alloc (.cells #[.int .i64 (rd l0 0 - 128 - 55)] 3))
  case atStart => exact ⟨0, 0, rfl, rfl, ⟨by omega⟩, ⟨by rw [hpart]; exact hN⟩, rfl⟩
  case round =>
    obtain ⟨n, i, rfl, rfl, HI, HN, rfl⟩ := hrel
    have HBW := Aside0.mk (show Below w.heap.size w ((((w.alloc (.cells #[.bool false, .int .i64 0, .int .i64 0, .bool false, .bool false] 71)).alloc (.cells #[.int .i64 (rd l0 0)] 3)).alloc (.cells #[.bool false, .int .i64 1, .int .i64 (rd l0 0 - 128), .bool false, .bool false] 71)).alloc (.cells #[.int .i64 (rd l0 0 - 128 - 55)] 3)) by repeat (first | exact Below.refl _ _ | apply below_alloc))
    have hi0' := HI.out.1
    have hi1' := HI.out.2
    by_cases c6 : i < (rd l0 0 - 128 - 55)
    · have c6l : i < (((l0.take (1 + (rd l0 0 - 128 - 55)).toNat).drop (1 : Int).toNat).length : Int) := by rw [hlen]; omega
      have c6b : decide (i < (((l0.take (1 + (rd l0 0 - 128 - 55)).toNat).drop (1 : Int).toNat).length : Int)) = true := decide_eq_true c6l
      obtain ⟨ad7, he7, hx7⟩ := Kd.at_int HP.out i hi0' c6l
      cases he7
      replace hx7 := (HBW.out.cell (World.block_lt_of_cell? w _ hx7)).trans hx7
      have p7 := eq_true hi0'
      have q7 := eq_true c6l
      have hwi : wrap64 (i + 1) = i + 1 := by unfold wrap64; omega
      have hnext : rlp_reads.num (((l0.take (1 + (rd l0 0 - 128 - 55)).toNat).drop (1 : Int).toNat).drop (i + 1).toNat) (Go.bits .or .u64 (IntKind.u64.wrap (n * 256)) (IntKind.u64.wrap (rd ((l0.take (1 + (rd l0 0 - 128 - 55)).toNat).drop (1 : Int).toNat) i))) = N := by
        have hlt : i.toNat < ((l0.take (1 + (rd l0 0 - 128 - 55)).toNat).drop (1 : Int).toNat).length := by omega
        have h := HN.out
        rw [List.drop_eq_getElem_cons hlt] at h
        have e : (i + 1).toNat = i.toNat + 1 := by omega
        have e2 := rlp_reads.rd_at hlt
        rw [e, e2]
        exact h
      have HNX := Aside0.mk hnext
      clear hnext HN hN hpart
      go_wp2
      go_roundg (gk - 1)
      case measure => omega
      case rel => exact ⟨_, i + 1, rfl, by simp [hwi], ⟨by omega⟩, (by first | exact HNX | (refine ⟨?_⟩; rw [← List.drop_one]; exact HNX.out)), rfl⟩
    · have c6b : decide (i < (((l0.take (1 + (rd l0 0 - 128 - 55)).toNat).drop (1 : Int).toNat).length : Int)) = false := decide_eq_false (by rw [hlen]; omega)
      have hfin : N = n := by
        have h := HN.out
        rw [List.drop_eq_nil_of_le (by rw [hlen]; omega)] at h
        exact h.symm
      subst hfin
      replace hx2 := (HBW.out.cell (World.block_lt_of_cell? w _ hx2)).trans hx2
      simp only [show (1 : Int).toNat = 1 from rfl, Nat.reduceMul, Nat.reduceEqDiff, Go.Addr.add, ↓reduceIte] at hx2
      clear HN hN hpart
      go_wp2
      (try simp only [Exit.inBlock, Exit.then])
      refine bodyPost_ret (results_ct rfl _ _ w.heap.size 71 #[.bool false, .int .i64 1, .int .i64 (rd l0 0 - 128), .bool false, .bool false] (0, 0) _ rfl (by repeat (first | exact heap_alloc_new _ _ | refine blk_alloc ?_ _)) Try.underlying71 rfl (by kernel_rfl)) rfl ?_
      exact ⟨rfl, by repeat (first | exact Below.refl _ _ | apply below_alloc)⟩
set_option maxHeartbeats 8000000 in
set_option maxRecDepth 100000 in
theorem rlp_reads.few128 (c0 : Nat) (A0 : Option Addr) (l0 : List Int) (w : World) (hr0 : Kd.C (Kd.int .u8) w A0 l0.length l0) (hc0 : l0.length ≤ c0) (hl0 : 0 < l0.length) (hb0 : 0 ≤ rd l0 0) (hb1 : rd l0 0 < 256) (N : Int) (hk : 128 ≤ rd l0 0) (hk2 : rd l0 0 < 192) (hn : 55 < rd l0 0 - 128) (hs : 1 + (rd l0 0 - 128 - 55) ≤ (l0.length : Int)) (hN : rlp_reads.num ((l0.drop 1).take (rd l0 0 - 128 - 55).toNat) 0 = N) (hNr : 0 ≤ N) (hf0 : ¬ rd l0 1 = 0) (hf : N ≤ 55) :
    Calls Try.prog 37 #[.slice A0 l0.length c0] w fun e w' => e = .returned (.tuple #[.agg #[.bool false, .int .i64 1, .int .i64 (rd l0 0 - 128), .bool false, .bool false], .int .i64 40]) ∧ Below w.heap.size w w' := by
  have huH := Try.underlying71
  have hmf : ∀ (fn : Fn) (first cap : Array Value) (w : World), (Instr.makeFunc fn first cap).run Try.prog w = .ok (.func fn first cap) w := fun _ _ _ _ => rfl
  obtain ⟨ad, he, hx⟩ := Kd.at_int hr0 0 (by omega) (by omega)
  cases he
  rw [show ((0 : Int)).toNat = 0 from rfl, Addr.add_zero'] at hx
  have q0 : ((0 : Int) < (l0.length : Int)) = True := eq_true (by omega)
  have hw0 : wrap64 (rd l0 0) = rd l0 0 := by unfold wrap64; omega
  have hx1 : ∀ o : Obj, (w.alloc o).cell? ad = some (.int .u8 (rd l0 0)) := fun o => (World.cell?_alloc_lt _ _ _ (World.block_lt_of_cell? w _ hx)).trans hx
  have c1 : decide (rd l0 0 < 128) = false := decide_eq_false (by omega)
  have c2 : decide (192 ≤ rd l0 0) = false := decide_eq_false (by omega)
  have hw1 : wrap64 (rd l0 0 - 128) = rd l0 0 - 128 := by unfold wrap64; omega
  have hw2 : wrap64 (rd l0 0 - 128 - 55) = rd l0 0 - 128 - 55 := by unfold wrap64; omega
  have c3 : ((rd l0 0 - 128 - 55) < 0) = False := eq_false (by omega)
  have c4 : ((rd l0 0 - 128 - 55) == 0) = false := beq_eq_false_iff_ne.mpr (by omega)
  have hw3 : wrap64 (1 + (rd l0 0 - 128 - 55)) = 1 + (rd l0 0 - 128 - 55) := by unfold wrap64; omega
  have c5 : decide ((l0.length : Int) < 1 + (rd l0 0 - 128 - 55)) = false := decide_eq_false (by omega)
  have HR := Aside0.mk hr0
  clear hr0
  obtain ⟨i0, hi0, _, hsz, _⟩ := info_parts info5
  obtain ⟨A7, hcut, hA, hC⟩ := print_mid_of (P := Try.prog) (Value.int .u8) 0 22 5 .i64 .i64 Try.underlying22 hi0 hsz (some ad) c0 l0 1 (1 + (rd l0 0 - 128 - 55)) (by omega) (by omega) (by omega) hc0
  have HP := Aside0.mk (Kd.C_of_reads (h1 := fun _ => rfl) (hA _ (Kd.reads_of_C HR.out)))
  clear hA
  have hlen : ((l0.take (1 + (rd l0 0 - 128 - 55)).toNat).drop (1 : Int).toNat).length = (rd l0 0 - 128 - 55).toNat := by simp only [List.length_drop, List.length_take, Int.toNat_one]; omega
  have hpart : (l0.take (1 + (rd l0 0 - 128 - 55)).toNat).drop (1 : Int).toNat = (l0.drop 1).take (rd l0 0 - 128 - 55).toNat := by rw [List.drop_take]; congr 1; omega
  obtain ⟨ad1, he1, hx2⟩ := Kd.at_int HR.out 1 (by omega) (by omega)
  obtain rfl : ad = ad1 := by injection he1
  have q1 : ((1 : Int) < (l0.length : Int)) = True := eq_true (by omega)
  clear he1
  have d1 : (rd l0 1 == 0) = false := beq_eq_false_iff_ne.mpr hf0
  have d2 : decide (N ≤ 55) = true := decide_eq_true hf
  clear hf hf0
  go_enter Try.func37, Try.ntmps37
  go_wp2_with go_in
  go_end0
  go_wp2
  go_loopg [8, 10, 43] (rd l0 0 - 128 - 55).toNat (fun kq v8 v10 v43 w' => ∃ (n i : Int), v8 = .int .u64 n ∧ v43 = .int .i64 i ∧ Aside0 (0 ≤ i ∧ i + (kq : Int) = (rd l0 0 - 128 - 55)) ∧ Aside0 (rlp_reads.num (((l0.take (1 + (rd l0 0 - 128 - 55)).toNat).drop (1 : Int).toNat).drop i.toNat) n = N) ∧ w' = (((w.alloc (.cells #[.bool false, .int .i64 0, .int .i64 0, .bool false, .bool false] 71)).alloc (.cells #[.int .i64 (rd l0 0)] 3)).alloc (.cells #[.bool false, .int .i64 1, .int .i64 (rd l0 0 - 128), .bool false, .bool false] 71)).alloc (.cells #[.int .i64 (rd l0 0 - 128 - 55)] 3))
  case atStart => exact ⟨0, 0, rfl, rfl, ⟨by omega⟩, ⟨by rw [hpart]; exact hN⟩, rfl⟩
  case round =>
    obtain ⟨n, i, rfl, rfl, HI, HN, rfl⟩ := hrel
    have HBW := Aside0.mk (show Below w.heap.size w ((((w.alloc (.cells #[.bool false, .int .i64 0, .int .i64 0, .bool false, .bool false] 71)).alloc (.cells #[.int .i64 (rd l0 0)] 3)).alloc (.cells #[.bool false, .int .i64 1, .int .i64 (rd l0 0 - 128), .bool false, .bool false] 71)).alloc (.cells #[.int .i64 (rd l0 0 - 128 - 55)] 3)) by repeat (first | exact Below.refl _ _ | apply below_alloc))
    have hi0' := HI.out.1
    have hi1' := HI.out.2
    by_cases c6 : i < (rd l0 0 - 128 - 55)
    · have c6l : i < (((l0.take (1 + (rd l0 0 - 128 - 55)).toNat).drop (1 : Int).toNat).length : Int) := by rw [hlen]; omega
      have c6b : decide (i < (((l0.take (1 + (rd l0 0 - 128 - 55)).toNat).drop (1 : Int).toNat).length : Int)) = true := decide_eq_true c6l
      obtain ⟨ad7, he7, hx7⟩ := Kd.at_int HP.out i hi0' c6l
      cases he7
      replace hx7 := (HBW.out.cell (World.block_lt_of_cell? w _ hx7)).trans hx7
      have p7 := eq_true hi0'
      have q7 := eq_true c6l
      have hwi : wrap64 (i + 1) = i + 1 := by unfold wrap64; omega
      have hnext : rlp_reads.num (((l0.take (1 + (rd l0 0 - 128 - 55)).toNat).drop (1 : Int).toNat).drop (i + 1).toNat) (Go.bits .or .u64 (IntKind.u64.wrap (n * 256)) (IntKind.u64.wrap (rd ((l0.take (1 + (rd l0 0 - 128 - 55)).toNat).drop (1 : Int).toNat) i))) = N := by
        have hlt : i.toNat < ((l0.take (1 + (rd l0 0 - 128 - 55)).toNat).drop (1 : Int).toNat).length := by omega
        have h := HN.out
        rw [List.drop_eq_getElem_cons hlt] at h
        have e : (i + 1).toNat = i.toNat + 1 := by omega
        have e2 := rlp_reads.rd_at hlt
        rw [e, e2]
        exact h
      have HNX := Aside0.mk hnext
      clear hnext HN hN hpart
      go_wp2
      go_roundg (gk - 1)
      case measure => omega
      case rel => exact ⟨_, i + 1, rfl, by simp [hwi], ⟨by omega⟩, (by first | exact HNX | (refine ⟨?_⟩; rw [← List.drop_one]; exact HNX.out)), rfl⟩
    · have c6b : decide (i < (((l0.take (1 + (rd l0 0 - 128 - 55)).toNat).drop (1 : Int).toNat).length : Int)) = false := decide_eq_false (by rw [hlen]; omega)
      have hfin : N = n := by
        have h := HN.out
        rw [List.drop_eq_nil_of_le (by rw [hlen]; omega)] at h
        exact h.symm
      subst hfin
      replace hx2 := (HBW.out.cell (World.block_lt_of_cell? w _ hx2)).trans hx2
      simp only [show (1 : Int).toNat = 1 from rfl, Nat.reduceMul, Nat.reduceEqDiff, Go.Addr.add, ↓reduceIte] at hx2
      clear HN hN hpart
      go_wp2
      (try simp only [Exit.inBlock, Exit.then])
      refine bodyPost_ret (results_ct rfl _ _ w.heap.size 71 #[.bool false, .int .i64 1, .int .i64 (rd l0 0 - 128), .bool false, .bool false] (0, 0) _ rfl (by repeat (first | exact heap_alloc_new _ _ | refine blk_alloc ?_ _)) Try.underlying71 rfl (by kernel_rfl)) rfl ?_
      exact ⟨rfl, by repeat (first | exact Below.refl _ _ | apply below_alloc)⟩
set_option maxHeartbeats 8000000 in
set_option maxRecDepth 100000 in
theorem rlp_reads.many128 (c0 : Nat) (A0 : Option Addr) (l0 : List Int) (w : World) (hr0 : Kd.C (Kd.int .u8) w A0 l0.length l0) (hc0 : l0.length ≤ c0) (hl0 : 0 < l0.length) (hb0 : 0 ≤ rd l0 0) (hb1 : rd l0 0 < 256) (N : Int) (hk : 128 ≤ rd l0 0) (hk2 : rd l0 0 < 192) (hn : 55 < rd l0 0 - 128) (hs : 1 + (rd l0 0 - 128 - 55) ≤ (l0.length : Int)) (hN : rlp_reads.num ((l0.drop 1).take (rd l0 0 - 128 - 55).toNat) 0 = N) (hNr : 0 ≤ N) (hf0 : ¬ rd l0 1 = 0) (hf1 : ¬ N ≤ 55) (hf : N > 2147483648) :
    Calls Try.prog 37 #[.slice A0 l0.length c0] w fun e w' => e = .returned (.tuple #[.agg #[.bool false, .int .i64 1, .int .i64 (rd l0 0 - 128), .bool false, .bool false], .int .i64 40]) ∧ Below w.heap.size w w' := by
  have huH := Try.underlying71
  have hmf : ∀ (fn : Fn) (first cap : Array Value) (w : World), (Instr.makeFunc fn first cap).run Try.prog w = .ok (.func fn first cap) w := fun _ _ _ _ => rfl
  obtain ⟨ad, he, hx⟩ := Kd.at_int hr0 0 (by omega) (by omega)
  cases he
  rw [show ((0 : Int)).toNat = 0 from rfl, Addr.add_zero'] at hx
  have q0 : ((0 : Int) < (l0.length : Int)) = True := eq_true (by omega)
  have hw0 : wrap64 (rd l0 0) = rd l0 0 := by unfold wrap64; omega
  have hx1 : ∀ o : Obj, (w.alloc o).cell? ad = some (.int .u8 (rd l0 0)) := fun o => (World.cell?_alloc_lt _ _ _ (World.block_lt_of_cell? w _ hx)).trans hx
  have c1 : decide (rd l0 0 < 128) = false := decide_eq_false (by omega)
  have c2 : decide (192 ≤ rd l0 0) = false := decide_eq_false (by omega)
  have hw1 : wrap64 (rd l0 0 - 128) = rd l0 0 - 128 := by unfold wrap64; omega
  have hw2 : wrap64 (rd l0 0 - 128 - 55) = rd l0 0 - 128 - 55 := by unfold wrap64; omega
  have c3 : ((rd l0 0 - 128 - 55) < 0) = False := eq_false (by omega)
  have c4 : ((rd l0 0 - 128 - 55) == 0) = false := beq_eq_false_iff_ne.mpr (by omega)
  have hw3 : wrap64 (1 + (rd l0 0 - 128 - 55)) = 1 + (rd l0 0 - 128 - 55) := by unfold wrap64; omega
  have c5 : decide ((l0.length : Int) < 1 + (rd l0 0 - 128 - 55)) = false := decide_eq_false (by omega)
  have HR := Aside0.mk hr0
  clear hr0
  obtain ⟨i0, hi0, _, hsz, _⟩ := info_parts info5
  obtain ⟨A7, hcut, hA, hC⟩ := print_mid_of (P := Try.prog) (Value.int .u8) 0 22 5 .i64 .i64 Try.underlying22 hi0 hsz (some ad) c0 l0 1 (1 + (rd l0 0 - 128 - 55)) (by omega) (by omega) (by omega) hc0
  have HP := Aside0.mk (Kd.C_of_reads (h1 := fun _ => rfl) (hA _ (Kd.reads_of_C HR.out)))
  clear hA
  have hlen : ((l0.take (1 + (rd l0 0 - 128 - 55)).toNat).drop (1 : Int).toNat).length = (rd l0 0 - 128 - 55).toNat := by simp only [List.length_drop, List.length_take, Int.toNat_one]; omega
  have hpart : (l0.take (1 + (rd l0 0 - 128 - 55)).toNat).drop (1 : Int).toNat = (l0.drop 1).take (rd l0 0 - 128 - 55).toNat := by rw [List.drop_take]; congr 1; omega
  obtain ⟨ad1, he1, hx2⟩ := Kd.at_int HR.out 1 (by omega) (by omega)
  obtain rfl : ad = ad1 := by injection he1
  have q1 : ((1 : Int) < (l0.length : Int)) = True := eq_true (by omega)
  clear he1
  have d1 : (rd l0 1 == 0) = false := beq_eq_false_iff_ne.mpr hf0
  have d2 : decide (N ≤ 55) = false := decide_eq_false hf1
  have d3 : decide (2147483648 < N) = true := decide_eq_true hf
  clear hf hf0 hf1
  go_enter Try.func37, Try.ntmps37
  go_wp2_with go_in
  go_end0
  go_wp2
  go_loopg [8, 10, 43] (rd l0 0 - 128 - 55).toNat (fun kq v8 v10 v43 w' => ∃ (n i : Int), v8 = .int .u64 n ∧ v43 = .int .i64 i ∧ Aside0 (0 ≤ i ∧ i + (kq : Int) = (rd l0 0 - 128 - 55)) ∧ Aside0 (rlp_reads.num (((l0.take (1 + (rd l0 0 - 128 - 55)).toNat).drop (1 : Int).toNat).drop i.toNat) n = N) ∧ w' = (((w.alloc (.cells #[.bool false, .int .i64 0, .int .i64 0, .bool false, .bool false] 71)).alloc (.cells #[.int .i64 (rd l0 0)] 3)).alloc (.cells #[.bool false, .int .i64 1, .int .i64 (rd l0 0 - 128), .bool false, .bool false] 71)).alloc (.cells #[.int .i64 (rd l0 0 - 128 - 55)] 3))
  case atStart => exact ⟨0, 0, rfl, rfl, ⟨by omega⟩, ⟨by rw [hpart]; exact hN⟩, rfl⟩
  case round =>
    obtain ⟨n, i, rfl, rfl, HI, HN, rfl⟩ := hrel
    have HBW := Aside0.mk (show Below w.heap.size w ((((w.alloc (.cells #[.bool false, .int .i64 0, .int .i64 0, .bool false, .bool false] 71)).alloc (.cells #[.int .i64 (rd l0 0)] 3)).alloc (.cells #[.bool false, .int .i64 1, .int .i64 (rd l0 0 - 128), .bool false, .bool false] 71)).alloc (.cells #[.int .i64 (rd l0 0 - 128 - 55)] 3)) by repeat (first | exact Below.refl _ _ | apply below_alloc))
    have hi0' := HI.out.1
    have hi1' := HI.out.2
    by_cases c6 : i < (rd l0 0 - 128 - 55)
    · have c6l : i < (((l0.take (1 + (rd l0 0 - 128 - 55)).toNat).drop (1 : Int).toNat).length : Int) := by rw [hlen]; omega
      have c6b : decide (i < (((l0.take (1 + (rd l0 0 - 128 - 55)).toNat).drop (1 : Int).toNat).length : Int)) = true := decide_eq_true c6l
      obtain ⟨ad7, he7, hx7⟩ := Kd.at_int HP.out i hi0' c6l
      cases he7
      replace hx7 := (HBW.out.cell (World.block_lt_of_cell? w _ hx7)).trans hx7
      have p7 := eq_true hi0'
      have q7 := eq_true c6l
      have hwi : wrap64 (i + 1) = i + 1 := by unfold wrap64; omega
      have hnext : rlp_reads.num (((l0.take (1 + (rd l0 0 - 128 - 55)).toNat).drop (1 : Int).toNat).drop (i + 1).toNat) (Go.bits .or .u64 (IntKind.u64.wrap (n * 256)) (IntKind.u64.wrap (rd ((l0.take (1 + (rd l0 0 - 128 - 55)).toNat).drop (1 : Int).toNat) i))) = N := by
        have hlt : i.toNat < ((l0.take (1 + (rd l0 0 - 128 - 55)).toNat).drop (1 : Int).toNat).length := by omega
        have h := HN.out
        rw [List.drop_eq_getElem_cons hlt] at h
        have e : (i + 1).toNat = i.toNat + 1 := by omega
        have e2 := rlp_reads.rd_at hlt
        rw [e, e2]
        exact h
      have HNX := Aside0.mk hnext
      clear hnext HN hN hpart
      go_wp2
      go_roundg (gk - 1)
      case measure => omega
      case rel => exact ⟨_, i + 1, rfl, by simp [hwi], ⟨by omega⟩, (by first | exact HNX | (refine ⟨?_⟩; rw [← List.drop_one]; exact HNX.out)), rfl⟩
    · have c6b : decide (i < (((l0.take (1 + (rd l0 0 - 128 - 55)).toNat).drop (1 : Int).toNat).length : Int)) = false := decide_eq_false (by rw [hlen]; omega)
      have hfin : N = n := by
        have h := HN.out
        rw [List.drop_eq_nil_of_le (by rw [hlen]; omega)] at h
        exact h.symm
      subst hfin
      replace hx2 := (HBW.out.cell (World.block_lt_of_cell? w _ hx2)).trans hx2
      simp only [show (1 : Int).toNat = 1 from rfl, Nat.reduceMul, Nat.reduceEqDiff, Go.Addr.add, ↓reduceIte] at hx2
      clear HN hN hpart
      go_wp2
      (try simp only [Exit.inBlock, Exit.then])
      refine bodyPost_ret (results_ct rfl _ _ w.heap.size 71 #[.bool false, .int .i64 1, .int .i64 (rd l0 0 - 128), .bool false, .bool false] (0, 0) _ rfl (by repeat (first | exact heap_alloc_new _ _ | refine blk_alloc ?_ _)) Try.underlying71 rfl (by kernel_rfl)) rfl ?_
      exact ⟨rfl, by repeat (first | exact Below.refl _ _ | apply below_alloc)⟩
set_option maxHeartbeats 8000000 in
set_option maxRecDepth 100000 in
theorem rlp_reads.good128 (c0 : Nat) (A0 : Option Addr) (l0 : List Int) (w : World) (hr0 : Kd.C (Kd.int .u8) w A0 l0.length l0) (hc0 : l0.length ≤ c0) (hl0 : 0 < l0.length) (hb0 : 0 ≤ rd l0 0) (hb1 : rd l0 0 < 256) (N : Int) (hk : 128 ≤ rd l0 0) (hk2 : rd l0 0 < 192) (hn : 55 < rd l0 0 - 128) (hs : 1 + (rd l0 0 - 128 - 55) ≤ (l0.length : Int)) (hN : rlp_reads.num ((l0.drop 1).take (rd l0 0 - 128 - 55).toNat) 0 = N) (hNr : 0 ≤ N) (hf0 : ¬ rd l0 1 = 0) (hf1 : ¬ N ≤ 55) (hf : ¬ N > 2147483648) :
    Calls Try.prog 37 #[.slice A0 l0.length c0] w fun e w' => e = .returned (.tuple #[.agg #[.bool false, .int .i64 (1 + (rd l0 0 - 128 - 55)), .int .i64 N, .bool false, .bool false], .int .i64 0]) ∧ Below w.heap.size w w' := by
  have huH := Try.underlying71
  have hmf : ∀ (fn : Fn) (first cap : Array Value) (w : World), (Instr.makeFunc fn first cap).run Try.prog w = .ok (.func fn first cap) w := fun _ _ _ _ => rfl
  obtain ⟨ad, he, hx⟩ := Kd.at_int hr0 0 (by omega) (by omega)
  cases he
  rw [show ((0 : Int)).toNat = 0 from rfl, Addr.add_zero'] at hx
  have q0 : ((0 : Int) < (l0.length : Int)) = True := eq_true (by omega)
  have hw0 : wrap64 (rd l0 0) = rd l0 0 := by unfold wrap64; omega
  have hx1 : ∀ o : Obj, (w.alloc o).cell? ad = some (.int .u8 (rd l0 0)) := fun o => (World.cell?_alloc_lt _ _ _ (World.block_lt_of_cell? w _ hx)).trans hx
  have c1 : decide (rd l0 0 < 128) = false := decide_eq_false (by omega)
  have c2 : decide (192 ≤ rd l0 0) = false := decide_eq_false (by omega)
  have hw1 : wrap64 (rd l0 0 - 128) = rd l0 0 - 128 := by unfold wrap64; omega
  have hw2 : wrap64 (rd l0 0 - 128 - 55) = rd l0 0 - 128 - 55 := by unfold wrap64; omega
  have c3 : ((rd l0 0 - 128 - 55) < 0) = False := eq_false (by omega)
  have c4 : ((rd l0 0 - 128 - 55) == 0) = false := beq_eq_false_iff_ne.mpr (by omega)
  have hw3 : wrap64 (1 + (rd l0 0 - 128 - 55)) = 1 + (rd l0 0 - 128 - 55) := by unfold wrap64; omega
  have c5 : decide ((l0.length : Int) < 1 + (rd l0 0 - 128 - 55)) = false := decide_eq_false (by omega)
  have HR := Aside0.mk hr0
  clear hr0
  obtain ⟨i0, hi0, _, hsz, _⟩ := info_parts info5
  obtain ⟨A7, hcut, hA, hC⟩ := print_mid_of (P := Try.prog) (Value.int .u8) 0 22 5 .i64 .i64 Try.underlying22 hi0 hsz (some ad) c0 l0 1 (1 + (rd l0 0 - 128 - 55)) (by omega) (by omega) (by omega) hc0
  have HP := Aside0.mk (Kd.C_of_reads (h1 := fun _ => rfl) (hA _ (Kd.reads_of_C HR.out)))
  clear hA
  have hlen : ((l0.take (1 + (rd l0 0 - 128 - 55)).toNat).drop (1 : Int).toNat).length = (rd l0 0 - 128 - 55).toNat := by simp only [List.length_drop, List.length_take, Int.toNat_one]; omega
  have hpart : (l0.take (1 + (rd l0 0 - 128 - 55)).toNat).drop (1 : Int).toNat = (l0.drop 1).take (rd l0 0 - 128 - 55).toNat := by rw [List.drop_take]; congr 1; omega
  obtain ⟨ad1, he1, hx2⟩ := Kd.at_int HR.out 1 (by omega) (by omega)
  obtain rfl : ad = ad1 := by injection he1
  have q1 : ((1 : Int) < (l0.length : Int)) = True := eq_true (by omega)
  clear he1
  have d1 : (rd l0 1 == 0) = false := beq_eq_false_iff_ne.mpr hf0
  have d2 : decide (N ≤ 55) = false := decide_eq_false hf1
  have d3 : decide (2147483648 < N) = false := decide_eq_false hf
  have hwn : wrap64 N = N := by unfold wrap64; omega
  clear hf hf0 hf1
  go_enter Try.func37, Try.ntmps37
  go_wp2_with go_in
  go_end0
  go_wp2
  go_loopg [8, 10, 43] (rd l0 0 - 128 - 55).toNat (fun kq v8 v10 v43 w' => ∃ (n i : Int), v8 = .int .u64 n ∧ v43 = .int .i64 i ∧ Aside0 (0 ≤ i ∧ i + (kq : Int) = (rd l0 0 - 128 - 55)) ∧ Aside0 (rlp_reads.num (((l0.take (1 + (rd l0 0 - 128 - 55)).toNat).drop (1 : Int).toNat).drop i.toNat) n = N) ∧ w' = (((w.alloc (.cells #[.bool false, .int .i64 0, .int .i64 0, .bool false, .bool false] 71)).alloc (.cells #[.int .i64 (rd l0 0)] 3)).alloc (.cells #[.bool false, .int .i64 1, .int .i64 (rd l0 0 - 128), .bool false, .bool false] 71)).alloc (.cells #[.int .i64 (rd l0 0 - 128 - 55)] 3))
  case atStart => exact ⟨0, 0, rfl, rfl, ⟨by omega⟩, ⟨by rw [hpart]; exact hN⟩, rfl⟩
  case round =>
    obtain ⟨n, i, rfl, rfl, HI, HN, rfl⟩ := hrel
    have HBW := Aside0.mk (show Below w.heap.size w ((((w.alloc (.cells #[.bool false, .int .i64 0, .int .i64 0, .bool false, .bool false] 71)).alloc (.cells #[.int .i64 (rd l0 0)] 3)).alloc (.cells #[.bool false, .int .i64 1, .int .i64 (rd l0 0 - 128), .bool false, .bool false] 71)).alloc (.cells #[.int .i64 (rd l0 0 - 128 - 55)] 3)) by repeat (first | exact Below.refl _ _ | apply below_alloc))
    have hi0' := HI.out.1
    have hi1' := HI.out.2
    by_cases c6 : i < (rd l0 0 - 128 - 55)
    · have c6l : i < (((l0.take (1 + (rd l0 0 - 128 - 55)).toNat).drop (1 : Int).toNat).length : Int) := by rw [hlen]; omega
      have c6b : decide (i < (((l0.take (1 + (rd l0 0 - 128 - 55)).toNat).drop (1 : Int).toNat).length : Int)) = true := decide_eq_true c6l
      obtain ⟨ad7, he7, hx7⟩ := Kd.at_int HP.out i hi0' c6l
      cases he7
      replace hx7 := (HBW.out.cell (World.block_lt_of_cell? w _ hx7)).trans hx7
      have p7 := eq_true hi0'
      have q7 := eq_true c6l
      have hwi : wrap64 (i + 1) = i + 1 := by unfold wrap64; omega
      have hnext : rlp_reads.num (((l0.take (1 + (rd l0 0 - 128 - 55)).toNat).drop (1 : Int).toNat).drop (i + 1).toNat) (Go.bits .or .u64 (IntKind.u64.wrap (n * 256)) (IntKind.u64.wrap (rd ((l0.take (1 + (rd l0 0 - 128 - 55)).toNat).drop (1 : Int).toNat) i))) = N := by
        have hlt : i.toNat < ((l0.take (1 + (rd l0 0 - 128 - 55)).toNat).drop (1 : Int).toNat).length := by omega
        have h := HN.out
        rw [List.drop_eq_getElem_cons hlt] at h
        have e : (i + 1).toNat = i.toNat + 1 := by omega
        have e2 := rlp_reads.rd_at hlt
        rw [e, e2]
        exact h
      have HNX := Aside0.mk hnext
      clear hnext HN hN hpart
      go_wp2
      go_roundg (gk - 1)
      case measure => omega
      case rel => exact ⟨_, i + 1, rfl, by simp [hwi], ⟨by omega⟩, (by first | exact HNX | (refine ⟨?_⟩; rw [← List.drop_one]; exact HNX.out)), rfl⟩
    · have c6b : decide (i < (((l0.take (1 + (rd l0 0 - 128 - 55)).toNat).drop (1 : Int).toNat).length : Int)) = false := decide_eq_false (by rw [hlen]; omega)
      have hfin : N = n := by
        have h := HN.out
        rw [List.drop_eq_nil_of_le (by rw [hlen]; omega)] at h
        exact h.symm
      subst hfin
      replace hx2 := (HBW.out.cell (World.block_lt_of_cell? w _ hx2)).trans hx2
      simp only [show (1 : Int).toNat = 1 from rfl, Nat.reduceMul, Nat.reduceEqDiff, Go.Addr.add, ↓reduceIte] at hx2
      clear HN hN hpart
      go_wp2
      (try simp only [Exit.inBlock, Exit.then])
      refine bodyPost_ret (results_ct rfl _ _ w.heap.size 71 #[.bool false, .int .i64 (1 + (rd l0 0 - 128 - 55)), .int .i64 N, .bool false, .bool false] (0, 0) _ rfl (by repeat (first | exact heap_alloc_new _ _ | refine blk_alloc ?_ _)) Try.underlying71 rfl (by kernel_rfl)) rfl ?_
      exact ⟨rfl, by repeat (first | exact Below.refl _ _ | apply below_alloc)⟩
def rlp_reads.long (l0 : List Int) (b : Bool) (base : Int) : Option (Bool × Int × Int × Bool × Bool × Int) :=
  if rd l0 0 - base ≤ 55 then some (b, 1, rd l0 0 - base, false, false, 0)
  else if (l0.length : Int) < 1 + (rd l0 0 - base - 55) then some (b, 1, rd l0 0 - base, false, false, 41)
  else if rd l0 1 = 0 ∨ rlp_reads.num ((l0.drop 1).take (rd l0 0 - base - 55).toNat) 0 ≤ 55 ∨ rlp_reads.num ((l0.drop 1).take (rd l0 0 - base - 55).toNat) 0 > 2147483648 then some (b, 1, rd l0 0 - base, false, false, 40)
  else some (b, 1 + (rd l0 0 - base - 55), rlp_reads.num ((l0.drop 1).take (rd l0 0 - base - 55).toNat) 0, false, false, 0)
def rlp_reads.f (l0 : List Int) : Option (Bool × Int × Int × Bool × Bool × Int) :=
  if 0 < l0.length ∧ 0 ≤ rd l0 0 ∧ rd l0 0 < 256 then
    (if rd l0 0 < 128 then some (false, 0, 1, true, false, 0) else if 192 ≤ rd l0 0 then rlp_reads.long l0 true 192 else rlp_reads.long l0 false 128)
  else none
theorem rlp_reads.num_nonneg (L : List Int) : ∀ n : Int, 0 ≤ n → 0 ≤ rlp_reads.num L n := by
  induction L with
  | nil => intro n h; exact h
  | cons x L ih =>
    intro n _
    refine ih _ ?_
    unfold Go.bits
    simp only [IntKind.wrap, IntKind.bits, IntKind.signed, Bool.false_and, Bool.false_eq_true, if_false]
    exact Int.emod_nonneg _ (by decide)
theorem rlp_reads.calls (A0 : Option Addr) (c0 : Nat) (l0 : List Int) (r1 : Bool) (r2 r3 : Int) (r4 r5 : Bool) (r6 : Int) (w : World) (hr0 : Kd.C (Kd.int .u8) w A0 l0.length l0) (hc0 : l0.length ≤ c0) (h : rlp_reads.f l0 = some (r1, r2, r3, r4, r5, r6)) :
    Calls Try.prog 37 #[.slice A0 l0.length c0] w fun e w' => e = .returned (.tuple #[.agg #[.bool r1, .int .i64 r2, .int .i64 r3, .bool r4, .bool r5], .int .i64 r6]) ∧ Below w.heap.size w w' := by
  unfold rlp_reads.f at h
  split at h
  · rename_i hh
    obtain ⟨hl, hb0, hb1⟩ := hh
    split at h
    · rename_i hc
      simp only [Option.some.injEq, Prod.mk.injEq] at h
      obtain ⟨rfl, rfl, rfl, rfl, rfl, rfl⟩ := h
      exact rlp_reads.small c0 A0 l0 w hr0 hc0 hl hb0 hb1 hc
    · rename_i hc
      have hnn := rlp_reads.num_nonneg ((l0.drop 1).take (rd l0 0 - 192 - 55).toNat) 0 (by decide)
      have hnn2 := rlp_reads.num_nonneg ((l0.drop 1).take (rd l0 0 - 128 - 55).toNat) 0 (by decide)
      split at h
      · rename_i hk
        unfold rlp_reads.long at h
        split at h
        · rename_i hn
          simp only [Option.some.injEq, Prod.mk.injEq] at h
          obtain ⟨rfl, rfl, rfl, rfl, rfl, rfl⟩ := h
          by_cases he : rd l0 0 - 192 = 55
          · exact rlp_reads.edge192 c0 A0 l0 w hr0 hc0 hl hb0 hb1 hk he
          · exact rlp_reads.low192 c0 A0 l0 w hr0 hc0 hl hb0 hb1 hk (by omega)
        · rename_i hn
          split at h
          · rename_i hs
            simp only [Option.some.injEq, Prod.mk.injEq] at h
            obtain ⟨rfl, rfl, rfl, rfl, rfl, rfl⟩ := h
            exact rlp_reads.short192 c0 A0 l0 w hr0 hc0 hl hb0 hb1 hk (by omega) hs
          · rename_i hs
            split at h
            · rename_i hf
              simp only [Option.some.injEq, Prod.mk.injEq] at h
              obtain ⟨rfl, rfl, rfl, rfl, rfl, rfl⟩ := h
              by_cases h0 : rd l0 1 = 0
              · exact rlp_reads.zero192 c0 A0 l0 w hr0 hc0 hl hb0 hb1 _ hk (by omega) (by omega) rfl hnn h0
              · by_cases h1 : rlp_reads.num ((l0.drop 1).take (rd l0 0 - 192 - 55).toNat) 0 ≤ 55
                · exact rlp_reads.few192 c0 A0 l0 w hr0 hc0 hl hb0 hb1 _ hk (by omega) (by omega) rfl hnn h0 h1
                · exact rlp_reads.many192 c0 A0 l0 w hr0 hc0 hl hb0 hb1 _ hk (by omega) (by omega) rfl hnn h0 h1 (by omega)
            · rename_i hf
              simp only [Option.some.injEq, Prod.mk.injEq] at h
              obtain ⟨rfl, rfl, rfl, rfl, rfl, rfl⟩ := h
              exact rlp_reads.good192 c0 A0 l0 w hr0 hc0 hl hb0 hb1 _ hk (by omega) (by omega) rfl hnn (by omega) (by omega) (by omega)
      · rename_i hk2
        unfold rlp_reads.long at h
        split at h
        · rename_i hn
          simp only [Option.some.injEq, Prod.mk.injEq] at h
          obtain ⟨rfl, rfl, rfl, rfl, rfl, rfl⟩ := h
          by_cases he : rd l0 0 - 128 = 55
          · exact rlp_reads.edge128 c0 A0 l0 w hr0 hc0 hl hb0 hb1 (by omega) (by omega) he
          · exact rlp_reads.low128 c0 A0 l0 w hr0 hc0 hl hb0 hb1 (by omega) (by omega) (by omega)
        · rename_i hn
          split at h
          · rename_i hs
            simp only [Option.some.injEq, Prod.mk.injEq] at h
            obtain ⟨rfl, rfl, rfl, rfl, rfl, rfl⟩ := h
            exact rlp_reads.short128 c0 A0 l0 w hr0 hc0 hl hb0 hb1 (by omega) (by omega) (by omega) hs
          · rename_i hs
            split at h
            · rename_i hf
              simp only [Option.some.injEq, Prod.mk.injEq] at h
              obtain ⟨rfl, rfl, rfl, rfl, rfl, rfl⟩ := h
              by_cases h0 : rd l0 1 = 0
              · exact rlp_reads.zero128 c0 A0 l0 w hr0 hc0 hl hb0 hb1 _ (by omega) (by omega) (by omega) (by omega) rfl hnn2 h0
              · by_cases h1 : rlp_reads.num ((l0.drop 1).take (rd l0 0 - 128 - 55).toNat) 0 ≤ 55
                · exact rlp_reads.few128 c0 A0 l0 w hr0 hc0 hl hb0 hb1 _ (by omega) (by omega) (by omega) (by omega) rfl hnn2 h0 h1
                · exact rlp_reads.many128 c0 A0 l0 w hr0 hc0 hl hb0 hb1 _ (by omega) (by omega) (by omega) (by omega) rfl hnn2 h0 h1 (by omega)
            · rename_i hf
              simp only [Option.some.injEq, Prod.mk.injEq] at h
              obtain ⟨rfl, rfl, rfl, rfl, rfl, rfl⟩ := h
              exact rlp_reads.good128 c0 A0 l0 w hr0 hc0 hl hb0 hb1 _ (by omega) (by omega) (by omega) (by omega) rfl hnn2 (by omega) (by omega) (by omega)
  · cases h

end Go.Proofs.Ytbobnopnfjcajaa.P
