/- The law's known answer holds: run on given data. -/
import Derived.Test.YtdhbelpejaobdaaEvClone
import Derived.Test.YtdhbelpejaobdaaCSpec2
namespace Go.Proofs.Ytdhbelpejaobdaa.Ev
open Go Go.RowKit
set_option linter.unusedVariables false
set_option maxRecDepth 100000
set_option maxHeartbeats 8000000
noncomputable def TK : Tab := tabAdd tab0 51 cloneSp.ts cloneSp.F
theorem farRes_one (a b : Tst) {P : Program} {g : FuncId} {xs : List V} {v : V} (h : FarRes (tI := a) P g xs v) : FarRes (tI := b) P g xs v := by rw [Tst.one b a]; exact h
theorem tabFar_one (a b : Tst) {P : Program} {T : Tab} (h : TabFar (tI := a) P T) : TabFar (tI := b) P T := by rw [Tst.one b a]; exact h
theorem tk_far : TabFar Try.prog TK := add_far cloneSp tab0_far at51 (by kernel_rfl) (by kernel_rfl) (fun x _ => clone_far x.1)
theorem known_ev : evFn (tI := fastT) (ctxOf 11) (autoTab (tI := fastT) TK 20 7) (inlH (tI := fastT) ctxOf (autoTab (tI := fastT) TK 20 7) 20 fnOf 7) 20 F11 [] [] (fun v S => exportV (tI := fastT) S v) = some (.d .bo true) := by kernel_rfl
theorem auto_ok : TabOK Try.prog (autoTab (tI := fastT) TK 20 7) := tabFar_ok (tI := fastT) (autoTab_far (tI := fastT) (tabFar_one slowT fastT tk_far) 20 7)
theorem known_far : FarRes Try.prog 11 [] (.d .bo true) :=
  farRes_one fastT slowT (far_fn (tI := fastT) (rows_ok _) auto_ok (inl_ok (tI := fastT) (fun _ => rows_ok _) auto_ok mixed fnsOK 7) mixed 20 at11 known_ev)
def knownSp : Sp := ⟨[], fun _ => true, fun _ => .d .bo true⟩
end Go.Proofs.Ytdhbelpejaobdaa.Ev
