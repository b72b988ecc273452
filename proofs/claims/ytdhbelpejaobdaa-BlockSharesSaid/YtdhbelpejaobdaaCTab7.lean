/- All contracts, in a table. -/
import Derived.Test.YtdhbelpejaobdaaCOf
import Derived.Test.YtdhbelpejaobdaaCKeys
import Derived.Test.YtdhbelpejaobdaaCRef2
import Derived.Test.YtdhbelpejaobdaaCKv
import Derived.Test.YtdhbelpejaobdaaCExt
import Derived.Test.YtdhbelpejaobdaaCKnown7
namespace Go.Proofs.Ytdhbelpejaobdaa.Ev
open Go Go.RowKit
set_option linter.unusedVariables false
set_option maxRecDepth 100000
set_option maxHeartbeats 8000000
noncomputable def T0 : Tab := tab0
theorem T0_far : TabFar Try.prog T0 := tab0_far
noncomputable def T1 : Tab := tabAdd T0 51 cloneSp.ts cloneSp.F
theorem T1_far : TabFar Try.prog T1 := add_far cloneSp T0_far at51 (by kernel_rfl) (by kernel_rfl) (fun x _ => clone_far x.1)
noncomputable def T2 : Tab := tabAdd T1 73 cmpBSp.ts cmpBSp.F
theorem T2_far : TabFar Try.prog T2 := add_ext cmpBSp T1_far (fun x _ => compare_ext x)
noncomputable def T3 : Tab := tabAdd T2 68 fixedSp.ts fixedSp.F
theorem T3_far : TabFar Try.prog T3 := add_ok fixedSp T2_far (rows_ok _) at68 (by kernel_rfl) (by kernel_rfl) (fixed_ok _)
noncomputable def T4 : Tab := tabAdd T3 53 fixed4Sp.ts fixed4Sp.F
theorem T4_far : TabFar Try.prog T4 := add_ok fixed4Sp T3_far (rows_ok _) at53 (by kernel_rfl) (by kernel_rfl) (fixed4_ok _ rfl)
noncomputable def T5 : Tab := tabAdd T4 52 fixed8Sp.ts fixed8Sp.F
theorem T5_far : TabFar Try.prog T5 := add_ok fixed8Sp T4_far (rows_ok _) at52 (by kernel_rfl) (by kernel_rfl) (fixed8_ok _ rfl)
noncomputable def T6 : Tab := tabAdd T5 55 putSp.ts putSp.F
theorem T6_far : TabFar Try.prog T6 := add_ok putSp T5_far (rows_ok _) at55 (by kernel_rfl) (by kernel_rfl) (put_ok _)
noncomputable def T7 : Tab := tabAdd T6 59 unfixedSp.ts unfixedSp.F
theorem T7_far : TabFar Try.prog T7 := add_ok unfixedSp T6_far (rows_ok _) at59 (by kernel_rfl) (by kernel_rfl) (unfixed_ok _)
noncomputable def T8 : Tab := tabAdd T7 35 unfixed4Sp.ts unfixed4Sp.F
theorem T8_far : TabFar Try.prog T8 := add_ok unfixed4Sp T7_far (rows_ok _) at35 (by kernel_rfl) (by kernel_rfl) (unfixed4_ok _ rfl)
noncomputable def T9 : Tab := tabAdd T8 63 unfixed8Sp.ts unfixed8Sp.F
theorem T9_far : TabFar Try.prog T9 := add_ok unfixed8Sp T8_far (rows_ok _) at63 (by kernel_rfl) (by kernel_rfl) (unfixed8_ok _ rfl)
noncomputable def T10 : Tab := tabAdd T9 50 rightSp.ts rightSp.F
theorem T10_far : TabFar Try.prog T10 := add_ok rightSp T9_far (rows_ok _) at50 (by kernel_rfl) (by kernel_rfl) (right_ok _)
noncomputable def T11 : Tab := tabAdd T10 40 splitSp.ts splitSp.F
theorem T11_far : TabFar Try.prog T11 := add_ok splitSp T10_far (rows_ok _) at40 (by kernel_rfl) (by kernel_rfl) (split_ok _ rfl rfl rfl)
noncomputable def T12 : Tab := tabAdd T11 74 nanUSp.ts nanUSp.F
theorem T12_far : TabFar Try.prog T12 := add_ok nanUSp T11_far (rows_ok _) at74 (by kernel_rfl) (by kernel_rfl) (nanU_ok _)
noncomputable def T13 : Tab := tabAdd T12 75 nanISp.ts nanISp.F
theorem T13_far : TabFar Try.prog T13 := add_ok nanISp T12_far (rows_ok _) at75 (by kernel_rfl) (by kernel_rfl) (nanI_ok _)
noncomputable def T14 : Tab := tabAdd T13 71 cmpUSp.ts cmpUSp.F
theorem T14_far : TabFar Try.prog T14 := add_ok cmpUSp T13_far (rows_ok _) at71 (by kernel_rfl) (by kernel_rfl) (cmpU_ok _ rfl)
noncomputable def T15 : Tab := tabAdd T14 72 cmpISp.ts cmpISp.F
theorem T15_far : TabFar Try.prog T15 := add_ok cmpISp T14_far (rows_ok _) at72 (by kernel_rfl) (by kernel_rfl) (cmpI_ok _ rfl)
noncomputable def T16 : Tab := tabAdd T15 70 cmpBSp.ts cmpBSp.F
theorem T16_far : TabFar Try.prog T16 := add_ok cmpBSp T15_far (rows_ok _) at70 (by kernel_rfl) (by kernel_rfl) (bcompare_ok _ rfl)
noncomputable def T17 : Tab := tabAdd T16 64 compareSp.ts compareSp.F
theorem T17_far : TabFar Try.prog T17 := add_ok compareSp T16_far (rows_ok _) at64 (by kernel_rfl) (by kernel_rfl) (compare_ok _ rfl rfl rfl rfl)
noncomputable def T18 : Tab := tabAdd T17 57 putSp.ts putSp.F
theorem T18_far : TabFar Try.prog T18 := add_ok putSp T17_far (rows_ok _) at57 (by kernel_rfl) (by kernel_rfl) (rput_ok _)
noncomputable def T19 : Tab := tabAdd T18 58 fixedSp.ts fixedSp.F
theorem T19_far : TabFar Try.prog T19 := add_ok fixedSp T18_far (rows_ok _) at58 (by kernel_rfl) (by kernel_rfl) (rfixed_ok _)
noncomputable def T20 : Tab := tabAdd T19 38 runfixedSp.ts runfixedSp.F
theorem T20_far : TabFar Try.prog T20 := add_ok runfixedSp T19_far (rows_ok _) at38 (by kernel_rfl) (by kernel_rfl) (runfixed_ok _)
noncomputable def T21 : Tab := tabAdd T20 44 rsplitSp.ts rsplitSp.F
theorem T21_far : TabFar Try.prog T21 := add_okW rsplitSp T20_far (rows_ok _) at44 (by kernel_rfl) (by kernel_rfl) (rsplit_ok _ rfl)
noncomputable def T22 : Tab := tabAdd T21 23 isSp.ts isSp.F
theorem T22_far : TabFar Try.prog T22 := add_ok isSp T21_far (rows_ok _) at23 (by kernel_rfl) (by kernel_rfl) (is_ok _ rfl)
noncomputable def T23 : Tab := tabAdd T22 45 cmpBSp.ts cmpBSp.F
theorem T23_far : TabFar Try.prog T23 := add_ok cmpBSp T22_far (rows_ok _) at45 (by kernel_rfl) (by kernel_rfl) (rbytes_ok _)
noncomputable def T24 : Tab := tabAdd T23 24 orderSp.ts orderSp.F
theorem T24_far : TabFar Try.prog T24 := add_ok orderSp T23_far (rows_ok _) at24 (by kernel_rfl) (by kernel_rfl) (order_ok _ rfl rfl)
noncomputable def T25 : Tab := tabAdd T24 33 risesSp.ts risesSp.F
theorem T25_far : TabFar Try.prog T25 := add_ok risesSp T24_far (rows_ok _) at33 (by kernel_rfl) (by kernel_rfl) (rises_ok _ rfl rfl)
noncomputable def T26 : Tab := tabAdd T25 16 hbytesSp.ts hbytesSp.F
theorem T26_far : TabFar Try.prog T26 := add_ok hbytesSp T25_far (rows_ok _) at16 (by kernel_rfl) (by kernel_rfl) (hbytes_ok _)
noncomputable def T27 : Tab := tabAdd T26 17 kvsSp.ts kvsSp.F
theorem T27_far : TabFar Try.prog T27 := add_ok kvsSp T26_far (rows_ok _) at17 (by kernel_rfl) (by kernel_rfl) (kvs_ok _)
noncomputable def T28 : Tab := tabAdd T27 13 copySp.ts copySp.F
theorem T28_far : TabFar Try.prog T28 := add_ok copySp T27_far (rows_ok _) at13 (by kernel_rfl) (by kernel_rfl) (copy_ok _)
noncomputable def T29 : Tab := tabAdd T28 43 behindSp.ts behindSp.F
theorem T29_far : TabFar Try.prog T29 := add_ok behindSp T28_far (rows_ok _) at43 (by kernel_rfl) (by kernel_rfl) (behind_ok _ rfl)
noncomputable def T30 : Tab := tabAdd T29 31 risesSp.ts risesSp.F
theorem T30_far : TabFar Try.prog T30 := add_ok risesSp T29_far (rows_ok _) at31 (by kernel_rfl) (by kernel_rfl) (bright_ok _ rfl rfl)
noncomputable def T31 : Tab := tabAdd T30 54 sharedSp.ts sharedSp.F
theorem T31_far : TabFar Try.prog T31 := add_ok sharedSp T30_far (rows_ok _) at54 (by kernel_rfl) (by kernel_rfl) (shared_ok _)
noncomputable def T32 : Tab := tabAdd T31 32 builtSp.ts builtSp.F
theorem T32_far : TabFar Try.prog T32 := add_ok builtSp T31_far (rows_ok _) at32 (by kernel_rfl) (by kernel_rfl) (built_ok _ rfl rfl rfl)
noncomputable def T33 : Tab := tabAdd T32 14 buildSp.ts buildSp.F
theorem T33_far : TabFar Try.prog T33 := add_ok buildSp T32_far (rows_ok _) at14 (by kernel_rfl) (by kernel_rfl) (bbuild_ok _ rfl rfl)
noncomputable def T34 : Tab := tabAdd T33 56 sharedSp.ts sharedSp.F
theorem T34_far : TabFar Try.prog T34 := add_ok sharedSp T33_far (rows_ok _) at56 (by kernel_rfl) (by kernel_rfl) (rshared_ok _)
noncomputable def T35 : Tab := tabAdd T34 34 builtSp.ts builtSp.F
theorem T35_far : TabFar Try.prog T35 := add_ok builtSp T34_far (rows_ok _) at34 (by kernel_rfl) (by kernel_rfl) (of_ok _ rfl rfl rfl)
noncomputable def T36 : Tab := tabAdd T35 15 buildSp.ts buildSp.F
theorem T36_far : TabFar Try.prog T36 := add_ok buildSp T35_far (rows_ok _) at15 (by kernel_rfl) (by kernel_rfl) (rbuild_ok _ rfl rfl)
noncomputable def T37 : Tab := tabAdd T36 12 fewSp.ts fewSp.F
theorem T37_far : TabFar Try.prog T37 := add_ok fewSp T36_far (rows_ok _) at12 (by kernel_rfl) (by kernel_rfl) (few_ok _)
noncomputable def T38 : Tab := tabAdd T37 11 knownSp.ts knownSp.F
theorem T38_far : TabFar Try.prog T38 := add_far knownSp T37_far at11 (by kernel_rfl) (by kernel_rfl) (fun x _ => known_far)
noncomputable def TB : Tab := T38
theorem TB_far : TabFar Try.prog TB := T38_far
end Go.Proofs.Ytdhbelpejaobdaa.Ev
