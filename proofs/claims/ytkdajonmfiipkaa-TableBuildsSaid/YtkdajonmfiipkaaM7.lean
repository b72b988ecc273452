/- Parts of the proof, joined by a program of this session: TTab. -/
import Derived.Test.YtkdajonmfiipkaaM6
set_option linter.unusedVariables false
set_option linter.unusedSimpArgs false
set_option linter.unusedSectionVars false
/- The contracts that the laws of tables need, in a table. -/
namespace Go.Proofs.Ytkdajonmfiipkaa.Ev
open Go Go.RowKit
set_option linter.unusedVariables false
set_option maxRecDepth 100000
set_option maxHeartbeats 8000000
noncomputable def T0 : Tab := tab0
theorem T0_far : TabFar Try.prog T0 := tab0_far
noncomputable def T1 : Tab := tabAdd T0 51 cloneSp.ts cloneSp.F
theorem T1_far : TabFar Try.prog T1 := add_far cloneSp T0_far at51 (by kernel_rfl) (by kernel_rfl) (fun x _ => clone_far x.1)
noncomputable def T2 : Tab := tabAdd T1 86 cmpBSp.ts cmpBSp.F
theorem T2_far : TabFar Try.prog T2 := add_ext cmpBSp T1_far (fun x _ => compare_ext x)
noncomputable def T3 : Tab := tabAdd T2 72 sumSp.ts sumSp.F
theorem T3_far : TabFar Try.prog T3 := add_ok sumSp T2_far (rows_ok _) at72 (by kernel_rfl) (by kernel_rfl) (sum_ok _)
noncomputable def T4 : Tab := tabAdd T3 79 sumSp.ts sumSp.F
theorem T4_far : TabFar Try.prog T4 := add_ok sumSp T3_far (rows_ok _) at79 (by kernel_rfl) (by kernel_rfl) (rsum_ok _)
noncomputable def T5 : Tab := tabAdd T4 75 fixedSp.ts fixedSp.F
theorem T5_far : TabFar Try.prog T5 := add_ok fixedSp T4_far (rows_ok _) at75 (by kernel_rfl) (by kernel_rfl) (fixed_ok _)
noncomputable def T6 : Tab := tabAdd T5 71 fixed4Sp.ts fixed4Sp.F
theorem T6_far : TabFar Try.prog T6 := add_ok fixed4Sp T5_far (rows_ok _) at71 (by kernel_rfl) (by kernel_rfl) (fixed4_ok _ rfl)
noncomputable def T7 : Tab := tabAdd T6 38 fixed8Sp.ts fixed8Sp.F
theorem T7_far : TabFar Try.prog T7 := add_ok fixed8Sp T6_far (rows_ok _) at38 (by kernel_rfl) (by kernel_rfl) (fixed8_ok _ rfl)
noncomputable def T8 : Tab := tabAdd T7 33 putSp.ts putSp.F
theorem T8_far : TabFar Try.prog T8 := add_ok putSp T7_far (rows_ok _) at33 (by kernel_rfl) (by kernel_rfl) (put_ok _)
noncomputable def T9 : Tab := tabAdd T8 82 unfixedSp.ts unfixedSp.F
theorem T9_far : TabFar Try.prog T9 := add_ok unfixedSp T8_far (rows_ok _) at82 (by kernel_rfl) (by kernel_rfl) (unfixed_ok _)
noncomputable def T10 : Tab := tabAdd T9 81 unfixed4Sp.ts unfixed4Sp.F
theorem T10_far : TabFar Try.prog T10 := add_ok unfixed4Sp T9_far (rows_ok _) at81 (by kernel_rfl) (by kernel_rfl) (unfixed4_ok _ rfl)
noncomputable def T11 : Tab := tabAdd T10 49 unfixed8Sp.ts unfixed8Sp.F
theorem T11_far : TabFar Try.prog T11 := add_ok unfixed8Sp T10_far (rows_ok _) at49 (by kernel_rfl) (by kernel_rfl) (unfixed8_ok _ rfl)
noncomputable def T12 : Tab := tabAdd T11 54 rightSp.ts rightSp.F
theorem T12_far : TabFar Try.prog T12 := add_ok rightSp T11_far (rows_ok _) at54 (by kernel_rfl) (by kernel_rfl) (right_ok _)
noncomputable def T13 : Tab := tabAdd T12 66 splitSp.ts splitSp.F
theorem T13_far : TabFar Try.prog T13 := add_ok splitSp T12_far (rows_ok _) at66 (by kernel_rfl) (by kernel_rfl) (split_ok _ rfl rfl rfl)
noncomputable def T14 : Tab := tabAdd T13 99 nanUSp.ts nanUSp.F
theorem T14_far : TabFar Try.prog T14 := add_ok nanUSp T13_far (rows_ok _) at99 (by kernel_rfl) (by kernel_rfl) (nanU_ok _)
noncomputable def T15 : Tab := tabAdd T14 100 nanISp.ts nanISp.F
theorem T15_far : TabFar Try.prog T15 := add_ok nanISp T14_far (rows_ok _) at100 (by kernel_rfl) (by kernel_rfl) (nanI_ok _)
noncomputable def T16 : Tab := tabAdd T15 91 cmpUSp.ts cmpUSp.F
theorem T16_far : TabFar Try.prog T16 := add_ok cmpUSp T15_far (rows_ok _) at91 (by kernel_rfl) (by kernel_rfl) (cmpU_ok _ rfl)
noncomputable def T17 : Tab := tabAdd T16 92 cmpISp.ts cmpISp.F
theorem T17_far : TabFar Try.prog T17 := add_ok cmpISp T16_far (rows_ok _) at92 (by kernel_rfl) (by kernel_rfl) (cmpI_ok _ rfl)
noncomputable def T18 : Tab := tabAdd T17 55 cmpBSp.ts cmpBSp.F
theorem T18_far : TabFar Try.prog T18 := add_ok cmpBSp T17_far (rows_ok _) at55 (by kernel_rfl) (by kernel_rfl) (bcompare_ok _ rfl)
noncomputable def T19 : Tab := tabAdd T18 64 compareSp.ts compareSp.F
theorem T19_far : TabFar Try.prog T19 := add_ok compareSp T18_far (rows_ok _) at64 (by kernel_rfl) (by kernel_rfl) (compare_ok _ rfl rfl rfl rfl)
noncomputable def T20 : Tab := tabAdd T19 42 putSp.ts putSp.F
theorem T20_far : TabFar Try.prog T20 := add_ok putSp T19_far (rows_ok _) at42 (by kernel_rfl) (by kernel_rfl) (rput_ok _)
noncomputable def T21 : Tab := tabAdd T20 45 fixedSp.ts fixedSp.F
theorem T21_far : TabFar Try.prog T21 := add_ok fixedSp T20_far (rows_ok _) at45 (by kernel_rfl) (by kernel_rfl) (rfixed_ok _)
noncomputable def T22 : Tab := tabAdd T21 57 runfixedSp.ts runfixedSp.F
theorem T22_far : TabFar Try.prog T22 := add_ok runfixedSp T21_far (rows_ok _) at57 (by kernel_rfl) (by kernel_rfl) (runfixed_ok _)
noncomputable def T23 : Tab := tabAdd T22 67 rsplitSp.ts rsplitSp.F
theorem T23_far : TabFar Try.prog T23 := add_okW rsplitSp T22_far (rows_ok _) at67 (by kernel_rfl) (by kernel_rfl) (rsplit_ok _ rfl)
noncomputable def T24 : Tab := tabAdd T23 76 isSp.ts isSp.F
theorem T24_far : TabFar Try.prog T24 := add_ok isSp T23_far (rows_ok _) at76 (by kernel_rfl) (by kernel_rfl) (is_ok _ rfl)
noncomputable def T25 : Tab := tabAdd T24 30 cmpBSp.ts cmpBSp.F
theorem T25_far : TabFar Try.prog T25 := add_ok cmpBSp T24_far (rows_ok _) at30 (by kernel_rfl) (by kernel_rfl) (rbytes_ok _)
noncomputable def T26 : Tab := tabAdd T25 77 orderSp.ts orderSp.F
theorem T26_far : TabFar Try.prog T26 := add_ok orderSp T25_far (rows_ok _) at77 (by kernel_rfl) (by kernel_rfl) (order_ok _ rfl rfl)
noncomputable def T27 : Tab := tabAdd T26 39 risesSp.ts risesSp.F
theorem T27_far : TabFar Try.prog T27 := add_ok risesSp T26_far (rows_ok _) at39 (by kernel_rfl) (by kernel_rfl) (rises_ok _ rfl rfl)
noncomputable def T28 : Tab := tabAdd T27 15 hbytesSp.ts hbytesSp.F
theorem T28_far : TabFar Try.prog T28 := add_ok hbytesSp T27_far (rows_ok _) at15 (by kernel_rfl) (by kernel_rfl) (hbytes_ok _)
noncomputable def T29 : Tab := tabAdd T28 16 kvsSp.ts kvsSp.F
theorem T29_far : TabFar Try.prog T29 := add_ok kvsSp T28_far (rows_ok _) at16 (by kernel_rfl) (by kernel_rfl) (kvs_ok _)
noncomputable def T30 : Tab := tabAdd T29 12 copySp.ts copySp.F
theorem T30_far : TabFar Try.prog T30 := add_ok copySp T29_far (rows_ok _) at12 (by kernel_rfl) (by kernel_rfl) (copy_ok _)
noncomputable def T31 : Tab := tabAdd T30 94 behindSp.ts behindSp.F
theorem T31_far : TabFar Try.prog T31 := add_ok behindSp T30_far (rows_ok _) at94 (by kernel_rfl) (by kernel_rfl) (behind_ok _ rfl)
noncomputable def T32 : Tab := tabAdd T31 69 risesSp.ts risesSp.F
theorem T32_far : TabFar Try.prog T32 := add_ok risesSp T31_far (rows_ok _) at69 (by kernel_rfl) (by kernel_rfl) (bright_ok _ rfl rfl)
noncomputable def T33 : Tab := tabAdd T32 95 sharedSp.ts sharedSp.F
theorem T33_far : TabFar Try.prog T33 := add_ok sharedSp T32_far (rows_ok _) at95 (by kernel_rfl) (by kernel_rfl) (shared_ok _)
noncomputable def T34 : Tab := tabAdd T33 70 builtSp.ts builtSp.F
theorem T34_far : TabFar Try.prog T34 := add_ok builtSp T33_far (rows_ok _) at70 (by kernel_rfl) (by kernel_rfl) (built_ok _ rfl rfl rfl)
noncomputable def T35 : Tab := tabAdd T34 31 buildSp.ts buildSp.F
theorem T35_far : TabFar Try.prog T35 := add_ok buildSp T34_far (rows_ok _) at31 (by kernel_rfl) (by kernel_rfl) (bbuild_ok _ rfl rfl)
noncomputable def T36 : Tab := tabAdd T35 78 sharedSp.ts sharedSp.F
theorem T36_far : TabFar Try.prog T36 := add_ok sharedSp T35_far (rows_ok _) at78 (by kernel_rfl) (by kernel_rfl) (rshared_ok _)
noncomputable def T37 : Tab := tabAdd T36 41 builtSp.ts builtSp.F
theorem T37_far : TabFar Try.prog T37 := add_ok builtSp T36_far (rows_ok _) at41 (by kernel_rfl) (by kernel_rfl) (of_ok _ rfl rfl rfl)
noncomputable def T38 : Tab := tabAdd T37 11 fewSp.ts fewSp.F
theorem T38_far : TabFar Try.prog T38 := add_ok fewSp T37_far (rows_ok _) at11 (by kernel_rfl) (by kernel_rfl) (few8_ok _)
noncomputable def T39 : Tab := tabAdd T38 10 known8Sp.ts known8Sp.F
theorem T39_far : TabFar Try.prog T39 := add_far known8Sp T38_far at10 (by kernel_rfl) (by kernel_rfl) (fun x _ => known_far)
noncomputable def T40 : Tab := tabAdd T39 36 equalSp.ts equalSp.F
theorem T40_far : TabFar Try.prog T40 := add_ok equalSp T39_far (rows_ok _) at36 (by kernel_rfl) (by kernel_rfl) (bequal_ok _)
noncomputable def T41 : Tab := tabAdd T40 98 takeSp.ts takeSp.F
theorem T41_far : TabFar Try.prog T41 := add_ok takeSp T40_far (rows_ok _) at98 (by kernel_rfl) (by kernel_rfl) (take_ok _)
noncomputable def T42 : Tab := tabAdd T41 37 filterSp.ts filterSp.F
theorem T42_far : TabFar Try.prog T42 := add_okW filterSp T41_far (rows_ok _) at37 (by kernel_rfl) (by kernel_rfl) (filter_ok _ rfl rfl rfl rfl)
noncomputable def T43 : Tab := tabAdd T42 80 stepsSp.ts stepsSp.F
theorem T43_far : TabFar Try.prog T43 := add_ok stepsSp T42_far (rows_ok _) at80 (by kernel_rfl) (by kernel_rfl) (steps_ok _ rfl)
noncomputable def T44 : Tab := tabAdd T43 44 filterSp.ts filterSp.F
theorem T44_far : TabFar Try.prog T44 := add_okW filterSp T43_far (rows_ok _) at44 (by kernel_rfl) (by kernel_rfl) (rfilter_ok _ rfl)
noncomputable def T45 : Tab := tabAdd T44 17 checkSp.ts checkSp.F
theorem T45_far : TabFar Try.prog T45 := add_ok checkSp T44_far (rows_ok _) at17 (by kernel_rfl) (by kernel_rfl) (tcheck_ok _ rfl)
noncomputable def T46 : Tab := tabAdd T45 18 checkSp.ts checkSp.F
theorem T46_far : TabFar Try.prog T46 := add_ok checkSp T45_far (rows_ok _) at18 (by kernel_rfl) (by kernel_rfl) (rtcheck_ok _)
noncomputable def T47 : Tab := tabAdd T46 34 sum4Sp.ts sum4Sp.F
theorem T47_far : TabFar Try.prog T47 := add_ok sum4Sp T46_far (rows_ok _) at34 (by kernel_rfl) (by kernel_rfl) (sum4_ok _ rfl rfl rfl)
noncomputable def T48 : Tab := tabAdd T47 35 userSp.ts userSp.F
theorem T48_far : TabFar Try.prog T48 := add_ok userSp T47_far (rows_ok _) at35 (by kernel_rfl) (by kernel_rfl) (tuser_ok _ rfl)
noncomputable def T49 : Tab := tabAdd T48 40 ruserSp.ts ruserSp.F
theorem T49_far : TabFar Try.prog T49 := add_okW ruserSp T48_far (rows_ok _) at40 (by kernel_rfl) (by kernel_rfl) (ruser_ok _)
noncomputable def T50 : Tab := tabAdd T49 46 magicSp.ts magicSp.F
theorem T50_far : TabFar Try.prog T50 := add_ok magicSp T49_far (rows_ok _) at46 (by kernel_rfl) (by kernel_rfl) (magic_ok _)
noncomputable def T51 : Tab := tabAdd T50 43 rsummedSp.ts rsummedSp.F
theorem T51_far : TabFar Try.prog T51 := add_ok rsummedSp T50_far (rows_ok _) at43 (by kernel_rfl) (by kernel_rfl) (rsummed_ok _ rfl rfl)
noncomputable def T52 : Tab := tabAdd T51 32 piecesSp.ts piecesSp.F
theorem T52_far : TabFar Try.prog T52 := add_ok piecesSp T51_far (rows_ok _) at32 (by kernel_rfl) (by kernel_rfl) (pieces_ok _)
noncomputable def T53 : Tab := tabAdd T52 13 tabSp.ts tabSp.F
theorem T53_far : TabFar Try.prog T53 := add_ok tabSp T52_far (rows_ok _) at13 (by kernel_rfl) (by kernel_rfl) (tbuild_ok _ rfl rfl rfl rfl rfl rfl rfl rfl rfl)
noncomputable def T54 : Tab := tabAdd T53 14 tabSp.ts tabSp.F
theorem T54_far : TabFar Try.prog T54 := add_ok tabSp T53_far (rows_ok _) at14 (by kernel_rfl) (by kernel_rfl) (rtab_ok _ rfl rfl rfl rfl rfl rfl rfl rfl rfl rfl)
noncomputable def TB : Tab := T54
theorem TB_far : TabFar Try.prog TB := T54_far
end Go.Proofs.Ytkdajonmfiipkaa.Ev
