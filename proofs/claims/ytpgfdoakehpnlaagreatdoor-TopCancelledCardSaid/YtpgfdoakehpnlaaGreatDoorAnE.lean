import Derived.Test.YtpgfdoakehpnlaaGreatDoorAnD
set_option linter.unusedVariables false
set_option linter.unusedSimpArgs false
namespace Go.AM
open Go Go.Proofs
set_option maxRecDepth 100000
/-! # TopCancelled: the way to the loop, and the early ends -/
theorem pre_a : pcB (bdC 1 40) c4a .nrm sa0 Cn.sa1 = true := by kernel_rfl
theorem pre_b : pcB (bdC 1 40) c4b .nrm Cn.sa1 Cn.sa2 = true := by kernel_rfl
theorem pre_c : pcB (bdC 1 40) c4c .nrm Cn.sa2 (cns 0 n5 sc) = true := by kernel_rfl
theorem firsts : (List.range 40).all (firstB sc sb) = true := by kernel_rfl
theorem run_empty : chkT (callG (CX (bdC 1 40)) extIsB 1000 4 [n5, .str []] fin 6 H0 []) = true := by kernel_rfl
theorem run_long : chkT (callG (CX bdL) extIsB 1000 4 [n5, .str [.var 1]] fin 6 H0 []) = true := by kernel_rfl
end Go.AM
