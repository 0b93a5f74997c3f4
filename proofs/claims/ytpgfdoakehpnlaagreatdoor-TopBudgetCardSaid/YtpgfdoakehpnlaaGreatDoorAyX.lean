import Derived.Test.YtpgfdoakehpnlaaGreatDoorCards
import Derived.Test.YtpgfdoakehpnlaaGreatDoorTie
import Derived.ProofKit
import Derived.LaidMore
import Derived.SevenTiedAt
set_option linter.unusedVariables false
set_option linter.unusedSimpArgs false
namespace Go.Proofs.YtpgfdoakehpnlaaGreatDoor
open Go
set_option maxRecDepth 100000
/-! # TopBudget: closed facts of its row, one by one -/
theorem top_looks : true = Tryz.pinned.checked.prog.looks [] := by kernel_rfl
theorem top_main : Tryz.pinned.checked.prog.mainIs = some (true, "202da19c1f2557af2e29f7bc473f458cf3610eb72b88dc6ef6f7ba49981bfe8d".toList) := by kernel_rfl
theorem budget_fn : Tryz.pinned.checked.prog.funcNamed "reservoir/reservoirtop.TopBudget" = some 6 := by kernel_rfl
theorem budget_whole : ([3, 23, 71].all fun u => !Tryz.prog.wantsStandIn u) = true := by kernel_rfl
end Go.Proofs.YtpgfdoakehpnlaaGreatDoor
