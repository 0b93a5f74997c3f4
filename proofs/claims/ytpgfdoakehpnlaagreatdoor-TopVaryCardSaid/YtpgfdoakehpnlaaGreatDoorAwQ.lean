import Derived.Test.YtpgfdoakehpnlaaGreatDoorCards
import Derived.Test.YtpgfdoakehpnlaaGreatDoorTie
import Derived.ProofKit
import Derived.LaidMore
import Derived.SevenTiedAt
set_option linter.unusedVariables false
set_option linter.unusedSimpArgs false
namespace Go.Proofs.YtpgfdoakehpnlaaGreatDoor
open Go
set_option maxRecDepth 100000
/-! # TopVary: closed facts of its row, one by one -/
theorem vary_named : (Rows.topVaryRow.named == Tryz.pinned.checked.prog.varsNamed 5) = true := by kernel_rfl
theorem vary_goes : false = Rows.topVaryRow.goesBy Tryz.pinned.checked.prog := by kernel_rfl
theorem vary_wft : Rows.topVaryRow.wfByText (OpenSpec.ofChange Rows.topVarySpec) = true := by kernel_rfl
end Go.Proofs.YtpgfdoakehpnlaaGreatDoor
