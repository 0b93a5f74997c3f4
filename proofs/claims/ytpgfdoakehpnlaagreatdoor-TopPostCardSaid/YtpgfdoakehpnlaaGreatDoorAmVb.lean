import Derived.Test.YtpgfdoakehpnlaaGreatDoorCards
import Derived.Test.YtpgfdoakehpnlaaGreatDoorTie
import Derived.ProofKit
import Derived.LaidMore
import Derived.SevenTiedAt
set_option linter.unusedVariables false
set_option linter.unusedSimpArgs false
namespace Go.Proofs.YtpgfdoakehpnlaaGreatDoor
open Go
set_option maxRecDepth 100000
/-! # TopPost: closed facts of its row, one by one -/
theorem post_unfollowed : (Rows.topPostRow.unfollowed == Tryz.pinned.checked.prog.unfollowed 7) = true := by kernel_rfl
theorem post_recurses : (Rows.topPostRow.recurses == Tryz.pinned.checked.prog.recurses 7) = true := by kernel_rfl
end Go.Proofs.YtpgfdoakehpnlaaGreatDoor
