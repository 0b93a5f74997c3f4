/- TopCancelled answers true for every number and every text, and its arguments read as they did, where the listed variables hold what the row lays; no other condition. -/
import Derived.Test.YtpgfdoakehpnlaaGreatDoorAnI
import Derived.Test.YtpgfdoakehpnlaaGreatDoorAnJ
import Derived.Test.YtpgfdoakehpnlaaGreatDoorAnK
import Derived.Test.YtpgfdoakehpnlaaGreatDoorAnL
import Derived.Test.YtpgfdoakehpnlaaGreatDoorAnM
set_option linter.unusedVariables false
set_option linter.unusedSimpArgs false
namespace Go.Proofs.YtpgfdoakehpnlaaGreatDoor
open Go Go.AM Go.ChangeShapes Go.WideShapes Go.ChangeAt Go.RowKit
set_option maxRecDepth 100000
theorem cancel_closed : joinedFacts Tryz.pinned.checked.prog 4 Tryz.f4 Rows.topCancelledSpec Rows.topCancelledRow = true := by
  unfold joinedFacts
  rw [cancel_inPlace, cancel_unfollowed, cancel_recurses, cancel_named]
  kernel_rfl
theorem cancel_wrap : Tryz.f4.isWrapper Tryz.pinned.checked.prog Rows.topCancelledRow.wrapper Rows.topCancelledRow.mainSum := by unfold Func.isWrapper; first | (rw [if_pos (by decide +kernel)]; kernel_rfl) | (rw [if_neg (by decide +kernel)]; exact ⟨rfl, rfl⟩)
theorem cancel_inst : Tryz.f4.isInstance Tryz.pinned.checked.prog Rows.topCancelledRow.origin Rows.topCancelledRow.targs := of_decide_eq_true (by kernel_rfl)
theorem cancel_holds : Rows.TopCancelledSaid :=
  OpenClaim.holds_of_wide 4 Tryz.f4 rfl rfl rfl rfl rfl rfl rfl ⟨rfl, rfl, rfl, rfl, rfl⟩ rfl rfl rfl rfl rfl cancel_fn Tryz.func4 cancel_closed cancel_inst cancel_wrap
    (fun os started H enc _ => cancel_lifted os started H enc)
theorem proved : Rows.TopCancelledCardSaid :=
  Claim7.holds_tied_plain_at .later [] [.data, .data, .data, .data, .pinned] true (true, "202da19c1f2557af2e29f7bc473f458cf3610eb72b88dc6ef6f7ba49981bfe8d") true cancel_holds (fun _ h => by cases h) cancel_wft (fun _ h => by cases h) topCancelled_row_tie rfl ⟨rfl, rfl⟩ top_main rfl
    (fun f fn hf hfn => by
      obtain rfl : f = 4 := Option.some.inj (cancel_fn.symm.trans hf) |>.symm
      obtain rfl : fn = Tryz.f4 := (Option.some.inj (Tryz.func4.symm.trans hfn)).symm
      exact ⟨top_looks, fun j t ht => by
        rw [Tryz.params4] at ht
        have hm : t ∈ [3, 9] := by simpa using Array.mem_of_getElem? ht
        exact (show Tryz.prog.wantsStandIn t = false by simpa using List.all_eq_true.1 cancel_whole t hm)⟩)
    cancel_goes
#print axioms proved
end Go.Proofs.YtpgfdoakehpnlaaGreatDoor
