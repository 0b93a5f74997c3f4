/- TopBudget answers true for every budget, every row of requests and every row of sizes, and its arguments read as they did, where the listed variables hold what the row lays; no other condition. -/
import Derived.Test.YtpgfdoakehpnlaaGreatDoorAyT
import Derived.Test.YtpgfdoakehpnlaaGreatDoorAyU
import Derived.Test.YtpgfdoakehpnlaaGreatDoorAyV
import Derived.Test.YtpgfdoakehpnlaaGreatDoorAyW
import Derived.Test.YtpgfdoakehpnlaaGreatDoorAyX
set_option linter.unusedVariables false
set_option linter.unusedSimpArgs false
namespace Go.Proofs.YtpgfdoakehpnlaaGreatDoor
open Go Go.AM Go.ChangeShapes Go.WideShapes Go.ChangeAt Go.RowKit
set_option maxRecDepth 100000
theorem budget_closed : joinedFacts Tryz.pinned.checked.prog 6 Tryz.f6 Rows.topBudgetSpec Rows.topBudgetRow = true := by
  unfold joinedFacts
  rw [budget_inPlace, budget_unfollowed, budget_recurses, budget_named]
  kernel_rfl
theorem budget_wrap : Tryz.f6.isWrapper Tryz.pinned.checked.prog Rows.topBudgetRow.wrapper Rows.topBudgetRow.mainSum := by unfold Func.isWrapper; first | (rw [if_pos (by decide +kernel)]; kernel_rfl) | (rw [if_neg (by decide +kernel)]; exact ⟨rfl, rfl⟩)
theorem budget_inst : Tryz.f6.isInstance Tryz.pinned.checked.prog Rows.topBudgetRow.origin Rows.topBudgetRow.targs := of_decide_eq_true (by kernel_rfl)
theorem budget_holds : Rows.TopBudgetSaid :=
  OpenClaim.holds_of_wide 6 Tryz.f6 rfl rfl rfl rfl rfl rfl rfl ⟨rfl, rfl, rfl, rfl, rfl⟩ rfl rfl rfl rfl rfl budget_fn Tryz.func6 budget_closed budget_inst budget_wrap
    (fun os started H enc _ => budget_lifted os started H enc)
theorem proved : Rows.TopBudgetCardSaid :=
  Claim7.holds_tied_plain_at .later [] [.data, .data, .data, .data, .pinned] true (true, "202da19c1f2557af2e29f7bc473f458cf3610eb72b88dc6ef6f7ba49981bfe8d") true budget_holds (fun _ h => by cases h) budget_wft (fun _ h => by cases h) topBudget_row_tie rfl ⟨rfl, rfl⟩ top_main rfl
    (fun f fn hf hfn => by
      obtain rfl : f = 6 := Option.some.inj (budget_fn.symm.trans hf) |>.symm
      obtain rfl : fn = Tryz.f6 := (Option.some.inj (Tryz.func6.symm.trans hfn)).symm
      exact ⟨top_looks, fun j t ht => by
        rw [Tryz.params6] at ht
        have hm : t ∈ [3, 23, 71] := by simpa using Array.mem_of_getElem? ht
        exact (show Tryz.prog.wantsStandIn t = false by simpa using List.all_eq_true.1 budget_whole t hm)⟩)
    budget_goes
#print axioms proved
end Go.Proofs.YtpgfdoakehpnlaaGreatDoor
