/- TopVary answers true for every three texts, and its arguments read as they did, where the listed variables hold what the row lays; no other condition. -/
import Derived.Test.YtpgfdoakehpnlaaGreatDoorAwN
import Derived.Test.YtpgfdoakehpnlaaGreatDoorAwO
import Derived.Test.YtpgfdoakehpnlaaGreatDoorAwP
import Derived.Test.YtpgfdoakehpnlaaGreatDoorAwQ
import Derived.Test.YtpgfdoakehpnlaaGreatDoorAwR
set_option linter.unusedVariables false
set_option linter.unusedSimpArgs false
namespace Go.Proofs.YtpgfdoakehpnlaaGreatDoor
open Go Go.AM Go.ChangeShapes Go.WideShapes Go.ChangeAt Go.RowKit
set_option maxRecDepth 100000
theorem vary_closed : joinedFacts Tryz.pinned.checked.prog 5 Tryz.f5 Rows.topVarySpec Rows.topVaryRow = true := by
  unfold joinedFacts
  rw [vary_inPlace, vary_unfollowed, vary_recurses, vary_named]
  kernel_rfl
theorem vary_wrap : Tryz.f5.isWrapper Tryz.pinned.checked.prog Rows.topVaryRow.wrapper Rows.topVaryRow.mainSum := by unfold Func.isWrapper; first | (rw [if_pos (by decide +kernel)]; kernel_rfl) | (rw [if_neg (by decide +kernel)]; exact ⟨rfl, rfl⟩)
theorem vary_inst : Tryz.f5.isInstance Tryz.pinned.checked.prog Rows.topVaryRow.origin Rows.topVaryRow.targs := of_decide_eq_true (by kernel_rfl)
theorem vary_holds : Rows.TopVarySaid :=
  OpenClaim.holds_of_wide 5 Tryz.f5 rfl rfl rfl rfl rfl rfl rfl ⟨rfl, rfl, rfl, rfl, rfl⟩ rfl rfl rfl rfl rfl vary_fn Tryz.func5 vary_closed vary_inst vary_wrap
    (fun os started H enc _ => vary_lifted os started H enc)
theorem proved : Rows.TopVaryCardSaid :=
  Claim7.holds_tied_plain_at .later [] [.data, .data, .data, .data, .pinned] true (true, "202da19c1f2557af2e29f7bc473f458cf3610eb72b88dc6ef6f7ba49981bfe8d") true vary_holds (fun _ h => by cases h) vary_wft (fun _ h => by cases h) topVary_row_tie rfl ⟨rfl, rfl⟩ top_main rfl
    (fun f fn hf hfn => by
      obtain rfl : f = 5 := Option.some.inj (vary_fn.symm.trans hf) |>.symm
      obtain rfl : fn = Tryz.f5 := (Option.some.inj (Tryz.func5.symm.trans hfn)).symm
      exact ⟨top_looks, fun j t ht => by
        rw [Tryz.params5] at ht
        have hm : t ∈ [9, 9, 9] := by simpa using Array.mem_of_getElem? ht
        exact (show Tryz.prog.wantsStandIn t = false by simpa using List.all_eq_true.1 vary_whole t hm)⟩)
    vary_goes
#print axioms proved
end Go.Proofs.YtpgfdoakehpnlaaGreatDoor
