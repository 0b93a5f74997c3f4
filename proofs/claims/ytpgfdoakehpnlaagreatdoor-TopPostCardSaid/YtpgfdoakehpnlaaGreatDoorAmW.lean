import Derived.Test.YtpgfdoakehpnlaaGreatDoorAmV
import Derived.Test.YtpgfdoakehpnlaaGreatDoorAmVa
import Derived.Test.YtpgfdoakehpnlaaGreatDoorAmVb
import Derived.Test.YtpgfdoakehpnlaaGreatDoorAmVc
import Derived.Test.YtpgfdoakehpnlaaGreatDoorAmVd
set_option linter.unusedVariables false
set_option linter.unusedSimpArgs false
namespace Go.Proofs.YtpgfdoakehpnlaaGreatDoor
open Go Go.AM Go.ChangeShapes Go.WideShapes Go.ChangeAt Go.RowKit
set_option maxRecDepth 100000
theorem post_closed : joinedFacts Tryz.pinned.checked.prog 7 Tryz.f7 Rows.topPostSpec Rows.topPostRow = true := by
  unfold joinedFacts
  rw [post_inPlace, post_unfollowed, post_recurses, post_named]
  kernel_rfl
theorem post_wrap : Tryz.f7.isWrapper Tryz.pinned.checked.prog Rows.topPostRow.wrapper Rows.topPostRow.mainSum := by unfold Func.isWrapper; first | (rw [if_pos (by decide +kernel)]; kernel_rfl) | (rw [if_neg (by decide +kernel)]; exact ⟨rfl, rfl⟩)
theorem post_inst : Tryz.f7.isInstance Tryz.pinned.checked.prog Rows.topPostRow.origin Rows.topPostRow.targs := of_decide_eq_true (by kernel_rfl)
theorem post_holds : Rows.TopPostSaid :=
  OpenClaim.holds_of_wide 7 Tryz.f7 rfl rfl rfl rfl rfl rfl rfl ⟨rfl, rfl, rfl, rfl, rfl⟩ rfl rfl rfl rfl rfl post_fn Tryz.func7 post_closed post_inst post_wrap
    (fun os started H enc _ => post_lifted os started H enc)
theorem proved : Rows.TopPostCardSaid :=
  Claim7.holds_tied_plain_at .later [] [.data, .data, .data, .data, .pinned] true (true, "202da19c1f2557af2e29f7bc473f458cf3610eb72b88dc6ef6f7ba49981bfe8d") true post_holds (fun _ h => by cases h) post_wft (fun _ h => by cases h) topPost_row_tie rfl ⟨rfl, rfl⟩ top_main rfl
    (fun f fn hf hfn => by
      obtain rfl : f = 7 := Option.some.inj (post_fn.symm.trans hf) |>.symm
      obtain rfl : fn = Tryz.f7 := (Option.some.inj (Tryz.func7.symm.trans hfn)).symm
      exact ⟨top_looks, fun j t ht => by
        rw [Tryz.params7] at ht
        have hm : t ∈ [3, 9, 9] := by simpa using Array.mem_of_getElem? ht
        exact (show Tryz.prog.wantsStandIn t = false by simpa using List.all_eq_true.1 post_whole t hm)⟩)
    post_goes
#print axioms proved
end Go.Proofs.YtpgfdoakehpnlaaGreatDoor
