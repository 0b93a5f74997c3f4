/- WindowRuns returns true, in whatever world. -/
import Derived.Test.YthkkdhjippnkfaaLeast
namespace Go.Proofs.Ythkkdhjippnkfaa
open Go.ChangeShapes Go.WideShapes Go.ChangeAt Go.RowKit
set_option linter.unusedVariables false
set_option maxHeartbeats 1000000 in
set_option maxRecDepth 100000 in
theorem runs_any (w : World) : Calls Try.prog 3 #[] w fun e w' => e = .returned (.bool true) ∧ Below w.heap.size w w' := by
  go_enter Try.func3, Try.ntmps3
  go_wp2_with (first
    | (go_at_call 9; refine (of_yes _ _ (by omega) (by omega)).mono ?_; rintro e w1 ⟨rfl, rfl⟩)
    | (go_at_call 13; refine (new_no _ _ (by omega)).mono ?_; rintro e w1 ⟨rfl, rfl⟩)
    | (go_at_call 14; refine (left_any _ _).mono ?_; rintro e w1 ⟨rfl, rfl⟩)
    | (go_at_call 10; refine (take_yes _ _ _ (by omega) (by omega) (by omega)).mono ?_; rintro e w1 ⟨rfl, rfl⟩)
    | (go_at_call 10; refine (take_no _ _ _ (by omega)).mono ?_; rintro e w1 ⟨rfl, rfl⟩)
    | (go_at_call 11; refine (credit_yes _ _ _ (by omega) (by omega) (by omega) (by omega) (by omega)).mono ?_; rintro e w1 ⟨rfl, rfl⟩)
    | (go_at_call 11; refine (credit_no _ _ _ (by omega) (by omega) (by omega)).mono ?_; rintro e w1 ⟨rfl, rfl⟩)
    | (go_at_call 12; refine (shift_yes _ _ _ _ (by omega) (by omega) (by omega) (by omega) (by omega) (by omega) (by omega) (by omega)).mono ?_; rintro e w1 ⟨rfl, rfl⟩))
  refine (least_two _ 3 9 _ _ _ ?hb ?h0 ?h1).mono ?_
  case hb => go_simp
  case h0 => go_simp
  case h1 => go_simp
  rintro e w1 ⟨rfl, hB1⟩
  go_wp2_with fail
  refine (least_none _ _ _ _).mono ?_
  rintro e w2 ⟨rfl, hB2⟩
  go_wp2_with fail
  go_ret
  refine ⟨rfl, ?_⟩
  have hs := hB1.size
  simp only [World.size_alloc] at hs
  exact Below.trans (Below.trans (by go_grown) (hB1.mono (by simp only [World.size_alloc]; omega))) (hB2.mono (by omega))
end Go.Proofs.Ythkkdhjippnkfaa
