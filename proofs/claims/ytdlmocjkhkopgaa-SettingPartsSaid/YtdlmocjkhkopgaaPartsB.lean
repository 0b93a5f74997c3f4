/- SettingParts, lists of any length. -/
import Derived.Test.YtdlmocjkhkopgaaParts
namespace Go.Proofs.Ytdlmocjkhkopgaa
open Go.ChangeShapes Go.WideShapes Go.ChangeAt Go.RowKit
set_option linter.unusedVariables false
set_option linter.unusedSimpArgs false
set_option maxHeartbeats 1000000 in
set_option maxRecDepth 100000 in
theorem parts_law (x : S5) (v1 v2 : Value) (n1 n2 : Nat) (Z1 Z2 : Nat → Nat → Int) (w : World)
    (hR1 : Rowy w v1 n1 2 (fun i j => .int .i64 (Z1 i j))) (hR2 : Rowy w v2 n2 2 (fun i j => .int .i64 (Z2 i j)))
    (hZ1 : ∀ i j, i < n1 → j < 2 → -9223372036854775808 ≤ Z1 i j ∧ Z1 i j ≤ 9223372036854775807) (hZ2 : ∀ i j, i < n2 → j < 2 → -9223372036854775808 ≤ Z2 i j ∧ Z2 i j ≤ 9223372036854775807) :
    Calls Try.prog 5 #[agg5 x, v1, v2] w fun e w' => e = .returned (.bool true) ∧ Below w.heap.size w w' := by
  by_cases g : n1 ≤ 30 ∧ n2 ≤ 30
  · exact parts_any x v1 v2 n1 n2 Z1 Z2 w hR1 hR2 hZ1 hZ2 g.1 g.2
  obtain ⟨A1, cap1, rfl, -, -, -⟩ := hR1
  obtain ⟨A2, cap2, rfl, -, -, -⟩ := hR2
  unfold agg5
  by_cases g1 : 30 < n1
  · go_enter Try.func5, Try.ntmps5
    go_wp2_with (go_at_call 3; refine (runs_any _).mono ?_; rintro e w2 ⟨rfl, hB2⟩)
    go_ret
    exact ⟨rfl, Below.trans (by go_grown) (hB2.mono (by simp only [World.size_alloc]; omega))⟩
  · have g3 : decide ((30 : Int) < (n2 : Int)) = true := by simp; omega
    go_enter Try.func5, Try.ntmps5
    go_wp2_with (go_at_call 3; refine (runs_any _).mono ?_; rintro e w2 ⟨rfl, hB2⟩)
    go_ret
    exact ⟨rfl, Below.trans (by go_grown) (hB2.mono (by simp only [World.size_alloc]; omega))⟩
end Go.Proofs.Ytdlmocjkhkopgaa
