/- WindowRises. -/
import Derived.Test.YthkkdhjippnkfaaQuiet
import Derived.Deep.RegionHeld3
namespace Go.Proofs.Ythkkdhjippnkfaa
open Go.ChangeShapes Go.WideShapes Go.ChangeAt Go.RowKit Go.Sort
set_option linter.unusedVariables false

theorem wit_is (n lo hi x : Int) (w : World) (h : Hid (wit n lo hi = x)) (h0 : 0 ≤ lo) (h1 : lo ≤ hi) (h2 : hi ≤ 4294967296) (h3 : -9223372036854775808 ≤ n) (h4 : n ≤ 9223372036854775807) :
    Calls Try.prog 17 #[.int .i64 n, .int .i64 lo, .int .i64 hi] w fun e w' => e = .returned (.int .i64 x) ∧ w = w' := by
  have h' := h.out
  subst h'
  exact wit_any n lo hi w h0 h1 h2 h3 h4
theorem least_three_le (x y z : Int) (b cap : Nat) (w : World) (hx : 0 ≤ x) (hy : 0 ≤ y) (hz : 0 ≤ z) (hb : b < w.heap.size) (h0 : w.cell? ⟨b, 0, none⟩ = some (.int .i64 x)) (h1 : w.cell? ⟨b, 1, none⟩ = some (.int .i64 y)) (h2 : w.cell? ⟨b, 2, none⟩ = some (.int .i64 z)) :
    Calls Try.prog 15 #[.int .i64 2147483647, .slice (some ⟨b, 0, none⟩) 3 cap] w fun e w' => ∃ v : Int, v ≤ x ∧ v ≤ y ∧ v ≤ z ∧ e = .returned (.int .i64 v) ∧ Below w.heap.size w w' :=
  (least_three _ x y z b cap w hb h0 h1 h2).mono fun _ _ ⟨a, c⟩ => ⟨_, by omega, by omega, by omega, a, c⟩

end Go.Proofs.Ythkkdhjippnkfaa
