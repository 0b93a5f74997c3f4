/- The document's answer: its errors. -/
import Derived.Test.YtolpfbdklcjlkaaSett
namespace Go.Proofs.Ytolpfbdklcjlkaa
open Go.ChangeShapes Go.WideShapes Go.ChangeAt Go.RowKit
set_option linter.unusedVariables false
set_option linter.unusedSimpArgs false

theorem rbadc_any (c : Int) (w : World) : Calls Try.prog 33 #[.int .i64 2, .int .i64 c, .int .i64 0] w fun e w' => e = .returned (.tuple #[.agg zP, .agg #[.int .i64 2, .int .i64 c, .int .i64 0]]) ∧ Below w.heap.size w w' := by
  have h := rbad_any 2 c 0 w
  rw [if_pos rfl] at h
  exact h
theorem rbads_any (c s : Int) (w : World) : Calls Try.prog 33 #[.int .i64 1, .int .i64 c, .int .i64 s] w fun e w' => e = .returned (.tuple #[.agg zP, .agg #[.int .i64 1, .int .i64 c, .int .i64 s]]) ∧ Below w.heap.size w w' := by
  have h := rbad_any 1 c s w
  rw [if_neg (by decide)] at h
  exact h
end Go.Proofs.Ytolpfbdklcjlkaa
