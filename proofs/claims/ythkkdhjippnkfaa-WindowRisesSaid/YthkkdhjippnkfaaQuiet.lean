/- Contracts in the form that a quiet region asks. -/
import Derived.Test.YthkkdhjippnkfaaRuns
import Derived.Lib.QuietBelow
import Derived.BigQuiet
namespace Go.Proofs.Ythkkdhjippnkfaa
open Go.ChangeShapes Go.WideShapes Go.ChangeAt Go.RowKit Go.Sort
set_option linter.unusedVariables false
theorem left_q (l : Int) (W : World) (d : Nat) (os : Array Obj) :
    Calls Try.prog 14 #[.agg #[.int .i64 l]] (grow (redrawn W d) os) fun e w'' => e = .returned (.int .i64 l) ∧ ∃ p : Regrown, w'' = grow (redrawn W p.d) p.os :=
  Calls.regrown_of ((left_any _ _).mono fun e w' ⟨h1, h2⟩ => ⟨h1, by subst h2; exact (Below.refl _ _).alloc (Nat.le_refl _) _⟩)
theorem runs_q (W : World) (d : Nat) (os : Array Obj) :
    Calls Try.prog 3 #[] (grow (redrawn W d) os) fun e w'' => e = .returned (.bool true) ∧ ∃ p : Regrown, w'' = grow (redrawn W p.d) p.os :=
  Calls.regrown_of (runs_any _)
end Go.Proofs.Ythkkdhjippnkfaa
