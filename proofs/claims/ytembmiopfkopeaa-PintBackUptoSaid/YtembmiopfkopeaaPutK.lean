/- For Put. -/
import Derived.Test.YtembmiopfkopeaaMem
import Derived.Deep.AppendLies
namespace Go.Proofs.Ytembmiopfkopeaa
open Go.ChangeShapes Go.WideShapes Go.ChangeAt Go.RowKit
set_option linter.unusedVariables false
set_option linter.unusedSimpArgs false

theorem nat_or128 : ∀ y : Fin 256, (y.val ||| 128) = y.val % 128 + 128 := by decide +kernel
theorem u8_or128 (y : Int) (h0 : 0 ≤ y) (h1 : y ≤ 255) : bits .or .u8 y 128 = y % 128 + 128 := by
  obtain ⟨a, rfl⟩ := Int.eq_ofNat_of_zero_le h0
  have := nat_or128 ⟨a, by omega⟩
  rw [show (128 : Int) = ((128 : Nat) : Int) from rfl, u8_or_nat _ _ (by omega) (by omega), this]
  simp
theorem wrap_u8_is (x : Int) : IntKind.u8.wrap x = x % 256 := by simp [IntKind.wrap, IntKind.bits, IntKind.signed]
theorem tail_small (f : Nat) (x : Int) (h : x < 128) : tailL f x = [x] := by
  cases f with
  | zero => rfl
  | succ f => rw [tailL, if_pos h]
theorem tail_big (f : Nat) (x : Int) (h : ¬ x < 128) : tailL (f + 1) x = (x % 128 + 128) :: tailL f (x / 128) := by rw [tailL, if_neg h]
end Go.Proofs.Ytembmiopfkopeaa
