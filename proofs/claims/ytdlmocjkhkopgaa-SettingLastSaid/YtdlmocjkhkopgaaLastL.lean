/- SettingLast: the three cases together. -/
import Derived.Test.YtdlmocjkhkopgaaLast1
import Derived.Test.YtdlmocjkhkopgaaLast3
import Derived.Test.YtdlmocjkhkopgaaLast6
namespace Go.Proofs.Ytdlmocjkhkopgaa
open Go.ChangeShapes Go.WideShapes Go.ChangeAt Go.RowKit
set_option linter.unusedVariables false
theorem last_law (id : Int) (v1 v2 : Value) (n1 n2 : Nat) (Y : Nat → Int) (Z : Nat → Nat → Int) (w : World)
    (i1 : -9223372036854775808 ≤ id) (i2 : id ≤ 9223372036854775807)
    (hR1 : Rowy w v1 n1 1 (fun i _ => .int .i64 (Y i))) (hR2 : Rowy w v2 n2 2 (fun i j => .int .i64 (Z i j)))
    (hY : ∀ i, -9223372036854775808 ≤ Y i ∧ Y i ≤ 9223372036854775807) (hZ : ∀ i j, i < n2 → j < 2 → -9223372036854775808 ≤ Z i j ∧ Z i j ≤ 9223372036854775807) :
    Calls Try.prog 7 #[.int .i64 id, v1, v2] w fun e w' => e = .returned (.bool true) ∧ Below w.heap.size w w' := by
  have w1 := wit_lo id 0 2 (by decide)
  have w2 := wit_hi id 0 2 (by decide)
  rcases (show wit id 0 2 = 0 ∨ wit id 0 2 = 1 ∨ wit id 0 2 = 2 by omega) with h | h | h
  · exact last_k1 id v1 v2 n1 n2 Y Z w h i1 i2 hR1 hR2 hY hZ
  · exact last_k3 id v1 v2 n1 n2 Y Z w h i1 i2 hR1 hR2 hY hZ
  · exact last_k6 id v1 v2 n1 n2 Y Z w h i1 i2 hR1 hR2 hY hZ
end Go.Proofs.Ytdlmocjkhkopgaa
