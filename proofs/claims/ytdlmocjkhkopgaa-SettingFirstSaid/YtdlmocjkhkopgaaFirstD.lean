/- SettingFirst. -/
import Derived.Test.YtdlmocjkhkopgaaFirstB
import Derived.Test.YtdlmocjkhkopgaaFirstC
import Derived.Deep.DeepCutAuto
namespace Go.Proofs.Ytdlmocjkhkopgaa
open Go.ChangeShapes Go.WideShapes Go.ChangeAt Go.RowKit
set_option linter.unusedVariables false
set_option linter.unusedSimpArgs false


theorem hr_ok (n : Int) (n1 : 16384 ≤ n) (n2 : n ≤ 16777215) : clamp n = n := by unfold clamp; omega
theorem hr2_ok (m v : Int) (m1 : 7 ≤ m) (m2 : m ≤ 65535) (x : S5) : res x m v = x ∧ cv m v = 0 := by
  have e : cv m v = 0 := by
    unfold cv
    rw [if_neg (by omega), if_neg (by omega), if_neg (by omega)]
  unfold res upd
  rw [e, if_pos rfl, if_neg (by omega), if_neg (by omega), if_neg (by omega), if_neg (by omega), if_neg (by omega)]
  exact ⟨rfl, rfl⟩
theorem first_law6 (id value : Int) (w : World) (i1 : -9223372036854775808 ≤ id) (i2 : id ≤ 9223372036854775807) (v1 : -9223372036854775808 ≤ value) (v2 : value ≤ 9223372036854775807) :
    Calls Try.prog 6 #[.int .i64 id, .int .i64 value] w fun e w' => e = .returned (.bool true) ∧ Below w.heap.size w w' := by
  have a1 := wit_lo id 1 6 (by decide)
  have a2 := wit_hi id 1 6 (by decide)
  have b1 := wit_lo id 7 65535 (by decide)
  have b2 := wit_hi id 7 65535 (by decide)
  have c1 := wit_lo value 16384 16777215 (by decide)
  have c2 := wit_hi value 16384 16777215 (by decide)
  generalize hk : wit id 1 6 = k at *
  generalize hm : wit id 7 65535 = m at *
  generalize hn : wit value 16384 16777215 = n at *
  obtain ⟨r2, s2⟩ := hr2_ok m value b1 b2 ⟨4096, 2147483647, 65535, 16384, 2147483647⟩
  have hc := hr_ok n c1 c2
  have hk' : k = 1 ∨ k = 2 ∨ k = 3 ∨ k = 4 ∨ k = 5 ∨ k = 6 := by omega
  rcases hk' with rfl | rfl | rfl | rfl | rfl | rfl
  · have e : cv 1 n = 0 := by simp [cv]
    exact first_k1 id value n m w hk hm hn b1 b2 c1 c2 i1 i2 v1 v2 (by unfold res; rw [e]; simp [upd, hc]) e r2 s2
  · have e : cv 2 n = 1 := by simp [cv]; omega
    exact first_k2 id value n m w hk hm hn b1 b2 c1 c2 i1 i2 v1 v2 (by unfold res; rw [e]; simp [upd, hc]) e r2 s2
  · have e : cv 3 n = 0 := by simp [cv]
    exact first_k3 id value n m w hk hm hn b1 b2 c1 c2 i1 i2 v1 v2 (by unfold res; rw [e]; simp [upd, hc]) e r2 s2
  · have e : cv 4 n = 0 := by simp [cv]; omega
    exact first_k4 id value n m w hk hm hn b1 b2 c1 c2 i1 i2 v1 v2 (by unfold res; rw [e]; simp [upd, hc]) e r2 s2
  · have e : cv 5 n = 0 := by simp [cv]; omega
    exact first_k5 id value n m w hk hm hn b1 b2 c1 c2 i1 i2 v1 v2 (by unfold res; rw [e]; simp [upd, hc]) e r2 s2
  · have e : cv 6 n = 0 := by simp [cv]
    exact first_k6 id value n m w hk hm hn b1 b2 c1 c2 i1 i2 v1 v2 (by unfold res; rw [e]; simp [upd, hc]) e r2 s2
end Go.Proofs.Ytdlmocjkhkopgaa
