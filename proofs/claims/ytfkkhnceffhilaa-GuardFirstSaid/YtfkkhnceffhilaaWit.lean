/- Within. -/
import Derived.Test.YtfkkhnceffhilaaRuns
namespace Go.Proofs.Ytfkkhnceffhilaa
open Go.ChangeShapes Go.WideShapes Go.ChangeAt Go.RowKit
set_option linter.unusedVariables false
set_option linter.unusedSimpArgs false
/-- 'Within': n brought into lo to hi. -/
def wit (n lo hi : Int) : Int := lo + n % (hi - lo + 1)
theorem wit_lo (n lo hi : Int) (h : lo ≤ hi) : lo ≤ wit n lo hi := by
  unfold wit; have := Int.emod_nonneg n (show hi - lo + 1 ≠ 0 by omega); omega
theorem wit_hi (n lo hi : Int) (h : lo ≤ hi) : wit n lo hi ≤ hi := by
  unfold wit; have := Int.emod_lt_of_pos n (show 0 < hi - lo + 1 by omega); omega
theorem tmod_neg (n d : Int) (h : n < 0) (hd : 0 < d) : (n.tmod d = 0 ∧ n % d = 0) ∨ (n.tmod d < 0 ∧ n.tmod d + d = n % d ∧ 0 ≤ n.tmod d + d) := by
  have h1 := Int.emod_nonneg n (show d ≠ 0 by omega)
  have h2 := Int.emod_lt_of_pos n hd
  rw [Int.tmod_eq_emod]
  split
  · rename_i h3; rcases h3 with h3 | h3
    · omega
    · left; have := Int.emod_eq_zero_of_dvd h3; omega
  · rename_i h3
    right
    have : n % d ≠ 0 := fun e => h3 (.inr (Int.dvd_of_emod_eq_zero e))
    omega
set_option maxHeartbeats 400000 in
theorem wit_any (n lo hi : Int) (w : World) (h0 : 0 ≤ lo) (h1 : lo ≤ hi) (h2 : hi ≤ 4294967296) (h3 : -9223372036854775808 ≤ n) (h4 : n ≤ 9223372036854775807) :
    Calls Try.prog 34 #[.int .i64 n, .int .i64 lo, .int .i64 hi] w fun e w' => e = .returned (.int .i64 (wit n lo hi)) ∧ w = w' := by
  have a1 := wit_lo n lo hi h1
  have a2 := wit_hi n lo hi h1
  unfold wit at *
  by_cases h : 0 ≤ n
  · have a3 := Int.emod_nonneg n (show hi - lo + 1 ≠ 0 by omega)
    have a4 := Int.emod_lt_of_pos n (show 0 < hi - lo + 1 by omega)
    have h5 : ¬ (hi - lo + 1 = 0) := by omega
    go_enter Try.func34, Try.ntmps34
    go_wp2
    go_ret
    exact ⟨rfl, rfl⟩
  · have h5 : ¬ (hi - lo + 1 = 0) := by omega
    have h6 : n < 0 := by omega
    rcases tmod_neg n (hi - lo + 1) h6 (by omega) with ⟨b1, b2⟩ | ⟨b1, b2, b3⟩
    · have B2 := Lib.hid b2
      have B1 := Lib.hid b1
      have b3 : 0 ≤ n.tmod (hi - lo + 1) := by omega
      have b4 : n.tmod (hi - lo + 1) ≤ 0 := by omega
      clear b1 b2
      go_enter Try.func34, Try.ntmps34
      go_wp2
      go_ret
      refine ⟨ret_int ?_, rfl⟩
      rw [B2.out, B1.out]
    · have B2 := Lib.hid b2
      have b4 : n.tmod (hi - lo + 1) + (hi - lo + 1) ≤ hi - lo := by omega
      clear b2
      go_enter Try.func34, Try.ntmps34
      go_wp2
      go_ret
      refine ⟨ret_int ?_, rfl⟩
      rw [← B2.out]
      try omega
theorem wit_ex (n lo hi : Int) (w : World) (h0 : 0 ≤ lo) (h1 : lo ≤ hi) (h2 : hi ≤ 4294967296) (h3 : -9223372036854775808 ≤ n) (h4 : n ≤ 9223372036854775807) :
    Calls Try.prog 34 #[.int .i64 n, .int .i64 lo, .int .i64 hi] w fun e w' => ∃ x : Int, lo ≤ x ∧ x ≤ hi ∧ e = .returned (.int .i64 x) ∧ w = w' :=
  (wit_any n lo hi w h0 h1 h2 h3 h4).mono fun _ _ ⟨a, b⟩ => ⟨_, wit_lo n lo hi h1, wit_hi n lo hi h1, a, b⟩

end Go.Proofs.Ytfkkhnceffhilaa
