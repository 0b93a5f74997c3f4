/- Package weigh: Seconds, Share, edges. -/
import Derived.Test.YtccjblcfnoelbaaKitB
namespace Go.Proofs.Ytccjblcfnoelbaa
open Go.ChangeShapes Go.WideShapes Go.ChangeAt Go.RowKit
set_option linter.unusedVariables false
set_option linter.unusedSimpArgs false

abbrev fge (x y : Nat) : Bool := FloatKind.f64.format.order x y == some .gt || FloatKind.f64.format.order x y == some .eq
theorem fge_iff (a b : Nat) : fge a b = decide (¬ nan a ∧ ¬ nan b ∧ key b ≤ key a) := by
  show (_ || _) = _
  rw [gt_iff a b, eq_iff a b, ← Bool.decide_or]
  exact decide_eq_decide.2 ⟨fun h => by rcases h with ⟨h1, h2, h3⟩ | ⟨h1, h2, h3⟩ <;> exact ⟨h1, h2, by omega⟩, fun ⟨h1, h2, h3⟩ => by
    rcases Int.lt_or_eq_of_le h3 with h | h
    · exact .inl ⟨h1, h2, h⟩
    · exact .inr ⟨h1, h2, h.symm⟩⟩
noncomputable def secs (x : Nat) : Int := if fge x 4746794007244308480 then 2147483647 else if fgt x 0 then ((val (rung x) / U : Nat) : Int) else 0
theorem key_pos {x : Nat} (h : 0 < key x) : key x = rung x ∧ sgn x = false := by
  unfold key at h ⊢
  split at h
  · omega
  · rename_i hs
    rw [if_neg hs]
    exact ⟨rfl, by simpa using hs⟩
theorem val_max : val 4746794007244308480 = 2147483647 * U := by
  obtain ⟨r, h1, _, h3⟩ := ofInt_U 2147483647 (by decide)
  have : r = 4746794007244308480 := by rw [← h1]; decide +kernel
  rw [← this]; exact h3
/-- What may be cut to a whole number. -/
theorem conv_ok (x : Nat) (hs : sgn x = false) (h : rung x ≤ 4746794007244308480) : floatToIntVal .f64 x .i64 = some ((val (rung x) / U : Nat) : Int) ∧ val (rung x) / U ≤ 2147483647 := by
  have hv : val (rung x) ≤ 2147483647 * U := by
    rw [← val_max]
    rcases Nat.lt_or_eq_of_le h with h | h
    · exact Nat.le_of_lt (val_lt h)
    · rw [h]; exact Nat.le_refl _
  have hd : val (rung x) / U ≤ 2147483647 := by
    have := Nat.div_le_div_right (c := U) hv
    rwa [Nat.mul_div_cancel _ U_pos] at this
  refine ⟨?_, hd⟩
  unfold floatToIntVal
  rw [show (FloatKind.f64.decode x).toInt .zero = _ from toInt_U x (by omega), hs]
  simp only [Bool.false_eq_true, if_false]
  rw [if_pos]
  show (-9223372036854775808 : Int) ≤ _ ∧ _ ≤ (9223372036854775807 : Int)
  generalize val (rung x) / U = q at *
  omega
theorem secs_conv (x : Nat) (h1 : fge x 4746794007244308480 = false) (h2 : fgt x 0 = true) : floatToIntVal .f64 x .i64 = some ((val (rung x) / U : Nat) : Int) := by
  rw [fge_iff] at h1
  rw [show fgt x 0 = _ from gt_iff x 0] at h2
  have h1 := of_decide_eq_false h1
  have h2 := of_decide_eq_true h2
  rw [show key 0 = 0 by decide] at h2
  have hk := key_pos h2.2.2
  have hm : key 4746794007244308480 = 4746794007244308480 := by decide
  rw [hm] at h1
  refine (conv_ok x hk.2 ?_).1
  rcases Nat.lt_or_ge 4746794007244308480 (rung x) with h | h
  · exact absurd ⟨h2.1, by decide, by omega⟩ h1
  · exact h
theorem run_f2i (x : Nat) (n : Int) (w : World) (h : floatToIntVal .f64 x .i64 = some n) : (convert 22 3 (.float .f64 x)).run Try.prog w = .ok (.int .i64 n) w :=
  run_convert_float_int w 22 3 .f64 .i64 x n (by rw [Try.underlying22]; rfl) Try.underlying3 h
theorem run_i2f (n : Int) (w : World) : (convert 3 22 (.int .i64 n)).run Try.prog w = .ok (.float .f64 (floatOfInt .f64 n)) w :=
  run_convert_int_float w 3 22 .i64 .f64 n (by rw [Try.underlying3]; rfl) Try.underlying22
theorem run_mul {P : Program} (t : TypeId) (x y r : Nat) (w : World) (h : FloatKind.f64.format.mul x y = some r) : (binOp .mul t (.float .f64 x) (.float .f64 y)).run P w = .ok (.float .f64 r) w := run_float_arith (P := P) w .mul t .f64 x y r h
attribute [local go_sem] run_f2i run_i2f run_mul run_quo
set_option maxRecDepth 100000 in
theorem seconds_any (x : Nat) (w : World) : Calls Try.prog 18 #[.float .f64 x] w fun e w' => e = .returned (.int .i64 (secs x)) ∧ w = w' := by
  unfold secs
  cases h1 : fge x 4746794007244308480
  · cases h2 : fgt x 0
    · go_enter Try.func18, Try.ntmps18
      go_wp2
      go_returns
      exact ⟨rfl, rfl⟩
    · have hc := secs_conv x h1 h2
      go_enter Try.func18, Try.ntmps18
      go_wp2
      go_returns
      exact ⟨rfl, rfl⟩
  · go_enter Try.func18, Try.ntmps18
    go_wp2
    go_returns
    exact ⟨rfl, rfl⟩
set_option maxRecDepth 100000 in
theorem rseconds_any (x : Nat) (w : World) : Calls Try.prog 22 #[.float .f64 x] w fun e w' => e = .returned (.int .i64 (secs x)) ∧ w = w' := by
  unfold secs
  cases h1 : fge x 4746794007244308480
  · cases h2 : fgt x 0
    · go_enter Try.func22, Try.ntmps22
      go_wp2
      go_returns
      exact ⟨rfl, rfl⟩
    · have hc := secs_conv x h1 h2
      go_enter Try.func22, Try.ntmps22
      go_wp2
      go_returns
      exact ⟨rfl, rfl⟩
  · go_enter Try.func22, Try.ntmps22
    go_wp2
    go_returns
    exact ⟨rfl, rfl⟩
/-- A whole number brought into 0 to MaxInt. -/
def clampI (n : Int) : Int := if n < 0 then 0 else if 2147483647 < n then 2147483647 else n
set_option maxRecDepth 100000 in
theorem share_at (n : Int) (x p : Nat) (r : Int) (w : World) (hm : FloatKind.f64.format.mul (floatOfInt .f64 (clampI n)) (clean x) = some p) (hc : floatToIntVal .f64 p .i64 = some r) :
    Calls Try.prog 17 #[.int .i64 n, .float .f64 x] w fun e w' => e = .returned (.int .i64 r) ∧ w = w' := by
  rcases (show n < 0 ∨ (¬ n < 0 ∧ 2147483647 < n) ∨ n = 0 ∨ (0 < n ∧ n ≤ 2147483647) by omega) with h | ⟨h, h'⟩ | rfl | ⟨h, h'⟩
  · rw [clampI, if_pos h] at hm
    go_enter Try.func17, Try.ntmps17
    go_wp2_with (go_at_call 15; refine (clean_any _ _).mono ?_; rintro e w1 ⟨rfl, rfl⟩)
    go_returns
    exact ⟨rfl, rfl⟩
  · rw [clampI, if_neg h, if_pos h'] at hm
    go_enter Try.func17, Try.ntmps17
    go_wp2_with (go_at_call 15; refine (clean_any _ _).mono ?_; rintro e w1 ⟨rfl, rfl⟩)
    go_returns
    exact ⟨rfl, rfl⟩
  · rw [clampI, if_neg (by decide), if_neg (by decide)] at hm
    go_enter Try.func17, Try.ntmps17
    go_wp2_with (go_at_call 15; refine (clean_any _ _).mono ?_; rintro e w1 ⟨rfl, rfl⟩)
    go_returns
    exact ⟨rfl, rfl⟩
  · rw [clampI, if_neg (by omega), if_neg (by omega)] at hm
    have h1 : ¬ n < 0 := by omega
    have h2 : ¬ 2147483647 < n := by omega
    go_enter Try.func17, Try.ntmps17
    go_wp2_with (go_at_call 15; refine (clean_any _ _).mono ?_; rintro e w1 ⟨rfl, rfl⟩)
    all_goals
      go_returns
      exact ⟨rfl, rfl⟩
set_option maxRecDepth 100000 in
theorem rshare_at (n : Int) (x p : Nat) (r : Int) (w : World) (hm : FloatKind.f64.format.mul (floatOfInt .f64 (clampI n)) (clean x) = some p) (hc : floatToIntVal .f64 p .i64 = some r) :
    Calls Try.prog 24 #[.int .i64 n, .float .f64 x] w fun e w' => e = .returned (.int .i64 r) ∧ w = w' := by
  rcases (show n < 0 ∨ (¬ n < 0 ∧ 2147483647 < n) ∨ n = 0 ∨ (0 < n ∧ n ≤ 2147483647) by omega) with h | ⟨h, h'⟩ | rfl | ⟨h, h'⟩
  · rw [clampI, if_pos h] at hm
    go_enter Try.func24, Try.ntmps24
    go_wp2_with (go_at_call 21; refine (rclean_any _ _).mono ?_; rintro e w1 ⟨rfl, rfl⟩)
    go_returns
    exact ⟨rfl, rfl⟩
  · rw [clampI, if_neg h, if_pos h'] at hm
    go_enter Try.func24, Try.ntmps24
    go_wp2_with (go_at_call 21; refine (rclean_any _ _).mono ?_; rintro e w1 ⟨rfl, rfl⟩)
    go_returns
    exact ⟨rfl, rfl⟩
  · rw [clampI, if_neg (by decide), if_neg (by decide)] at hm
    go_enter Try.func24, Try.ntmps24
    go_wp2_with (go_at_call 21; refine (rclean_any _ _).mono ?_; rintro e w1 ⟨rfl, rfl⟩)
    go_returns
    exact ⟨rfl, rfl⟩
  · rw [clampI, if_neg (by omega), if_neg (by omega)] at hm
    have h1 : ¬ n < 0 := by omega
    have h2 : ¬ 2147483647 < n := by omega
    go_enter Try.func24, Try.ntmps24
    go_wp2_with (go_at_call 21; refine (rclean_any _ _).mono ?_; rintro e w1 ⟨rfl, rfl⟩)
    all_goals
      go_returns
      exact ⟨rfl, rfl⟩
end Go.Proofs.Ytccjblcfnoelbaa
