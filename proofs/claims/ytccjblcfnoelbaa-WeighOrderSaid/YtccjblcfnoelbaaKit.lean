/- Package weigh: contracts of the small functions. -/
import Derived.Test.YtccjblcfnoelbaaOrd
namespace Go.Proofs.Ytccjblcfnoelbaa
open Go.ChangeShapes Go.WideShapes Go.ChangeAt Go.RowKit
set_option linter.unusedVariables false
set_option linter.unusedSimpArgs false

abbrev fgt (x y : Nat) : Bool := FloatKind.f64.format.order x y == some .gt
abbrev flt (x y : Nat) : Bool := FloatKind.f64.format.order x y == some .lt
abbrev feq (x y : Nat) : Bool := FloatKind.f64.format.order x y == some .eq
abbrev one : Nat := 4607182418800017408
def clean (x : Nat) : Nat := if fgt x 4607182418800017408 then 4607182418800017408 else if fgt x 0 then x else 0

set_option maxRecDepth 100000 in
theorem clean_any (x : Nat) (w : World) : Calls Try.prog 15 #[.float .f64 x] w fun e w' => e = .returned (.float .f64 (clean x)) ∧ w = w' := by
  unfold clean
  go_enter Try.func15, Try.ntmps15
  go_wp2_with fail
  all_goals
    go_returns
    refine ⟨?_, ?_⟩
    · first | rfl | (simp [*]; done) | (simp_all; done)
    · first | rfl | assumption

set_option maxRecDepth 100000 in
theorem rclean_any (x : Nat) (w : World) : Calls Try.prog 21 #[.float .f64 x] w fun e w' => e = .returned (.float .f64 (clean x)) ∧ w = w' := by
  unfold clean
  go_enter Try.func21, Try.ntmps21
  go_wp2_with fail
  all_goals
    go_returns
    refine ⟨?_, ?_⟩
    · first | rfl | (simp [*]; done) | (simp_all; done)
    · first | rfl | assumption

theorem run_f64bits (x : Nat) (w : World) : (callFunc 30 #[.float .f64 x]).run Try.prog w = .ok (.value (.int .u64 x)) w := by
  rw [run_callFunc_extern Try.func30 (by kernel_rfl) (by kernel_rfl) (by kernel_rfl) (show Extern.find Try.f30 = some Extern.MathFloatBits.float64bits by kernel_rfl)]
  rfl
theorem run_quo {P : Program} (t : TypeId) (x y r : Nat) (w : World) (h : FloatKind.f64.format.div x y = some r) : (binOp .quo t (.float .f64 x) (.float .f64 y)).run P w = .ok (.float .f64 r) w := run_float_arith (P := P) w .quo t .f64 x y r h
attribute [local go_sem] run_f64bits run_quo
theorem sgn_bits (x : Nat) (hx : x < 18446744073709551616) : decide (wrap64 (x : Int) < 0) = sgn x := by
  unfold sgn wrap64
  by_cases h : x / 9223372036854775808 % 2 = 1
  · rw [decide_eq_true (by omega)]; simp [h]
  · rw [decide_eq_false (by omega)]; simp [h]
theorem signbit_any (x : Nat) (w : World) (hx : x < 18446744073709551616) : Calls Try.prog 29 #[.float .f64 x] w fun e w' => e = .returned (.bool (sgn x)) ∧ w = w' := by
  have hs : decide (wrap64 (x : Int) < 0) = sgn x := sgn_bits x hx
  go_enter Try.func29, Try.ntmps29
  go_wp2
  go_returns
  exact ⟨by simp only [hs]; rfl, rfl⟩
def step (x : Nat) : Int := if feq x x = false then 0 else if flt x 0 then 1 else if fgt x 0 then 4 else if sgn x then 2 else 3
set_option maxRecDepth 100000 in
theorem step_any (x : Nat) (w : World) (hx : x < 18446744073709551616) : Calls Try.prog 27 #[.float .f64 x] w fun e w' => e = .returned (.int .i64 (step x)) ∧ w = w' := by
  unfold step
  by_cases h1 : feq x x = false
  · rw [if_pos h1]
    have h1' : (FloatKind.f64.format.order x x != some .eq) = true := by show (!(feq x x)) = true; rw [h1]; rfl
    go_enter Try.func27, Try.ntmps27
    go_wp2
    go_returns
    exact ⟨rfl, rfl⟩
  rw [if_neg h1]
  have h1' : (FloatKind.f64.format.order x x != some .eq) = false := by show (!(feq x x)) = false; rw [eq_true_of_ne_false h1]; rfl
  by_cases h2 : flt x 0 = true
  · rw [if_pos h2]
    go_enter Try.func27, Try.ntmps27
    go_wp2
    go_returns
    exact ⟨rfl, rfl⟩
  rw [if_neg h2]
  have h2 : flt x 0 = false := by simpa using h2
  by_cases h3 : fgt x 0 = true
  · rw [if_pos h3]
    go_enter Try.func27, Try.ntmps27
    go_wp2
    go_returns
    exact ⟨rfl, rfl⟩
  rw [if_neg h3]
  have h3 : fgt x 0 = false := by simpa using h3
  by_cases h4 : sgn x = true
  · rw [if_pos h4]
    go_enter Try.func27, Try.ntmps27
    go_wp2_with (go_at_call 29; refine (signbit_any _ _ hx).mono ?_; rintro e w1 ⟨rfl, rfl⟩; rw [h4])
    go_returns
    exact ⟨rfl, rfl⟩
  rw [if_neg h4]
  have h4 : sgn x = false := by simpa using h4
  go_enter Try.func27, Try.ntmps27
  go_wp2_with (go_at_call 29; refine (signbit_any _ _ hx).mono ?_; rintro e w1 ⟨rfl, rfl⟩; rw [h4])
  go_returns
  exact ⟨rfl, rfl⟩
theorem zero_of (x : Nat) (hx : x < 18446744073709551616) (h1 : ¬ feq x x = false) (h2 : flt x 0 = false) (h3 : fgt x 0 = false) : x = 0 ∨ x = 9223372036854775808 := by
  have h1 : feq x x = true := by simpa using h1
  rw [show feq x x = _ from eq_iff x x] at h1
  rw [show flt x 0 = _ from lt_iff x 0] at h2
  rw [show fgt x 0 = _ from gt_iff x 0] at h3
  have n1 := (of_decide_eq_true h1).1
  have n0 : ¬ nan 0 := by decide
  have k0 : key 0 = 0 := by decide
  have h2 := of_decide_eq_false h2
  have h3 := of_decide_eq_false h3
  have hk : key x = 0 := by
    rw [k0] at h2 h3
    rcases Int.lt_trichotomy (key x) 0 with h | h | h
    · exact absurd ⟨n1, n0, h⟩ h2
    · exact h
    · exact absurd ⟨n1, n0, h⟩ h3
  unfold key at hk
  unfold rung at hk
  split at hk <;> omega
set_option maxRecDepth 100000 in
theorem rclass_any (x : Nat) (w : World) (hx : x < 18446744073709551616) : Calls Try.prog 28 #[.float .f64 x] w fun e w' => e = .returned (.int .i64 (step x)) ∧ w = w' := by
  unfold step
  by_cases h1 : feq x x = false
  · rw [if_pos h1]
    have h1' : (FloatKind.f64.format.order x x != some .eq) = true := by show (!(feq x x)) = true; rw [h1]; rfl
    go_enter Try.func28, Try.ntmps28
    go_wp2
    go_returns
    exact ⟨rfl, rfl⟩
  rw [if_neg h1]
  have h1' : (FloatKind.f64.format.order x x != some .eq) = false := by show (!(feq x x)) = false; rw [eq_true_of_ne_false h1]; rfl
  by_cases h2 : flt x 0 = true
  · rw [if_pos h2]
    go_enter Try.func28, Try.ntmps28
    go_wp2
    go_returns
    exact ⟨rfl, rfl⟩
  rw [if_neg h2]
  have h2 : flt x 0 = false := by simpa using h2
  by_cases h3 : fgt x 0 = true
  · rw [if_pos h3]
    go_enter Try.func28, Try.ntmps28
    go_wp2
    go_returns
    exact ⟨rfl, rfl⟩
  rw [if_neg h3]
  have h3 : fgt x 0 = false := by simpa using h3
  rcases zero_of x hx h1 h2 h3 with rfl | rfl
  · rw [if_neg (by decide)]
    have hd : FloatKind.f64.format.div 4607182418800017408 0 = some 9218868437227405312 := by decide +kernel
    have hl : (FloatKind.f64.format.order 9218868437227405312 0 == some .lt) = false := by decide +kernel
    go_enter Try.func28, Try.ntmps28
    go_wp2
    trace_state
    go_returns
    exact ⟨rfl, rfl⟩
  · rw [if_pos (by decide)]
    have hd : FloatKind.f64.format.div 4607182418800017408 9223372036854775808 = some 18442240474082181120 := by decide +kernel
    have hl : (FloatKind.f64.format.order 18442240474082181120 0 == some .lt) = true := by decide +kernel
    go_enter Try.func28, Try.ntmps28
    go_wp2
    go_returns
    exact ⟨rfl, rfl⟩
end Go.Proofs.Ytccjblcfnoelbaa
