/- Package weigh: Compare, Seconds. -/
import Derived.Test.YtccjblcfnoelbaaKit
import Derived.Test.YtccjblcfnoelbaaCut
namespace Go.Proofs.Ytccjblcfnoelbaa
open Go.ChangeShapes Go.WideShapes Go.ChangeAt Go.RowKit
set_option linter.unusedVariables false
set_option linter.unusedSimpArgs false

/-- What a number's kind says. -/
theorem step_spec (a : Nat) (ha : a < 18446744073709551616) : (nan a ∧ step a = 0 ∧ rank a = -100000000000000000000) ∨
    (¬ nan a ∧ ((key a < 0 ∧ step a = 1 ∧ rank a = 2 * key a ∧ -9223372036854775808 ≤ key a) ∨ (key a = 0 ∧ step a = 2 ∧ rank a = -1) ∨ (key a = 0 ∧ step a = 3 ∧ rank a = 0) ∨ (0 < key a ∧ step a = 4 ∧ rank a = 2 * key a))) := by
  have n0 : ¬ nan 0 := by decide
  have k0 : key 0 = 0 := by decide
  by_cases hn : nan a
  · refine .inl ⟨hn, ?_, ?_⟩
    · unfold step
      rw [if_pos]
      show feq a a = false
      rw [show feq a a = _ from eq_iff a a]
      exact decide_eq_false (fun h => h.1 hn)
    · unfold rank; rw [if_pos hn]
  · refine .inr ⟨hn, ?_⟩
    have e1 : feq a a = true := by rw [show feq a a = _ from eq_iff a a]; exact decide_eq_true ⟨hn, hn, rfl⟩
    have e2 : flt a 0 = decide (key a < 0) := by
      rw [show flt a 0 = _ from lt_iff a 0, k0]
      exact decide_eq_decide.2 ⟨fun h => h.2.2, fun h => ⟨hn, n0, h⟩⟩
    have e3 : fgt a 0 = decide (0 < key a) := by
      rw [show fgt a 0 = _ from gt_iff a 0, k0]
      exact decide_eq_decide.2 ⟨fun h => h.2.2, fun h => ⟨hn, n0, h⟩⟩
    have hr : rung a < 9223372036854775808 := by unfold rung; omega
    unfold step rank
    rw [e1, e2, e3, if_neg hn, if_neg (by decide)]
    unfold key
    cases sgn a
    · simp only [Bool.false_eq_true, if_false]
      by_cases hz : rung a = 0
      · simp [hz]
      · have : 0 < (rung a : Int) := by omega
        have h2 : ¬ (rung a : Int) < 0 := by omega
        simp [hz, this, h2]
        omega
    · simp only [if_true]
      by_cases hz : rung a = 0
      · simp [hz]
      · have : -(rung a : Int) < 0 := by omega
        simp [hz, this]
        omega
def cmpF (a b : Nat) : Int := if step a < step b then -1 else if step b < step a then 1 else if flt a b then -1 else if fgt a b then 1 else 0
def cmpR (a b : Nat) : Int := if rank a < rank b then -1 else if rank b < rank a then 1 else 0
theorem cmp_rank (a b : Nat) (ha : a < 18446744073709551616) (hb : b < 18446744073709551616) : cmpF a b = cmpR a b := by
  have e2 : flt a b = decide (¬ nan a ∧ ¬ nan b ∧ key a < key b) := lt_iff a b
  have e3 : fgt a b = decide (¬ nan a ∧ ¬ nan b ∧ key b < key a) := gt_iff a b
  unfold cmpF cmpR
  rw [e2, e3]
  rcases step_spec a ha with ⟨na, sa, ra⟩ | ⟨na, ⟨ka, sa, ra, la⟩ | ⟨ka, sa, ra⟩ | ⟨ka, sa, ra⟩ | ⟨ka, sa, ra⟩⟩ <;>
  rcases step_spec b hb with ⟨nb, sb, rb⟩ | ⟨nb, ⟨kb, sb, rb, lb⟩ | ⟨kb, sb, rb⟩ | ⟨kb, sb, rb⟩ | ⟨kb, sb, rb⟩⟩ <;>
  rw [sa, sb, ra, rb] <;> simp [na, nb] <;> (repeat' split) <;> omega
set_option maxRecDepth 100000 in
theorem compare_any (a b : Nat) (w : World) (ha : a < 18446744073709551616) (hb : b < 18446744073709551616) : Calls Try.prog 19 #[.float .f64 a, .float .f64 b] w fun e w' => e = .returned (.int .i64 (cmpR a b)) ∧ w = w' := by
  rw [← cmp_rank a b ha hb]
  unfold cmpF
  rcases Int.lt_trichotomy (step a) (step b) with h | h | h
  · rw [if_pos h]
    go_enter Try.func19, Try.ntmps19
    go_wp2_with (go_at_call 27; refine (step_any _ _ (by assumption)).mono ?_; rintro e w1 ⟨rfl, rfl⟩)
    go_returns
    exact ⟨rfl, rfl⟩
  · rw [if_neg (by omega), if_neg (by omega)]
    cases h1 : flt a b
    · cases h2 : fgt a b
      · go_enter Try.func19, Try.ntmps19
        go_wp2_with (go_at_call 27; refine (step_any _ _ (by assumption)).mono ?_; rintro e w1 ⟨rfl, rfl⟩)
        go_returns
        exact ⟨rfl, rfl⟩
      · go_enter Try.func19, Try.ntmps19
        go_wp2_with (go_at_call 27; refine (step_any _ _ (by assumption)).mono ?_; rintro e w1 ⟨rfl, rfl⟩)
        go_returns
        exact ⟨rfl, rfl⟩
    · go_enter Try.func19, Try.ntmps19
      go_wp2_with (go_at_call 27; refine (step_any _ _ (by assumption)).mono ?_; rintro e w1 ⟨rfl, rfl⟩)
      go_returns
      exact ⟨rfl, rfl⟩
  · rw [if_neg (by omega), if_pos h]
    have h' : ¬ step a < step b := by omega
    go_enter Try.func19, Try.ntmps19
    go_wp2_with (go_at_call 27; refine (step_any _ _ (by assumption)).mono ?_; rintro e w1 ⟨rfl, rfl⟩)
    go_returns
    exact ⟨rfl, rfl⟩
set_option maxRecDepth 100000 in
theorem rcompare_any (a b : Nat) (w : World) (ha : a < 18446744073709551616) (hb : b < 18446744073709551616) : Calls Try.prog 23 #[.float .f64 a, .float .f64 b] w fun e w' => e = .returned (.int .i64 (cmpR a b)) ∧ w = w' := by
  rw [← cmp_rank a b ha hb]
  unfold cmpF
  rcases Int.lt_trichotomy (step a) (step b) with h | h | h
  · rw [if_pos h]
    go_enter Try.func23, Try.ntmps23
    go_wp2_with (go_at_call 28; refine (rclass_any _ _ (by assumption)).mono ?_; rintro e w1 ⟨rfl, rfl⟩)
    go_returns
    exact ⟨rfl, rfl⟩
  · rw [if_neg (by omega), if_neg (by omega)]
    cases h1 : flt a b
    · cases h2 : fgt a b
      · go_enter Try.func23, Try.ntmps23
        go_wp2_with (go_at_call 28; refine (rclass_any _ _ (by assumption)).mono ?_; rintro e w1 ⟨rfl, rfl⟩)
        go_returns
        exact ⟨rfl, rfl⟩
      · go_enter Try.func23, Try.ntmps23
        go_wp2_with (go_at_call 28; refine (rclass_any _ _ (by assumption)).mono ?_; rintro e w1 ⟨rfl, rfl⟩)
        go_returns
        exact ⟨rfl, rfl⟩
    · go_enter Try.func23, Try.ntmps23
      go_wp2_with (go_at_call 28; refine (rclass_any _ _ (by assumption)).mono ?_; rintro e w1 ⟨rfl, rfl⟩)
      go_returns
      exact ⟨rfl, rfl⟩
  · rw [if_neg (by omega), if_pos h]
    have h' : ¬ step a < step b := by omega
    have h2 : (step a == step b) = false := by simp; omega
    go_enter Try.func23, Try.ntmps23
    go_wp2_with (go_at_call 28; refine (rclass_any _ _ (by assumption)).mono ?_; rintro e w1 ⟨rfl, rfl⟩)
    go_returns
    exact ⟨rfl, rfl⟩
theorem cmpR_zero (a b : Nat) : (cmpR a b == 0) = decide (rank a = rank b) := by
  unfold cmpR
  rcases Int.lt_trichotomy (rank a) (rank b) with h | h | h
  · rw [if_pos h, decide_eq_false (by omega)]; rfl
  · rw [if_neg (by omega), if_neg (by omega), decide_eq_true h]; rfl
  · rw [if_neg (by omega), if_pos h, decide_eq_false (by omega)]; rfl
set_option maxRecDepth 100000 in
theorem same_any (a b : Nat) (w : World) (ha : a < 18446744073709551616) (hb : b < 18446744073709551616) : Calls Try.prog 14 #[.float .f64 a, .float .f64 b] w fun e w' => e = .returned (.bool (decide (rank a = rank b))) ∧ w = w' := by
  rw [← cmpR_zero]
  go_enter Try.func14, Try.ntmps14
  go_wp2_with (go_at_call 23; refine (rcompare_any _ _ _ ha hb).mono ?_; rintro e w1 ⟨rfl, rfl⟩)
  go_returns
  exact ⟨rfl, rfl⟩
end Go.Proofs.Ytccjblcfnoelbaa
