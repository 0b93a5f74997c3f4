/- Package setting: plain functions, and the contracts of Value, First and their kin. -/
import Derived.Test.YtdlmocjkhkopgaaMisc
namespace Go.Proofs.Ytdlmocjkhkopgaa
open Go.ChangeShapes Go.WideShapes Go.ChangeAt Go.RowKit
set_option linter.unusedVariables false

/-- Why a setting can't be; 0: it can. -/
def cv (i v : Int) : Int :=
  if i = 2 then (if 0 ≤ v ∧ v ≤ 1 then 0 else 1)
  else if i = 4 then (if 0 ≤ v ∧ v ≤ 2147483647 then 0 else 3)
  else if i = 5 then (if 16384 ≤ v ∧ v ≤ 16777215 then 0 else 1)
  else 0
/-- A set. -/
structure S5 where
  t : Int
  s : Int
  w : Int
  f : Int
  l : Int
def clamp (v : Int) : Int := min (max v 0) 2147483647
def upd (x : S5) (i v : Int) : S5 :=
  if i = 1 then { x with t := clamp v } else if i = 3 then { x with s := clamp v } else if i = 4 then { x with w := clamp v }
  else if i = 5 then { x with f := clamp v } else if i = 6 then { x with l := clamp v } else x
def ap (Z : Nat → Nat → Int) (x : S5) : Nat → S5
  | 0 => x
  | k + 1 => upd (ap Z x k) (Z k 0) (Z k 1)
def agg5 (x : S5) : Value := .agg #[.int .i64 x.t, .int .i64 x.s, .int .i64 x.w, .int .i64 x.f, .int .i64 x.l]
/-- All settings below k can be. -/
def AllFine (Z : Nat → Nat → Int) (k : Nat) : Prop := ∀ j, j < k → cv (Z j 0) (Z j 1) = 0
/-- What Apply answers: the set r and the code c. -/
def Ans (Z : Nat → Nat → Int) (x : S5) (n : Nat) (r : S5) (c : Int) : Prop :=
  (AllFine Z n ∧ r = ap Z x n ∧ c = 0) ∨ ∃ m, m < n ∧ AllFine Z m ∧ c = cv (Z m 0) (Z m 1) ∧ c ≠ 0 ∧ r = x
theorem Ans.one {Z : Nat → Nat → Int} {x : S5} {n : Nat} {r r' : S5} {c c' : Int} (h : Ans Z x n r c) (h' : Ans Z x n r' c') : r = r' ∧ c = c' := by
  rcases h with ⟨a, b, d⟩ | ⟨m, h1, h2, h3, h4, h5⟩ <;> rcases h' with ⟨a', b', d'⟩ | ⟨m', h1', h2', h3', h4', h5'⟩
  · exact ⟨b.trans b'.symm, d.trans d'.symm⟩
  · exact absurd (h3'.trans (a m' h1')) h4'
  · exact absurd (h3.trans (a' m h1)) h4
  · have : m = m' := by
      rcases Nat.lt_trichotomy m m' with h | h | h
      · exact absurd (h3.trans (h2' m h)) h4
      · exact h
      · exact absurd (h3'.trans (h2 m' h)) h4'
    subst this
    exact ⟨h5.trans h5'.symm, h3.trans h3'.symm⟩

theorem within_yes (n lo hi : Int) (w : World) (h0 : lo ≤ n) (h1 : n ≤ hi) : Calls Try.prog 21 #[.int .i64 n, .int .i64 lo, .int .i64 hi] w fun e w' => e = .returned (.bool true) ∧ w = w' := by
  go_enter Try.func21, Try.ntmps21
  go_wp2
  go_ret
  exact ⟨rfl, rfl⟩
theorem within_no1 (n lo hi : Int) (w : World) (h0 : n < lo) : Calls Try.prog 21 #[.int .i64 n, .int .i64 lo, .int .i64 hi] w fun e w' => e = .returned (.bool false) ∧ w = w' := by
  go_enter Try.func21, Try.ntmps21
  go_wp2
  go_ret
  exact ⟨rfl, rfl⟩
theorem within_no2 (n lo hi : Int) (w : World) (h0 : lo ≤ n) (h1 : hi < n) : Calls Try.prog 21 #[.int .i64 n, .int .i64 lo, .int .i64 hi] w fun e w' => e = .returned (.bool false) ∧ w = w' := by
  have h2 : decide (n ≤ hi) = false := by simp; omega
  go_enter Try.func21, Try.ntmps21
  go_wp2
  go_ret
  exact ⟨rfl, rfl⟩

theorem value_c0 (v : Int) (w : World) (h1 : 0 ≤ v) (h2 : v ≤ 1) : Calls Try.prog 11 #[.agg #[.int .i64 2, .int .i64 v]] w fun e w' => e = .returned (.int .i64 0) ∧ w.alloc (.cells #[.int .i64 2, .int .i64 v] 29) = w' := by
  go_enter Try.func11, Try.ntmps11
  go_wp2_with (first
      | (go_at_call 21; refine (within_yes _ _ _ _ (by omega) (by omega)).mono ?_; rintro e w1 ⟨rfl, rfl⟩)
      | (go_at_call 21; refine (within_no1 _ _ _ _ (by omega)).mono ?_; rintro e w1 ⟨rfl, rfl⟩)
      | (go_at_call 21; refine (within_no2 _ _ _ _ (by omega) (by omega)).mono ?_; rintro e w1 ⟨rfl, rfl⟩))
  go_ret
  exact ⟨rfl, rfl⟩
theorem value_c1 (v : Int) (w : World) (h1 : v < 0) : Calls Try.prog 11 #[.agg #[.int .i64 2, .int .i64 v]] w fun e w' => e = .returned (.int .i64 1) ∧ w.alloc (.cells #[.int .i64 2, .int .i64 v] 29) = w' := by
  go_enter Try.func11, Try.ntmps11
  go_wp2_with (first
      | (go_at_call 21; refine (within_yes _ _ _ _ (by omega) (by omega)).mono ?_; rintro e w1 ⟨rfl, rfl⟩)
      | (go_at_call 21; refine (within_no1 _ _ _ _ (by omega)).mono ?_; rintro e w1 ⟨rfl, rfl⟩)
      | (go_at_call 21; refine (within_no2 _ _ _ _ (by omega) (by omega)).mono ?_; rintro e w1 ⟨rfl, rfl⟩))
  go_ret
  exact ⟨rfl, rfl⟩
theorem value_c2 (v : Int) (w : World) (h1 : 1 < v) (h2 : 0 ≤ v) : Calls Try.prog 11 #[.agg #[.int .i64 2, .int .i64 v]] w fun e w' => e = .returned (.int .i64 1) ∧ w.alloc (.cells #[.int .i64 2, .int .i64 v] 29) = w' := by
  go_enter Try.func11, Try.ntmps11
  go_wp2_with (first
      | (go_at_call 21; refine (within_yes _ _ _ _ (by omega) (by omega)).mono ?_; rintro e w1 ⟨rfl, rfl⟩)
      | (go_at_call 21; refine (within_no1 _ _ _ _ (by omega)).mono ?_; rintro e w1 ⟨rfl, rfl⟩)
      | (go_at_call 21; refine (within_no2 _ _ _ _ (by omega) (by omega)).mono ?_; rintro e w1 ⟨rfl, rfl⟩))
  go_ret
  exact ⟨rfl, rfl⟩
theorem value_c3 (v : Int) (w : World) (h1 : 0 ≤ v) (h2 : v ≤ 2147483647) : Calls Try.prog 11 #[.agg #[.int .i64 4, .int .i64 v]] w fun e w' => e = .returned (.int .i64 0) ∧ w.alloc (.cells #[.int .i64 4, .int .i64 v] 29) = w' := by
  go_enter Try.func11, Try.ntmps11
  go_wp2_with (first
      | (go_at_call 21; refine (within_yes _ _ _ _ (by omega) (by omega)).mono ?_; rintro e w1 ⟨rfl, rfl⟩)
      | (go_at_call 21; refine (within_no1 _ _ _ _ (by omega)).mono ?_; rintro e w1 ⟨rfl, rfl⟩)
      | (go_at_call 21; refine (within_no2 _ _ _ _ (by omega) (by omega)).mono ?_; rintro e w1 ⟨rfl, rfl⟩))
  go_ret
  exact ⟨rfl, rfl⟩
theorem value_c4 (v : Int) (w : World) (h1 : v < 0) : Calls Try.prog 11 #[.agg #[.int .i64 4, .int .i64 v]] w fun e w' => e = .returned (.int .i64 3) ∧ w.alloc (.cells #[.int .i64 4, .int .i64 v] 29) = w' := by
  go_enter Try.func11, Try.ntmps11
  go_wp2_with (first
      | (go_at_call 21; refine (within_yes _ _ _ _ (by omega) (by omega)).mono ?_; rintro e w1 ⟨rfl, rfl⟩)
      | (go_at_call 21; refine (within_no1 _ _ _ _ (by omega)).mono ?_; rintro e w1 ⟨rfl, rfl⟩)
      | (go_at_call 21; refine (within_no2 _ _ _ _ (by omega) (by omega)).mono ?_; rintro e w1 ⟨rfl, rfl⟩))
  go_ret
  exact ⟨rfl, rfl⟩
theorem value_c5 (v : Int) (w : World) (h1 : 2147483647 < v) (h2 : 0 ≤ v) : Calls Try.prog 11 #[.agg #[.int .i64 4, .int .i64 v]] w fun e w' => e = .returned (.int .i64 3) ∧ w.alloc (.cells #[.int .i64 4, .int .i64 v] 29) = w' := by
  go_enter Try.func11, Try.ntmps11
  go_wp2_with (first
      | (go_at_call 21; refine (within_yes _ _ _ _ (by omega) (by omega)).mono ?_; rintro e w1 ⟨rfl, rfl⟩)
      | (go_at_call 21; refine (within_no1 _ _ _ _ (by omega)).mono ?_; rintro e w1 ⟨rfl, rfl⟩)
      | (go_at_call 21; refine (within_no2 _ _ _ _ (by omega) (by omega)).mono ?_; rintro e w1 ⟨rfl, rfl⟩))
  go_ret
  exact ⟨rfl, rfl⟩
theorem value_c6 (v : Int) (w : World) (h1 : 16384 ≤ v) (h2 : v ≤ 16777215) : Calls Try.prog 11 #[.agg #[.int .i64 5, .int .i64 v]] w fun e w' => e = .returned (.int .i64 0) ∧ w.alloc (.cells #[.int .i64 5, .int .i64 v] 29) = w' := by
  go_enter Try.func11, Try.ntmps11
  go_wp2_with (first
      | (go_at_call 21; refine (within_yes _ _ _ _ (by omega) (by omega)).mono ?_; rintro e w1 ⟨rfl, rfl⟩)
      | (go_at_call 21; refine (within_no1 _ _ _ _ (by omega)).mono ?_; rintro e w1 ⟨rfl, rfl⟩)
      | (go_at_call 21; refine (within_no2 _ _ _ _ (by omega) (by omega)).mono ?_; rintro e w1 ⟨rfl, rfl⟩))
  go_ret
  exact ⟨rfl, rfl⟩
theorem value_c7 (v : Int) (w : World) (h1 : v < 16384) : Calls Try.prog 11 #[.agg #[.int .i64 5, .int .i64 v]] w fun e w' => e = .returned (.int .i64 1) ∧ w.alloc (.cells #[.int .i64 5, .int .i64 v] 29) = w' := by
  go_enter Try.func11, Try.ntmps11
  go_wp2_with (first
      | (go_at_call 21; refine (within_yes _ _ _ _ (by omega) (by omega)).mono ?_; rintro e w1 ⟨rfl, rfl⟩)
      | (go_at_call 21; refine (within_no1 _ _ _ _ (by omega)).mono ?_; rintro e w1 ⟨rfl, rfl⟩)
      | (go_at_call 21; refine (within_no2 _ _ _ _ (by omega) (by omega)).mono ?_; rintro e w1 ⟨rfl, rfl⟩))
  go_ret
  exact ⟨rfl, rfl⟩
theorem value_c8 (v : Int) (w : World) (h1 : 16777215 < v) (h2 : 16384 ≤ v) : Calls Try.prog 11 #[.agg #[.int .i64 5, .int .i64 v]] w fun e w' => e = .returned (.int .i64 1) ∧ w.alloc (.cells #[.int .i64 5, .int .i64 v] 29) = w' := by
  go_enter Try.func11, Try.ntmps11
  go_wp2_with (first
      | (go_at_call 21; refine (within_yes _ _ _ _ (by omega) (by omega)).mono ?_; rintro e w1 ⟨rfl, rfl⟩)
      | (go_at_call 21; refine (within_no1 _ _ _ _ (by omega)).mono ?_; rintro e w1 ⟨rfl, rfl⟩)
      | (go_at_call 21; refine (within_no2 _ _ _ _ (by omega) (by omega)).mono ?_; rintro e w1 ⟨rfl, rfl⟩))
  go_ret
  exact ⟨rfl, rfl⟩
theorem value_else (i v : Int) (w : World) (h2 : (i == 2) = false) (h4 : (i == 4) = false) (h5 : (i == 5) = false) : Calls Try.prog 11 #[.agg #[.int .i64 i, .int .i64 v]] w fun e w' => e = .returned (.int .i64 0) ∧ w.alloc (.cells #[.int .i64 i, .int .i64 v] 29) = w' := by
  go_enter Try.func11, Try.ntmps11
  go_wp2
  go_ret
  exact ⟨rfl, rfl⟩
theorem value_any (i v : Int) (w : World) : Calls Try.prog 11 #[.agg #[.int .i64 i, .int .i64 v]] w fun e w' => e = .returned (.int .i64 (cv i v)) ∧ w.alloc (.cells #[.int .i64 i, .int .i64 v] 29) = w' := by
  by_cases i2 : i = 2
  · subst i2
    by_cases h1 : v < 0
    · rw [show cv 2 v = 1 from by simp [cv]; omega]; exact value_c1 v w h1
    by_cases h2 : 1 < v
    · rw [show cv 2 v = 1 from by simp [cv]; omega]; exact value_c2 v w h2 (by omega)
    · rw [show cv 2 v = 0 from by simp [cv]; omega]; exact value_c0 v w (by omega) (by omega)
  by_cases i4 : i = 4
  · subst i4
    by_cases h1 : v < 0
    · rw [show cv 4 v = 3 from by simp [cv]; omega]; exact value_c4 v w h1
    by_cases h2 : 2147483647 < v
    · rw [show cv 4 v = 3 from by simp [cv]; omega]; exact value_c5 v w h2 (by omega)
    · rw [show cv 4 v = 0 from by simp [cv]; omega]; exact value_c3 v w (by omega) (by omega)
  by_cases i5 : i = 5
  · subst i5
    by_cases h1 : v < 16384
    · rw [show cv 5 v = 1 from by simp [cv]; omega]; exact value_c7 v w h1
    by_cases h2 : 16777215 < v
    · rw [show cv 5 v = 1 from by simp [cv]; omega]; exact value_c8 v w h2 (by omega)
    · rw [show cv 5 v = 0 from by simp [cv]; omega]; exact value_c6 v w (by omega) (by omega)
  · rw [show cv i v = 0 from by simp [cv, i2, i4, i5]]
    exact value_else i v w (by simpa using i2) (by simpa using i4) (by simpa using i5)
theorem rvalue_c0 (v : Int) (w : World) (h1 : 0 ≤ v) (h2 : v ≤ 1) : Calls Try.prog 16 #[.agg #[.int .i64 2, .int .i64 v]] w fun e w' => e = .returned (.int .i64 0) ∧ w.alloc (.cells #[.int .i64 2, .int .i64 v] 29) = w' := by
  go_enter Try.func16, Try.ntmps16
  go_wp2_with fail
  go_ret
  exact ⟨rfl, rfl⟩
theorem rvalue_c1 (v : Int) (w : World) (h1 : v < 0) : Calls Try.prog 16 #[.agg #[.int .i64 2, .int .i64 v]] w fun e w' => e = .returned (.int .i64 1) ∧ w.alloc (.cells #[.int .i64 2, .int .i64 v] 29) = w' := by
  go_enter Try.func16, Try.ntmps16
  go_wp2_with fail
  go_ret
  exact ⟨rfl, rfl⟩
theorem rvalue_c2 (v : Int) (w : World) (h1 : 1 < v) (h2 : 0 ≤ v) : Calls Try.prog 16 #[.agg #[.int .i64 2, .int .i64 v]] w fun e w' => e = .returned (.int .i64 1) ∧ w.alloc (.cells #[.int .i64 2, .int .i64 v] 29) = w' := by
  go_enter Try.func16, Try.ntmps16
  go_wp2_with fail
  go_ret
  exact ⟨rfl, rfl⟩
theorem rvalue_c3 (v : Int) (w : World) (h1 : 0 ≤ v) (h2 : v ≤ 2147483647) : Calls Try.prog 16 #[.agg #[.int .i64 4, .int .i64 v]] w fun e w' => e = .returned (.int .i64 0) ∧ w.alloc (.cells #[.int .i64 4, .int .i64 v] 29) = w' := by
  go_enter Try.func16, Try.ntmps16
  go_wp2_with fail
  go_ret
  exact ⟨rfl, rfl⟩
theorem rvalue_c4 (v : Int) (w : World) (h1 : v < 0) : Calls Try.prog 16 #[.agg #[.int .i64 4, .int .i64 v]] w fun e w' => e = .returned (.int .i64 3) ∧ w.alloc (.cells #[.int .i64 4, .int .i64 v] 29) = w' := by
  go_enter Try.func16, Try.ntmps16
  go_wp2_with fail
  go_ret
  exact ⟨rfl, rfl⟩
theorem rvalue_c5 (v : Int) (w : World) (h1 : 2147483647 < v) (h2 : 0 ≤ v) : Calls Try.prog 16 #[.agg #[.int .i64 4, .int .i64 v]] w fun e w' => e = .returned (.int .i64 3) ∧ w.alloc (.cells #[.int .i64 4, .int .i64 v] 29) = w' := by
  go_enter Try.func16, Try.ntmps16
  go_wp2_with fail
  go_ret
  exact ⟨rfl, rfl⟩
theorem rvalue_c6 (v : Int) (w : World) (h1 : 16384 ≤ v) (h2 : v ≤ 16777215) : Calls Try.prog 16 #[.agg #[.int .i64 5, .int .i64 v]] w fun e w' => e = .returned (.int .i64 0) ∧ w.alloc (.cells #[.int .i64 5, .int .i64 v] 29) = w' := by
  go_enter Try.func16, Try.ntmps16
  go_wp2_with fail
  go_ret
  exact ⟨rfl, rfl⟩
theorem rvalue_c7 (v : Int) (w : World) (h1 : v < 16384) : Calls Try.prog 16 #[.agg #[.int .i64 5, .int .i64 v]] w fun e w' => e = .returned (.int .i64 1) ∧ w.alloc (.cells #[.int .i64 5, .int .i64 v] 29) = w' := by
  go_enter Try.func16, Try.ntmps16
  go_wp2_with fail
  go_ret
  exact ⟨rfl, rfl⟩
theorem rvalue_c8 (v : Int) (w : World) (h1 : 16777215 < v) (h2 : 16384 ≤ v) : Calls Try.prog 16 #[.agg #[.int .i64 5, .int .i64 v]] w fun e w' => e = .returned (.int .i64 1) ∧ w.alloc (.cells #[.int .i64 5, .int .i64 v] 29) = w' := by
  go_enter Try.func16, Try.ntmps16
  go_wp2_with fail
  go_ret
  exact ⟨rfl, rfl⟩
theorem rvalue_else (i v : Int) (w : World) (h2 : (i == 2) = false) (h4 : (i == 4) = false) (h5 : (i == 5) = false) : Calls Try.prog 16 #[.agg #[.int .i64 i, .int .i64 v]] w fun e w' => e = .returned (.int .i64 0) ∧ w.alloc (.cells #[.int .i64 i, .int .i64 v] 29) = w' := by
  go_enter Try.func16, Try.ntmps16
  go_wp2
  go_ret
  exact ⟨rfl, rfl⟩
theorem rvalue_any (i v : Int) (w : World) : Calls Try.prog 16 #[.agg #[.int .i64 i, .int .i64 v]] w fun e w' => e = .returned (.int .i64 (cv i v)) ∧ w.alloc (.cells #[.int .i64 i, .int .i64 v] 29) = w' := by
  by_cases i2 : i = 2
  · subst i2
    by_cases h1 : v < 0
    · rw [show cv 2 v = 1 from by simp [cv]; omega]; exact rvalue_c1 v w h1
    by_cases h2 : 1 < v
    · rw [show cv 2 v = 1 from by simp [cv]; omega]; exact rvalue_c2 v w h2 (by omega)
    · rw [show cv 2 v = 0 from by simp [cv]; omega]; exact rvalue_c0 v w (by omega) (by omega)
  by_cases i4 : i = 4
  · subst i4
    by_cases h1 : v < 0
    · rw [show cv 4 v = 3 from by simp [cv]; omega]; exact rvalue_c4 v w h1
    by_cases h2 : 2147483647 < v
    · rw [show cv 4 v = 3 from by simp [cv]; omega]; exact rvalue_c5 v w h2 (by omega)
    · rw [show cv 4 v = 0 from by simp [cv]; omega]; exact rvalue_c3 v w (by omega) (by omega)
  by_cases i5 : i = 5
  · subst i5
    by_cases h1 : v < 16384
    · rw [show cv 5 v = 1 from by simp [cv]; omega]; exact rvalue_c7 v w h1
    by_cases h2 : 16777215 < v
    · rw [show cv 5 v = 1 from by simp [cv]; omega]; exact rvalue_c8 v w h2 (by omega)
    · rw [show cv 5 v = 0 from by simp [cv]; omega]; exact rvalue_c6 v w (by omega) (by omega)
  · rw [show cv i v = 0 from by simp [cv, i2, i4, i5]]
    exact rvalue_else i v w (by simpa using i2) (by simpa using i4) (by simpa using i5)
theorem first_any (w : World) : Calls Try.prog 10 #[] w fun e w' => e = .returned (agg5 ⟨4096, 2147483647, 65535, 16384, 2147483647⟩) ∧ w.alloc (.cells #[.int .i64 4096, .int .i64 2147483647, .int .i64 65535, .int .i64 16384, .int .i64 2147483647] 23) = w' := by
  go_enter Try.func10, Try.ntmps10
  go_wp2
  go_returns
  exact ⟨rfl, rfl⟩
end Go.Proofs.Ytdlmocjkhkopgaa
