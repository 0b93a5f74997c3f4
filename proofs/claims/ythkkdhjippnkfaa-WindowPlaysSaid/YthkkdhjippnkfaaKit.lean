/- Contracts of package window's functions and of the law's helpers. -/
import Derived.Test.YthkkdhjippnkfaaRows
import Derived.WalkKit
import Derived.ProofKit
import Derived.OpenShut
import Derived.WalkLawsBesides
import Derived.WalkSpells
import Derived.Outline
import Derived.Handy
import Derived.Lib.Hide
namespace Go.Proofs.Ythkkdhjippnkfaa
open Go.ChangeShapes Go.WideShapes Go.ChangeAt Go.RowKit
set_option linter.unusedVariables false

theorem bcell {W w1 : World} (hb : Below W.heap.size W w1) : (∀ b o, b < W.heap.size → w1.cell? ⟨b, o, none⟩ = W.cell? ⟨b, o, none⟩) ∧ (∀ b o, b < W.heap.size → w1.frozen? ⟨b, o, none⟩ = W.frozen? ⟨b, o, none⟩) :=
  ⟨fun b o h => hb.cell (p := ⟨b, o, none⟩) h, fun b o h => hb.frozen (p := ⟨b, o, none⟩) h⟩

theorem within_yes (n : Int) (w : World) (h0 : 0 ≤ n) (h1 : n ≤ 2147483647) : Calls Try.prog 18 #[.int .i64 n] w fun e w' => e = .returned (.bool true) ∧ w = w' := by
  go_enter Try.func18, Try.ntmps18
  go_wp2
  go_ret
  exact ⟨rfl, rfl⟩
theorem within_no1 (n : Int) (w : World) (h : n < 0) : Calls Try.prog 18 #[.int .i64 n] w fun e w' => e = .returned (.bool false) ∧ w = w' := by
  go_enter Try.func18, Try.ntmps18
  go_wp2
  go_ret
  exact ⟨rfl, rfl⟩
theorem within_no2 (n : Int) (w : World) (h0 : 0 ≤ n) (h : 2147483647 < n) : Calls Try.prog 18 #[.int .i64 n] w fun e w' => e = .returned (.bool false) ∧ w = w' := by
  have h2 : decide (n ≤ 2147483647) = false := by simp; omega
  go_enter Try.func18, Try.ntmps18
  go_wp2
  go_ret
  exact ⟨rfl, rfl⟩
theorem within_no (n : Int) (w : World) (h : n < 0 ∨ 2147483647 < n) : Calls Try.prog 18 #[.int .i64 n] w fun e w' => e = .returned (.bool false) ∧ w = w' := by
  by_cases h0 : n < 0
  · exact within_no1 n w h0
  · exact within_no2 n w (by omega) (by omega)

theorem fits_yes (n : Int) (w : World) (h0 : 0 ≤ n) (h1 : n ≤ 2147483647) : Calls Try.prog 16 #[.int .i64 n] w fun e w' => e = .returned (.bool true) ∧ w = w' := by
  go_enter Try.func16, Try.ntmps16
  go_wp2
  go_ret
  exact ⟨rfl, rfl⟩
theorem fits_no1 (n : Int) (w : World) (h : n < 0) : Calls Try.prog 16 #[.int .i64 n] w fun e w' => e = .returned (.bool false) ∧ w = w' := by
  go_enter Try.func16, Try.ntmps16
  go_wp2
  go_ret
  exact ⟨rfl, rfl⟩
theorem fits_no2 (n : Int) (w : World) (h0 : 0 ≤ n) (h : 2147483647 < n) : Calls Try.prog 16 #[.int .i64 n] w fun e w' => e = .returned (.bool false) ∧ w = w' := by
  have h2 : decide (n ≤ 2147483647) = false := by simp; omega
  go_enter Try.func16, Try.ntmps16
  go_wp2
  go_ret
  exact ⟨rfl, rfl⟩
theorem fits_no (n : Int) (w : World) (h : n < 0 ∨ 2147483647 < n) : Calls Try.prog 16 #[.int .i64 n] w fun e w' => e = .returned (.bool false) ∧ w = w' := by
  by_cases h0 : n < 0
  · exact fits_no1 n w h0
  · exact fits_no2 n w (by omega) (by omega)

theorem new_yes (n : Int) (w : World) (h0 : 0 ≤ n) (h1 : n ≤ 2147483647) :
    Calls Try.prog 13 #[.int .i64 n] w fun e w' => e = .returned (.tuple #[.agg #[.int .i64 n], .int .i64 0]) ∧ (w.alloc (.cells #[.int .i64 n] 23)) = w' := by
  go_enter Try.func13, Try.ntmps13
  go_wp2_with (go_at_call 18; refine (within_yes _ _ (by omega) (by omega)).mono ?_; rintro e w' ⟨rfl, rfl⟩)
  go_returns
  exact ⟨rfl, rfl⟩
theorem new_no (n : Int) (w : World) (h : n < 0 ∨ 2147483647 < n) :
    Calls Try.prog 13 #[.int .i64 n] w fun e w' => e = .returned (.tuple #[.agg #[.int .i64 0], .int .i64 1]) ∧ (w.alloc (.cells #[.int .i64 0] 23)) = w' := by
  have H := Lib.hid h
  clear h
  go_enter Try.func13, Try.ntmps13
  go_wp2_with (go_at_call 18; refine (within_no _ _ H.out).mono ?_; rintro e w' ⟨rfl, rfl⟩)
  go_returns
  exact ⟨rfl, rfl⟩
theorem of_yes (n : Int) (w : World) (h0 : 0 ≤ n) (h1 : n ≤ 2147483647) :
    Calls Try.prog 9 #[.int .i64 n] w fun e w' => e = .returned (.agg #[.int .i64 n]) ∧ (((w.alloc (.cells #[.int .i64 n] 23)).alloc (.cells #[.int .i64 n] 23)).alloc (.cells #[.int .i64 n] 23)) = w' := by
  go_enter Try.func9, Try.ntmps9
  go_wp2_with (go_at_call 13; refine (new_yes _ _ (by omega) (by omega)).mono ?_; rintro e w1 ⟨rfl, rfl⟩)
  go_returns
  exact ⟨rfl, rfl⟩
theorem take_yes (l n : Int) (w : World) (h0 : 0 ≤ n) (h1 : n ≤ l) (h2 : l ≤ 2147483647) :
    Calls Try.prog 10 #[.agg #[.int .i64 l], .int .i64 n] w fun e w' => e = .returned (.tuple #[.agg #[.int .i64 (l - n)], .bool true]) ∧ ((w.alloc (.cells #[.int .i64 l] 23)).alloc (.cells #[.int .i64 (l - n)] 23)) = w' := by
  go_enter Try.func10, Try.ntmps10
  go_wp2
  go_returns
  exact ⟨rfl, rfl⟩
theorem take_no1 (l n : Int) (w : World) (h0 : n < 0) :
    Calls Try.prog 10 #[.agg #[.int .i64 l], .int .i64 n] w fun e w' => e = .returned (.tuple #[.agg #[.int .i64 l], .bool false]) ∧ ((w.alloc (.cells #[.int .i64 l] 23)).alloc (.cells #[.int .i64 l] 23)) = w' := by
  go_enter Try.func10, Try.ntmps10
  go_wp2
  go_returns
  exact ⟨rfl, rfl⟩
theorem take_no2 (l n : Int) (w : World) (h0 : 0 ≤ n) (h1 : l < n) :
    Calls Try.prog 10 #[.agg #[.int .i64 l], .int .i64 n] w fun e w' => e = .returned (.tuple #[.agg #[.int .i64 l], .bool false]) ∧ ((w.alloc (.cells #[.int .i64 l] 23)).alloc (.cells #[.int .i64 l] 23)) = w' := by
  go_enter Try.func10, Try.ntmps10
  go_wp2
  go_returns
  exact ⟨rfl, rfl⟩
theorem take_no (l n : Int) (w : World) (h : n < 0 ∨ l < n) :
    Calls Try.prog 10 #[.agg #[.int .i64 l], .int .i64 n] w fun e w' => e = .returned (.tuple #[.agg #[.int .i64 l], .bool false]) ∧ ((w.alloc (.cells #[.int .i64 l] 23)).alloc (.cells #[.int .i64 l] 23)) = w' := by
  by_cases h0 : n < 0
  · exact take_no1 l n w h0
  · exact take_no2 l n w (by omega) (by omega)
theorem credit_yes (l n : Int) (w : World) (h0 : 0 ≤ n) (h1 : n ≤ 2147483647) (h2 : -2147483647 ≤ l) (h3 : l ≤ 2147483647) (h4 : l + n ≤ 2147483647) :
    Calls Try.prog 11 #[.agg #[.int .i64 l], .int .i64 n] w fun e w' => e = .returned (.tuple #[.agg #[.int .i64 (l + n)], .bool true]) ∧ ((w.alloc (.cells #[.int .i64 l] 23)).alloc (.cells #[.int .i64 (l + n)] 23)) = w' := by
  go_enter Try.func11, Try.ntmps11
  go_wp2_with (go_at_call 18; refine (within_yes _ _ (by omega) (by omega)).mono ?_; rintro e w' ⟨rfl, rfl⟩)
  go_returns
  exact ⟨rfl, rfl⟩
theorem credit_no1 (l n : Int) (w : World) (h : n < 0 ∨ 2147483647 < n) :
    Calls Try.prog 11 #[.agg #[.int .i64 l], .int .i64 n] w fun e w' => e = .returned (.tuple #[.agg #[.int .i64 l], .bool false]) ∧ ((w.alloc (.cells #[.int .i64 l] 23)).alloc (.cells #[.int .i64 l] 23)) = w' := by
  have H := Lib.hid h
  clear h
  go_enter Try.func11, Try.ntmps11
  go_wp2_with (go_at_call 18; refine (within_no _ _ H.out).mono ?_; rintro e w' ⟨rfl, rfl⟩)
  go_returns
  exact ⟨rfl, rfl⟩
theorem credit_no2 (l n : Int) (w : World) (h0 : 0 ≤ n) (h1 : n ≤ 2147483647) (h2 : -2147483647 ≤ l) (h3 : l ≤ 2147483647) (h4 : 2147483647 < l + n) :
    Calls Try.prog 11 #[.agg #[.int .i64 l], .int .i64 n] w fun e w' => e = .returned (.tuple #[.agg #[.int .i64 l], .bool false]) ∧ ((w.alloc (.cells #[.int .i64 l] 23)).alloc (.cells #[.int .i64 l] 23)) = w' := by
  go_enter Try.func11, Try.ntmps11
  go_wp2_with (go_at_call 18; refine (within_yes _ _ (by omega) (by omega)).mono ?_; rintro e w' ⟨rfl, rfl⟩)
  go_returns
  exact ⟨rfl, rfl⟩
theorem credit_no (l n : Int) (w : World) (h2 : -2147483647 ≤ l) (h3 : l ≤ 2147483647) (h : n < 0 ∨ 2147483647 < l + n ∨ 2147483647 < n) :
    Calls Try.prog 11 #[.agg #[.int .i64 l], .int .i64 n] w fun e w' => e = .returned (.tuple #[.agg #[.int .i64 l], .bool false]) ∧ ((w.alloc (.cells #[.int .i64 l] 23)).alloc (.cells #[.int .i64 l] 23)) = w' := by
  by_cases h0 : n < 0 ∨ 2147483647 < n
  · exact credit_no1 l n w h0
  · exact credit_no2 l n w (by omega) (by omega) h2 h3 (by omega)
theorem left_any (l : Int) (w : World) : Calls Try.prog 14 #[.agg #[.int .i64 l]] w fun e w' => e = .returned (.int .i64 l) ∧ (w.alloc (.cells #[.int .i64 l] 23)) = w' := by
  go_enter Try.func14, Try.ntmps14
  go_wp2
  go_ret
  exact ⟨rfl, rfl⟩
theorem shift_yes (l o n : Int) (w : World) (h0 : 0 ≤ o) (h1 : o ≤ 2147483647) (h2 : 0 ≤ n) (h3 : n ≤ 2147483647) (h4 : -2147483647 ≤ l) (h5 : l ≤ 2147483647) (h6 : l + n - o ≤ 2147483647) (h7 : -2147483647 ≤ l + n - o) :
    Calls Try.prog 12 #[.agg #[.int .i64 l], .int .i64 o, .int .i64 n] w fun e w' => e = .returned (.tuple #[.agg #[.int .i64 (l + n - o)], .bool true]) ∧ ((w.alloc (.cells #[.int .i64 l] 23)).alloc (.cells #[.int .i64 (l + n - o)] 23)) = w' := by
  go_enter Try.func12, Try.ntmps12
  go_wp2_with (go_at_call 18; refine (within_yes _ _ (by omega) (by omega)).mono ?_; rintro e w' ⟨rfl, rfl⟩)
  go_returns
  exact ⟨rfl, rfl⟩
theorem shift_no1 (l o n : Int) (w : World) (h0 : o < 0 ∨ 2147483647 < o) :
    Calls Try.prog 12 #[.agg #[.int .i64 l], .int .i64 o, .int .i64 n] w fun e w' => e = .returned (.tuple #[.agg #[.int .i64 l], .bool false]) ∧ ((w.alloc (.cells #[.int .i64 l] 23)).alloc (.cells #[.int .i64 l] 23)) = w' := by
  have H := Lib.hid h0
  clear h0
  go_enter Try.func12, Try.ntmps12
  go_wp2_with (go_at_call 18; refine (within_no _ _ H.out).mono ?_; rintro e w' ⟨rfl, rfl⟩)
  go_returns
  exact ⟨rfl, rfl⟩
theorem shift_no2 (l o n : Int) (w : World) (h0 : 0 ≤ o) (h1 : o ≤ 2147483647) (h2 : n < 0 ∨ 2147483647 < n) :
    Calls Try.prog 12 #[.agg #[.int .i64 l], .int .i64 o, .int .i64 n] w fun e w' => e = .returned (.tuple #[.agg #[.int .i64 l], .bool false]) ∧ ((w.alloc (.cells #[.int .i64 l] 23)).alloc (.cells #[.int .i64 l] 23)) = w' := by
  have H := Lib.hid h2
  clear h2
  go_enter Try.func12, Try.ntmps12
  go_wp2_with fail
  refine (within_yes _ _ h0 h1).mono ?_
  rintro e w' ⟨rfl, rfl⟩
  go_wp2_with fail
  refine (within_no _ _ H.out).mono ?_
  rintro e w' ⟨rfl, rfl⟩
  go_wp2
  go_returns
  exact ⟨rfl, rfl⟩
theorem shift_no3 (l o n : Int) (w : World) (h0 : 0 ≤ o) (h1 : o ≤ 2147483647) (h2 : 0 ≤ n) (h3 : n ≤ 2147483647) (h4 : -2147483647 ≤ l) (h5 : l ≤ 2147483647) (h6 : 2147483647 < l + n - o) :
    Calls Try.prog 12 #[.agg #[.int .i64 l], .int .i64 o, .int .i64 n] w fun e w' => e = .returned (.tuple #[.agg #[.int .i64 l], .bool false]) ∧ ((w.alloc (.cells #[.int .i64 l] 23)).alloc (.cells #[.int .i64 l] 23)) = w' := by
  go_enter Try.func12, Try.ntmps12
  go_wp2_with (go_at_call 18; refine (within_yes _ _ (by omega) (by omega)).mono ?_; rintro e w' ⟨rfl, rfl⟩)
  go_returns
  exact ⟨rfl, rfl⟩
theorem shift_no4 (l o n : Int) (w : World) (h0 : 0 ≤ o) (h1 : o ≤ 2147483647) (h2 : 0 ≤ n) (h3 : n ≤ 2147483647) (h4 : -2147483647 ≤ l) (h5 : l ≤ 2147483647) (h6 : l + n - o < -2147483647) :
    Calls Try.prog 12 #[.agg #[.int .i64 l], .int .i64 o, .int .i64 n] w fun e w' => e = .returned (.tuple #[.agg #[.int .i64 l], .bool false]) ∧ ((w.alloc (.cells #[.int .i64 l] 23)).alloc (.cells #[.int .i64 l] 23)) = w' := by
  go_enter Try.func12, Try.ntmps12
  go_wp2_with (go_at_call 18; refine (within_yes _ _ (by omega) (by omega)).mono ?_; rintro e w' ⟨rfl, rfl⟩)
  go_returns
  exact ⟨rfl, rfl⟩
theorem shift_no (l o n : Int) (w : World) (h4 : -2147483647 ≤ l) (h5 : l ≤ 2147483647) (h : o < 0 ∨ 2147483647 < o ∨ n < 0 ∨ 2147483647 < n ∨ 2147483647 < l + n - o ∨ l + n - o < -2147483647) :
    Calls Try.prog 12 #[.agg #[.int .i64 l], .int .i64 o, .int .i64 n] w fun e w' => e = .returned (.tuple #[.agg #[.int .i64 l], .bool false]) ∧ ((w.alloc (.cells #[.int .i64 l] 23)).alloc (.cells #[.int .i64 l] 23)) = w' := by
  by_cases h0 : o < 0 ∨ 2147483647 < o
  · exact shift_no1 l o n w h0
  by_cases h1 : n < 0 ∨ 2147483647 < n
  · exact shift_no2 l o n w (by omega) (by omega) h1
  by_cases h2 : 2147483647 < l + n - o
  · exact shift_no3 l o n w (by omega) (by omega) (by omega) (by omega) h4 h5 h2
  · exact shift_no4 l o n w (by omega) (by omega) (by omega) (by omega) h4 h5 (by omega)

end Go.Proofs.Ythkkdhjippnkfaa
