/- WindowUndoes. -/
import Derived.Test.YthkkdhjippnkfaaQuiet
namespace Go.Proofs.Ythkkdhjippnkfaa
open Go.ChangeShapes Go.WideShapes Go.ChangeAt Go.RowKit Go.Sort
set_option linter.unusedVariables false

set_option maxHeartbeats 1000000 in
set_option maxRecDepth 100000 in
theorem undoes_any (n k a b : Int) (w : World) (hn0 : -9223372036854775808 ≤ n) (hn1 : n ≤ 9223372036854775807) (hk0 : -9223372036854775808 ≤ k) (hk1 : k ≤ 9223372036854775807)
    (ha0 : -9223372036854775808 ≤ a) (ha1 : a ≤ 9223372036854775807) (hb0 : -9223372036854775808 ≤ b) (hb1 : b ≤ 9223372036854775807) :
    Calls Try.prog 7 #[.int .i64 n, .int .i64 k, .int .i64 a, .int .i64 b] w fun e w' => e = .returned (.bool true) ∧ Below w.heap.size w w' := by
  go_enter Try.func7, Try.ntmps7
  go_wp2_with fail
  refine (wit_ex _ _ _ _ (by omega) (by omega) (by omega) hn0 hn1).mono ?_
  rintro e w1 ⟨l, hl0, hl1, rfl, rfl⟩
  go_wp2_with (first | (go_at_call 9; refine (of_yes _ _ (by omega) (by omega)).mono ?_; rintro e w1 ⟨rfl, rfl⟩) | (go_at_call 14; refine (left_any _ _).mono ?_; rintro e w1 ⟨rfl, rfl⟩))
  refine (wit_ex _ _ _ _ (by omega) (by omega) (by omega) hk0 hk1).mono ?_
  rintro e w1 ⟨m, hm0, hm1, rfl, rfl⟩
  have e1 : l - m + m = l := by omega
  go_wp2_with (first | (go_at_call 10; refine (take_yes _ _ _ (by omega) (by omega) (by omega)).mono ?_; rintro e w1 ⟨rfl, rfl⟩) | (go_at_call 11; refine (credit_yes _ _ _ (by omega) (by omega) (by omega) (by omega) (by omega)).mono ?_; rintro e w1 ⟨rfl, rfl⟩))
  refine (wit_ex _ _ _ _ (by omega) (by omega) (by omega) ha0 ha1).mono ?_
  rintro e w1 ⟨i, hi0, hi1, rfl, rfl⟩
  go_wp2_with fail
  refine (wit_ex _ _ _ _ (by omega) (by omega) (by omega) hb0 hb1).mono ?_
  rintro e w1 ⟨j, hj0, hj1, rfl, rfl⟩
  by_cases hr : l + j - i < -2147483647 ∨ 2147483647 < l + j - i
  · replace hr := Lib.hid hr
    go_wp2_with fail
    refine (shift_no _ _ _ _ (by omega) (by omega) (by have := hr.out; omega)).mono ?_
    rintro e w1 ⟨rfl, rfl⟩
    by_cases hs : l + i - j < -2147483647 ∨ 2147483647 < l + i - j
    · replace hs := Lib.hid hs
      go_wp2_with fail
      refine (shift_no _ _ _ _ (by omega) (by omega) (by have := hs.out; omega)).mono ?_
      rintro e w1 ⟨rfl, rfl⟩
      go_wp2_with fail
      refine wp_forget (fun W => Below w.heap.size w W ∧ W.cell? ⟨w.heap.size + 1 + 1 + 1, 0, none⟩ = some (.int .i64 (l)) ∧ W.cell? ⟨w.heap.size + 1 + 1 + 1 + 1 + 1 + 1 + 1, 0, none⟩ = some (.int .i64 (l - m)) ∧ W.cell? ⟨w.heap.size + 1 + 1 + 1 + 1 + 1 + 1 + 1 + 1 + 1 + 1, 0, none⟩ = some (.int .i64 (l)) ∧ W.cell? ⟨w.heap.size + 1 + 1 + 1 + 1 + 1 + 1 + 1 + 1 + 1 + 1 + 1 + 1 + 1, 0, none⟩ = some (.int .i64 (l)) ∧ W.cell? ⟨w.heap.size + 1 + 1 + 1 + 1 + 1 + 1 + 1 + 1 + 1 + 1 + 1 + 1 + 1 + 1 + 1 + 1, 0, none⟩ = some (.int .i64 (l))) ⟨by go_grown, by go_simp, by go_simp, by go_simp, by go_simp, by go_simp⟩ ?_
      rintro W ⟨hB, c0, c1, c2, c3, c4⟩
      replace c0 := cell_regrown c0
      replace c1 := cell_regrown c1
      replace c2 := cell_regrown c2
      replace c3 := cell_regrown c3
      replace c4 := cell_regrown c4
      refine wp_region_quiet_below (by kernel_rfl) (by kernel_rfl) ?_
      repeat (first | go_big_quiet_step (first | exact left_q _ _ _ _ | exact runs_q _ _ _) | quiet_step (first | exact left_q _ _ _ _ | exact runs_q _ _ _))
      refine wpQuiet_nil ?_
      intro W2 hW2
      obtain ⟨⟨dq, osq⟩, rfl⟩ := hW2
      have hB2 := below_regrown W dq osq
      have hBs := hB.size
      go_wp2
      go_ret
      exact ⟨rfl, hB.trans (hB2.mono hBs)⟩
    · have hs1 : -2147483647 ≤ l + i - j := by omega
      have hs2 : l + i - j ≤ 2147483647 := by omega
      clear hs
      go_wp2_with fail
      refine (shift_yes _ _ _ _ (by omega) (by omega) (by omega) (by omega) (by omega) (by omega) (by omega) (by omega)).mono ?_
      rintro e w1 ⟨rfl, rfl⟩
      go_wp2_with fail
      refine wp_forget (fun W => Below w.heap.size w W ∧ W.cell? ⟨w.heap.size + 1 + 1 + 1, 0, none⟩ = some (.int .i64 (l)) ∧ W.cell? ⟨w.heap.size + 1 + 1 + 1 + 1 + 1 + 1 + 1, 0, none⟩ = some (.int .i64 (l - m)) ∧ W.cell? ⟨w.heap.size + 1 + 1 + 1 + 1 + 1 + 1 + 1 + 1 + 1 + 1, 0, none⟩ = some (.int .i64 (l)) ∧ W.cell? ⟨w.heap.size + 1 + 1 + 1 + 1 + 1 + 1 + 1 + 1 + 1 + 1 + 1 + 1 + 1, 0, none⟩ = some (.int .i64 (l)) ∧ W.cell? ⟨w.heap.size + 1 + 1 + 1 + 1 + 1 + 1 + 1 + 1 + 1 + 1 + 1 + 1 + 1 + 1 + 1 + 1, 0, none⟩ = some (.int .i64 (l + i - j))) ⟨by go_grown, by go_simp, by go_simp, by go_simp, by go_simp, by go_simp⟩ ?_
      rintro W ⟨hB, c0, c1, c2, c3, c4⟩
      replace c0 := cell_regrown c0
      replace c1 := cell_regrown c1
      replace c2 := cell_regrown c2
      replace c3 := cell_regrown c3
      replace c4 := cell_regrown c4
      refine wp_region_quiet_below (by kernel_rfl) (by kernel_rfl) ?_
      repeat (first | go_big_quiet_step (first | exact left_q _ _ _ _ | exact runs_q _ _ _) | quiet_step (first | exact left_q _ _ _ _ | exact runs_q _ _ _))
      refine wpQuiet_nil ?_
      intro W2 hW2
      obtain ⟨⟨dq, osq⟩, rfl⟩ := hW2
      have hB2 := below_regrown W dq osq
      have hBs := hB.size
      go_wp2
      go_ret
      exact ⟨rfl, hB.trans (hB2.mono hBs)⟩
  · have hs1 : -2147483647 ≤ l + j - i := by omega
    have hs2 : l + j - i ≤ 2147483647 := by omega
    clear hr
    go_wp2_with fail
    refine (shift_yes _ _ _ _ (by omega) (by omega) (by omega) (by omega) (by omega) (by omega) (by omega) (by omega)).mono ?_
    rintro e w1 ⟨rfl, rfl⟩
    go_wp2_with fail
    refine (shift_yes _ _ _ _ (by omega) (by omega) (by omega) (by omega) (by omega) (by omega) (by omega) (by omega)).mono ?_
    rintro e w1 ⟨rfl, rfl⟩
    have e2 : l + j - i + i - j = l := by omega
    go_wp2_with fail
    refine wp_forget (fun W => Below w.heap.size w W ∧ W.cell? ⟨w.heap.size + 1 + 1 + 1, 0, none⟩ = some (.int .i64 (l)) ∧ W.cell? ⟨w.heap.size + 1 + 1 + 1 + 1 + 1 + 1 + 1, 0, none⟩ = some (.int .i64 (l - m)) ∧ W.cell? ⟨w.heap.size + 1 + 1 + 1 + 1 + 1 + 1 + 1 + 1 + 1 + 1, 0, none⟩ = some (.int .i64 (l)) ∧ W.cell? ⟨w.heap.size + 1 + 1 + 1 + 1 + 1 + 1 + 1 + 1 + 1 + 1 + 1 + 1 + 1, 0, none⟩ = some (.int .i64 (l + j - i)) ∧ W.cell? ⟨w.heap.size + 1 + 1 + 1 + 1 + 1 + 1 + 1 + 1 + 1 + 1 + 1 + 1 + 1 + 1 + 1 + 1, 0, none⟩ = some (.int .i64 (l))) ⟨by go_grown, by go_simp, by go_simp, by go_simp, by go_simp, by go_simp⟩ ?_
    rintro W ⟨hB, c0, c1, c2, c3, c4⟩
    replace c0 := cell_regrown c0
    replace c1 := cell_regrown c1
    replace c2 := cell_regrown c2
    replace c3 := cell_regrown c3
    replace c4 := cell_regrown c4
    refine wp_region_quiet_below (by kernel_rfl) (by kernel_rfl) ?_
    repeat (first | go_big_quiet_step (first | exact left_q _ _ _ _ | exact runs_q _ _ _) | quiet_step (first | exact left_q _ _ _ _ | exact runs_q _ _ _))
    refine wpQuiet_nil ?_
    intro W2 hW2
    obtain ⟨⟨dq, osq⟩, rfl⟩ := hW2
    have hB2 := below_regrown W dq osq
    have hBs := hB.size
    go_wp2
    go_ret
    exact ⟨rfl, hB.trans (hB2.mono hBs)⟩
end Go.Proofs.Ythkkdhjippnkfaa
