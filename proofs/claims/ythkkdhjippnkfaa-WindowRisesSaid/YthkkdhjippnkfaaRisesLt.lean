/- WindowRises, case by case. -/
import Derived.Test.YthkkdhjippnkfaaRisesKit
namespace Go.Proofs.Ythkkdhjippnkfaa
open Go.ChangeShapes Go.WideShapes Go.ChangeAt Go.RowKit Go.Sort
set_option linter.unusedVariables false

set_option maxHeartbeats 2000000 in
set_option maxRecDepth 100000 in
theorem rises_ltTT (n a b l i j : Int) (w : World) (hn : Hid (wit n 0 2147483647 = l)) (ha : Hid (wit a 0 2147483647 = i)) (hb : Hid (wit b 0 2147483647 = j)) (hn0 : -9223372036854775808 ≤ n) (hn1 : n ≤ 9223372036854775807)
    (ha0 : -9223372036854775808 ≤ a) (ha1 : a ≤ 9223372036854775807) (hb0 : -9223372036854775808 ≤ b) (hb1 : b ≤ 9223372036854775807) (hl0 : 0 ≤ l) (hl1 : l ≤ 2147483647) (hi0 : 0 ≤ i) (hi1 : i ≤ 2147483647) (hj0 : 0 ≤ j) (hj1 : j ≤ 2147483647)
    (hij : i < j) (hle : i ≤ j) (h1 : l + j ≤ 2147483647) (h2 : j ≤ l) :
    Calls Try.prog 8 #[.int .i64 n, .int .i64 a, .int .i64 b] w fun e w' => e = .returned (.bool true) ∧ Below w.heap.size w w' := by
  go_enter Try.func8, Try.ntmps8
  go_wp2_with fail
  refine (wit_is _ _ _ _ _ hn (by omega) (by omega) (by omega) hn0 hn1).mono ?_
  rintro e w1 ⟨rfl, rfl⟩
  go_wp2_with (go_at_call 9; refine (of_yes _ _ (by omega) (by omega)).mono ?_; rintro e w1 ⟨rfl, rfl⟩)
  refine (wit_is _ _ _ _ _ ha (by omega) (by omega) (by omega) ha0 ha1).mono ?_
  rintro e w1 ⟨rfl, rfl⟩
  go_wp2_with fail
  refine (wit_is _ _ _ _ _ hb (by omega) (by omega) (by omega) hb0 hb1).mono ?_
  rintro e w1 ⟨rfl, rfl⟩
  go_wp2_with (first
    | (go_at_call 10; refine (take_yes _ _ _ (by omega) (by omega) (by omega)).mono ?_; rintro e w1 ⟨rfl, rfl⟩)
    | (go_at_call 10; refine (take_no _ _ _ (by omega)).mono ?_; rintro e w1 ⟨rfl, rfl⟩)
    | (go_at_call 11; refine (credit_yes _ _ _ (by omega) (by omega) (by omega) (by omega) (by omega)).mono ?_; rintro e w1 ⟨rfl, rfl⟩)
    | (go_at_call 11; refine (credit_no _ _ _ (by omega) (by omega) (by omega)).mono ?_; rintro e w1 ⟨rfl, rfl⟩))
  go_region_held3 (fun w' => w'.cell? ⟨w.heap.size + 1 + 1 + 1, 0, none⟩ = some (.int .i64 l)) (go_simp) (first | (go_at_call 9; refine (of_yes _ _ (by omega) (by omega)).mono ?_; rintro e w1 ⟨rfl, rfl⟩) | (go_at_call 15; refine (least_three_le l i j _ _ _ (by omega) (by omega) (by omega) ?hb ?h0 ?h1 ?h2).mono ?_; (case hb => go_simp); (case h0 => go_simp); (case h1 => go_simp); (case h2 => go_simp); rintro e w1 ⟨v, hv1, hv2, hv3, rfl, hB1⟩; obtain ⟨hc1, hf1⟩ := bcell hB1))
  go_wp2_with fail
  refine wp_forget (fun W => Below w.heap.size w W ∧ W.cell? ⟨w.heap.size + 1 + 1 + 1, 0, none⟩ = some (.int .i64 (l)) ∧ W.cell? ⟨w.heap.size + 1 + 1 + 1 + 1 + 1 + 1, 0, none⟩ = some (.int .i64 (l + i)) ∧ W.cell? ⟨w.heap.size + 1 + 1 + 1 + 1 + 1 + 1 + 1 + 1 + 1, 0, none⟩ = some (.int .i64 (l + j)) ∧ W.cell? ⟨w.heap.size + 1 + 1 + 1 + 1 + 1 + 1 + 1 + 1 + 1 + 1 + 1 + 1, 0, none⟩ = some (.int .i64 (l - i)) ∧ W.cell? ⟨w.heap.size + 1 + 1 + 1 + 1 + 1 + 1 + 1 + 1 + 1 + 1 + 1 + 1 + 1 + 1 + 1, 0, none⟩ = some (.int .i64 (l - j))) ⟨Below.trans (by go_grown) (hB1.mono (by simp only [World.size_drew, World.size_alloc]; omega)), by go_simp, by go_simp, by go_simp, by go_simp, by go_simp⟩ ?_
  clear hB1 hc1 hf1
  rintro W ⟨hB, c3, c6, c9, c12, c15⟩
  replace c3 := cell_regrown c3
  replace c6 := cell_regrown c6
  replace c9 := cell_regrown c9
  replace c12 := cell_regrown c12
  replace c15 := cell_regrown c15
  refine wp_region_quiet_below (by kernel_rfl) (by kernel_rfl) ?_
  repeat (first | go_big_quiet_step (first | exact left_q _ _ _ _ | exact runs_q _ _ _) | quiet_step (first | exact left_q _ _ _ _ | exact runs_q _ _ _))
  refine wpQuiet_nil ?_
  intro W2 hW2
  obtain ⟨⟨dq, osq⟩, rfl⟩ := hW2
  have hB2 := below_regrown W dq osq
  have hBs := hB.size
  go_wp2
  go_ret
  exact ⟨rfl, hB.trans (hB2.mono hBs)⟩

set_option maxHeartbeats 2000000 in
set_option maxRecDepth 100000 in
theorem rises_ltTM (n a b l i j : Int) (w : World) (hn : Hid (wit n 0 2147483647 = l)) (ha : Hid (wit a 0 2147483647 = i)) (hb : Hid (wit b 0 2147483647 = j)) (hn0 : -9223372036854775808 ≤ n) (hn1 : n ≤ 9223372036854775807)
    (ha0 : -9223372036854775808 ≤ a) (ha1 : a ≤ 9223372036854775807) (hb0 : -9223372036854775808 ≤ b) (hb1 : b ≤ 9223372036854775807) (hl0 : 0 ≤ l) (hl1 : l ≤ 2147483647) (hi0 : 0 ≤ i) (hi1 : i ≤ 2147483647) (hj0 : 0 ≤ j) (hj1 : j ≤ 2147483647)
    (hij : i < j) (hle : i ≤ j) (h1 : l + j ≤ 2147483647) (h2 : l < j) (h2' : i ≤ l) :
    Calls Try.prog 8 #[.int .i64 n, .int .i64 a, .int .i64 b] w fun e w' => e = .returned (.bool true) ∧ Below w.heap.size w w' := by
  go_enter Try.func8, Try.ntmps8
  go_wp2_with fail
  refine (wit_is _ _ _ _ _ hn (by omega) (by omega) (by omega) hn0 hn1).mono ?_
  rintro e w1 ⟨rfl, rfl⟩
  go_wp2_with (go_at_call 9; refine (of_yes _ _ (by omega) (by omega)).mono ?_; rintro e w1 ⟨rfl, rfl⟩)
  refine (wit_is _ _ _ _ _ ha (by omega) (by omega) (by omega) ha0 ha1).mono ?_
  rintro e w1 ⟨rfl, rfl⟩
  go_wp2_with fail
  refine (wit_is _ _ _ _ _ hb (by omega) (by omega) (by omega) hb0 hb1).mono ?_
  rintro e w1 ⟨rfl, rfl⟩
  go_wp2_with (first
    | (go_at_call 10; refine (take_yes _ _ _ (by omega) (by omega) (by omega)).mono ?_; rintro e w1 ⟨rfl, rfl⟩)
    | (go_at_call 10; refine (take_no _ _ _ (by omega)).mono ?_; rintro e w1 ⟨rfl, rfl⟩)
    | (go_at_call 11; refine (credit_yes _ _ _ (by omega) (by omega) (by omega) (by omega) (by omega)).mono ?_; rintro e w1 ⟨rfl, rfl⟩)
    | (go_at_call 11; refine (credit_no _ _ _ (by omega) (by omega) (by omega)).mono ?_; rintro e w1 ⟨rfl, rfl⟩))
  go_region_held3 (fun w' => w'.cell? ⟨w.heap.size + 1 + 1 + 1, 0, none⟩ = some (.int .i64 l)) (go_simp) (first | (go_at_call 9; refine (of_yes _ _ (by omega) (by omega)).mono ?_; rintro e w1 ⟨rfl, rfl⟩) | (go_at_call 15; refine (least_three_le l i j _ _ _ (by omega) (by omega) (by omega) ?hb ?h0 ?h1 ?h2).mono ?_; (case hb => go_simp); (case h0 => go_simp); (case h1 => go_simp); (case h2 => go_simp); rintro e w1 ⟨v, hv1, hv2, hv3, rfl, hB1⟩; obtain ⟨hc1, hf1⟩ := bcell hB1))
  go_wp2_with fail
  refine wp_forget (fun W => Below w.heap.size w W ∧ W.cell? ⟨w.heap.size + 1 + 1 + 1, 0, none⟩ = some (.int .i64 (l)) ∧ W.cell? ⟨w.heap.size + 1 + 1 + 1 + 1 + 1 + 1, 0, none⟩ = some (.int .i64 (l + i)) ∧ W.cell? ⟨w.heap.size + 1 + 1 + 1 + 1 + 1 + 1 + 1 + 1 + 1, 0, none⟩ = some (.int .i64 (l + j)) ∧ W.cell? ⟨w.heap.size + 1 + 1 + 1 + 1 + 1 + 1 + 1 + 1 + 1 + 1 + 1 + 1, 0, none⟩ = some (.int .i64 (l - i)) ∧ W.cell? ⟨w.heap.size + 1 + 1 + 1 + 1 + 1 + 1 + 1 + 1 + 1 + 1 + 1 + 1 + 1 + 1 + 1, 0, none⟩ = some (.int .i64 (l))) ⟨Below.trans (by go_grown) (hB1.mono (by simp only [World.size_drew, World.size_alloc]; omega)), by go_simp, by go_simp, by go_simp, by go_simp, by go_simp⟩ ?_
  clear hB1 hc1 hf1
  rintro W ⟨hB, c3, c6, c9, c12, c15⟩
  replace c3 := cell_regrown c3
  replace c6 := cell_regrown c6
  replace c9 := cell_regrown c9
  replace c12 := cell_regrown c12
  replace c15 := cell_regrown c15
  refine wp_region_quiet_below (by kernel_rfl) (by kernel_rfl) ?_
  repeat (first | go_big_quiet_step (first | exact left_q _ _ _ _ | exact runs_q _ _ _) | quiet_step (first | exact left_q _ _ _ _ | exact runs_q _ _ _))
  refine wpQuiet_nil ?_
  intro W2 hW2
  obtain ⟨⟨dq, osq⟩, rfl⟩ := hW2
  have hB2 := below_regrown W dq osq
  have hBs := hB.size
  go_wp2
  go_ret
  exact ⟨rfl, hB.trans (hB2.mono hBs)⟩

set_option maxHeartbeats 2000000 in
set_option maxRecDepth 100000 in
theorem rises_ltTF (n a b l i j : Int) (w : World) (hn : Hid (wit n 0 2147483647 = l)) (ha : Hid (wit a 0 2147483647 = i)) (hb : Hid (wit b 0 2147483647 = j)) (hn0 : -9223372036854775808 ≤ n) (hn1 : n ≤ 9223372036854775807)
    (ha0 : -9223372036854775808 ≤ a) (ha1 : a ≤ 9223372036854775807) (hb0 : -9223372036854775808 ≤ b) (hb1 : b ≤ 9223372036854775807) (hl0 : 0 ≤ l) (hl1 : l ≤ 2147483647) (hi0 : 0 ≤ i) (hi1 : i ≤ 2147483647) (hj0 : 0 ≤ j) (hj1 : j ≤ 2147483647)
    (hij : i < j) (hle : i ≤ j) (h1 : l + j ≤ 2147483647) (h2 : l < j) (h2' : l < i) :
    Calls Try.prog 8 #[.int .i64 n, .int .i64 a, .int .i64 b] w fun e w' => e = .returned (.bool true) ∧ Below w.heap.size w w' := by
  go_enter Try.func8, Try.ntmps8
  go_wp2_with fail
  refine (wit_is _ _ _ _ _ hn (by omega) (by omega) (by omega) hn0 hn1).mono ?_
  rintro e w1 ⟨rfl, rfl⟩
  go_wp2_with (go_at_call 9; refine (of_yes _ _ (by omega) (by omega)).mono ?_; rintro e w1 ⟨rfl, rfl⟩)
  refine (wit_is _ _ _ _ _ ha (by omega) (by omega) (by omega) ha0 ha1).mono ?_
  rintro e w1 ⟨rfl, rfl⟩
  go_wp2_with fail
  refine (wit_is _ _ _ _ _ hb (by omega) (by omega) (by omega) hb0 hb1).mono ?_
  rintro e w1 ⟨rfl, rfl⟩
  go_wp2_with (first
    | (go_at_call 10; refine (take_yes _ _ _ (by omega) (by omega) (by omega)).mono ?_; rintro e w1 ⟨rfl, rfl⟩)
    | (go_at_call 10; refine (take_no _ _ _ (by omega)).mono ?_; rintro e w1 ⟨rfl, rfl⟩)
    | (go_at_call 11; refine (credit_yes _ _ _ (by omega) (by omega) (by omega) (by omega) (by omega)).mono ?_; rintro e w1 ⟨rfl, rfl⟩)
    | (go_at_call 11; refine (credit_no _ _ _ (by omega) (by omega) (by omega)).mono ?_; rintro e w1 ⟨rfl, rfl⟩))
  go_region_held3 (fun w' => w'.cell? ⟨w.heap.size + 1 + 1 + 1, 0, none⟩ = some (.int .i64 l)) (go_simp) (first | (go_at_call 9; refine (of_yes _ _ (by omega) (by omega)).mono ?_; rintro e w1 ⟨rfl, rfl⟩) | (go_at_call 15; refine (least_three_le l i j _ _ _ (by omega) (by omega) (by omega) ?hb ?h0 ?h1 ?h2).mono ?_; (case hb => go_simp); (case h0 => go_simp); (case h1 => go_simp); (case h2 => go_simp); rintro e w1 ⟨v, hv1, hv2, hv3, rfl, hB1⟩; obtain ⟨hc1, hf1⟩ := bcell hB1))
  go_wp2_with fail
  refine wp_forget (fun W => Below w.heap.size w W ∧ W.cell? ⟨w.heap.size + 1 + 1 + 1, 0, none⟩ = some (.int .i64 (l)) ∧ W.cell? ⟨w.heap.size + 1 + 1 + 1 + 1 + 1 + 1, 0, none⟩ = some (.int .i64 (l + i)) ∧ W.cell? ⟨w.heap.size + 1 + 1 + 1 + 1 + 1 + 1 + 1 + 1 + 1, 0, none⟩ = some (.int .i64 (l + j)) ∧ W.cell? ⟨w.heap.size + 1 + 1 + 1 + 1 + 1 + 1 + 1 + 1 + 1 + 1 + 1 + 1, 0, none⟩ = some (.int .i64 (l)) ∧ W.cell? ⟨w.heap.size + 1 + 1 + 1 + 1 + 1 + 1 + 1 + 1 + 1 + 1 + 1 + 1 + 1 + 1 + 1, 0, none⟩ = some (.int .i64 (l))) ⟨Below.trans (by go_grown) (hB1.mono (by simp only [World.size_drew, World.size_alloc]; omega)), by go_simp, by go_simp, by go_simp, by go_simp, by go_simp⟩ ?_
  clear hB1 hc1 hf1
  rintro W ⟨hB, c3, c6, c9, c12, c15⟩
  replace c3 := cell_regrown c3
  replace c6 := cell_regrown c6
  replace c9 := cell_regrown c9
  replace c12 := cell_regrown c12
  replace c15 := cell_regrown c15
  refine wp_region_quiet_below (by kernel_rfl) (by kernel_rfl) ?_
  repeat (first | go_big_quiet_step (first | exact left_q _ _ _ _ | exact runs_q _ _ _) | quiet_step (first | exact left_q _ _ _ _ | exact runs_q _ _ _))
  refine wpQuiet_nil ?_
  intro W2 hW2
  obtain ⟨⟨dq, osq⟩, rfl⟩ := hW2
  have hB2 := below_regrown W dq osq
  have hBs := hB.size
  go_wp2
  go_ret
  exact ⟨rfl, hB.trans (hB2.mono hBs)⟩

set_option maxHeartbeats 2000000 in
set_option maxRecDepth 100000 in
theorem rises_ltMT (n a b l i j : Int) (w : World) (hn : Hid (wit n 0 2147483647 = l)) (ha : Hid (wit a 0 2147483647 = i)) (hb : Hid (wit b 0 2147483647 = j)) (hn0 : -9223372036854775808 ≤ n) (hn1 : n ≤ 9223372036854775807)
    (ha0 : -9223372036854775808 ≤ a) (ha1 : a ≤ 9223372036854775807) (hb0 : -9223372036854775808 ≤ b) (hb1 : b ≤ 9223372036854775807) (hl0 : 0 ≤ l) (hl1 : l ≤ 2147483647) (hi0 : 0 ≤ i) (hi1 : i ≤ 2147483647) (hj0 : 0 ≤ j) (hj1 : j ≤ 2147483647)
    (hij : i < j) (hle : i ≤ j) (h1 : 2147483647 < l + j) (h1' : l + i ≤ 2147483647) (h2 : j ≤ l) :
    Calls Try.prog 8 #[.int .i64 n, .int .i64 a, .int .i64 b] w fun e w' => e = .returned (.bool true) ∧ Below w.heap.size w w' := by
  go_enter Try.func8, Try.ntmps8
  go_wp2_with fail
  refine (wit_is _ _ _ _ _ hn (by omega) (by omega) (by omega) hn0 hn1).mono ?_
  rintro e w1 ⟨rfl, rfl⟩
  go_wp2_with (go_at_call 9; refine (of_yes _ _ (by omega) (by omega)).mono ?_; rintro e w1 ⟨rfl, rfl⟩)
  refine (wit_is _ _ _ _ _ ha (by omega) (by omega) (by omega) ha0 ha1).mono ?_
  rintro e w1 ⟨rfl, rfl⟩
  go_wp2_with fail
  refine (wit_is _ _ _ _ _ hb (by omega) (by omega) (by omega) hb0 hb1).mono ?_
  rintro e w1 ⟨rfl, rfl⟩
  go_wp2_with (first
    | (go_at_call 10; refine (take_yes _ _ _ (by omega) (by omega) (by omega)).mono ?_; rintro e w1 ⟨rfl, rfl⟩)
    | (go_at_call 10; refine (take_no _ _ _ (by omega)).mono ?_; rintro e w1 ⟨rfl, rfl⟩)
    | (go_at_call 11; refine (credit_yes _ _ _ (by omega) (by omega) (by omega) (by omega) (by omega)).mono ?_; rintro e w1 ⟨rfl, rfl⟩)
    | (go_at_call 11; refine (credit_no _ _ _ (by omega) (by omega) (by omega)).mono ?_; rintro e w1 ⟨rfl, rfl⟩))
  go_region_held3 (fun w' => w'.cell? ⟨w.heap.size + 1 + 1 + 1, 0, none⟩ = some (.int .i64 l)) (go_simp) (first | (go_at_call 9; refine (of_yes _ _ (by omega) (by omega)).mono ?_; rintro e w1 ⟨rfl, rfl⟩) | (go_at_call 15; refine (least_three_le l i j _ _ _ (by omega) (by omega) (by omega) ?hb ?h0 ?h1 ?h2).mono ?_; (case hb => go_simp); (case h0 => go_simp); (case h1 => go_simp); (case h2 => go_simp); rintro e w1 ⟨v, hv1, hv2, hv3, rfl, hB1⟩; obtain ⟨hc1, hf1⟩ := bcell hB1))
  go_wp2_with fail
  refine wp_forget (fun W => Below w.heap.size w W ∧ W.cell? ⟨w.heap.size + 1 + 1 + 1, 0, none⟩ = some (.int .i64 (l)) ∧ W.cell? ⟨w.heap.size + 1 + 1 + 1 + 1 + 1 + 1, 0, none⟩ = some (.int .i64 (l + i)) ∧ W.cell? ⟨w.heap.size + 1 + 1 + 1 + 1 + 1 + 1 + 1 + 1 + 1, 0, none⟩ = some (.int .i64 (l)) ∧ W.cell? ⟨w.heap.size + 1 + 1 + 1 + 1 + 1 + 1 + 1 + 1 + 1 + 1 + 1 + 1, 0, none⟩ = some (.int .i64 (l - i)) ∧ W.cell? ⟨w.heap.size + 1 + 1 + 1 + 1 + 1 + 1 + 1 + 1 + 1 + 1 + 1 + 1 + 1 + 1 + 1, 0, none⟩ = some (.int .i64 (l - j))) ⟨Below.trans (by go_grown) (hB1.mono (by simp only [World.size_drew, World.size_alloc]; omega)), by go_simp, by go_simp, by go_simp, by go_simp, by go_simp⟩ ?_
  clear hB1 hc1 hf1
  rintro W ⟨hB, c3, c6, c9, c12, c15⟩
  replace c3 := cell_regrown c3
  replace c6 := cell_regrown c6
  replace c9 := cell_regrown c9
  replace c12 := cell_regrown c12
  replace c15 := cell_regrown c15
  refine wp_region_quiet_below (by kernel_rfl) (by kernel_rfl) ?_
  repeat (first | go_big_quiet_step (first | exact left_q _ _ _ _ | exact runs_q _ _ _) | quiet_step (first | exact left_q _ _ _ _ | exact runs_q _ _ _))
  refine wpQuiet_nil ?_
  intro W2 hW2
  obtain ⟨⟨dq, osq⟩, rfl⟩ := hW2
  have hB2 := below_regrown W dq osq
  have hBs := hB.size
  go_wp2
  go_ret
  exact ⟨rfl, hB.trans (hB2.mono hBs)⟩

set_option maxHeartbeats 2000000 in
set_option maxRecDepth 100000 in
theorem rises_ltMM (n a b l i j : Int) (w : World) (hn : Hid (wit n 0 2147483647 = l)) (ha : Hid (wit a 0 2147483647 = i)) (hb : Hid (wit b 0 2147483647 = j)) (hn0 : -9223372036854775808 ≤ n) (hn1 : n ≤ 9223372036854775807)
    (ha0 : -9223372036854775808 ≤ a) (ha1 : a ≤ 9223372036854775807) (hb0 : -9223372036854775808 ≤ b) (hb1 : b ≤ 9223372036854775807) (hl0 : 0 ≤ l) (hl1 : l ≤ 2147483647) (hi0 : 0 ≤ i) (hi1 : i ≤ 2147483647) (hj0 : 0 ≤ j) (hj1 : j ≤ 2147483647)
    (hij : i < j) (hle : i ≤ j) (h1 : 2147483647 < l + j) (h1' : l + i ≤ 2147483647) (h2 : l < j) (h2' : i ≤ l) :
    Calls Try.prog 8 #[.int .i64 n, .int .i64 a, .int .i64 b] w fun e w' => e = .returned (.bool true) ∧ Below w.heap.size w w' := by
  go_enter Try.func8, Try.ntmps8
  go_wp2_with fail
  refine (wit_is _ _ _ _ _ hn (by omega) (by omega) (by omega) hn0 hn1).mono ?_
  rintro e w1 ⟨rfl, rfl⟩
  go_wp2_with (go_at_call 9; refine (of_yes _ _ (by omega) (by omega)).mono ?_; rintro e w1 ⟨rfl, rfl⟩)
  refine (wit_is _ _ _ _ _ ha (by omega) (by omega) (by omega) ha0 ha1).mono ?_
  rintro e w1 ⟨rfl, rfl⟩
  go_wp2_with fail
  refine (wit_is _ _ _ _ _ hb (by omega) (by omega) (by omega) hb0 hb1).mono ?_
  rintro e w1 ⟨rfl, rfl⟩
  go_wp2_with (first
    | (go_at_call 10; refine (take_yes _ _ _ (by omega) (by omega) (by omega)).mono ?_; rintro e w1 ⟨rfl, rfl⟩)
    | (go_at_call 10; refine (take_no _ _ _ (by omega)).mono ?_; rintro e w1 ⟨rfl, rfl⟩)
    | (go_at_call 11; refine (credit_yes _ _ _ (by omega) (by omega) (by omega) (by omega) (by omega)).mono ?_; rintro e w1 ⟨rfl, rfl⟩)
    | (go_at_call 11; refine (credit_no _ _ _ (by omega) (by omega) (by omega)).mono ?_; rintro e w1 ⟨rfl, rfl⟩))
  go_region_held3 (fun w' => w'.cell? ⟨w.heap.size + 1 + 1 + 1, 0, none⟩ = some (.int .i64 l)) (go_simp) (first | (go_at_call 9; refine (of_yes _ _ (by omega) (by omega)).mono ?_; rintro e w1 ⟨rfl, rfl⟩) | (go_at_call 15; refine (least_three_le l i j _ _ _ (by omega) (by omega) (by omega) ?hb ?h0 ?h1 ?h2).mono ?_; (case hb => go_simp); (case h0 => go_simp); (case h1 => go_simp); (case h2 => go_simp); rintro e w1 ⟨v, hv1, hv2, hv3, rfl, hB1⟩; obtain ⟨hc1, hf1⟩ := bcell hB1))
  go_wp2_with fail
  refine wp_forget (fun W => Below w.heap.size w W ∧ W.cell? ⟨w.heap.size + 1 + 1 + 1, 0, none⟩ = some (.int .i64 (l)) ∧ W.cell? ⟨w.heap.size + 1 + 1 + 1 + 1 + 1 + 1, 0, none⟩ = some (.int .i64 (l + i)) ∧ W.cell? ⟨w.heap.size + 1 + 1 + 1 + 1 + 1 + 1 + 1 + 1 + 1, 0, none⟩ = some (.int .i64 (l)) ∧ W.cell? ⟨w.heap.size + 1 + 1 + 1 + 1 + 1 + 1 + 1 + 1 + 1 + 1 + 1 + 1, 0, none⟩ = some (.int .i64 (l - i)) ∧ W.cell? ⟨w.heap.size + 1 + 1 + 1 + 1 + 1 + 1 + 1 + 1 + 1 + 1 + 1 + 1 + 1 + 1 + 1, 0, none⟩ = some (.int .i64 (l))) ⟨Below.trans (by go_grown) (hB1.mono (by simp only [World.size_drew, World.size_alloc]; omega)), by go_simp, by go_simp, by go_simp, by go_simp, by go_simp⟩ ?_
  clear hB1 hc1 hf1
  rintro W ⟨hB, c3, c6, c9, c12, c15⟩
  replace c3 := cell_regrown c3
  replace c6 := cell_regrown c6
  replace c9 := cell_regrown c9
  replace c12 := cell_regrown c12
  replace c15 := cell_regrown c15
  refine wp_region_quiet_below (by kernel_rfl) (by kernel_rfl) ?_
  repeat (first | go_big_quiet_step (first | exact left_q _ _ _ _ | exact runs_q _ _ _) | quiet_step (first | exact left_q _ _ _ _ | exact runs_q _ _ _))
  refine wpQuiet_nil ?_
  intro W2 hW2
  obtain ⟨⟨dq, osq⟩, rfl⟩ := hW2
  have hB2 := below_regrown W dq osq
  have hBs := hB.size
  go_wp2
  go_ret
  exact ⟨rfl, hB.trans (hB2.mono hBs)⟩

set_option maxHeartbeats 2000000 in
set_option maxRecDepth 100000 in
theorem rises_ltMF (n a b l i j : Int) (w : World) (hn : Hid (wit n 0 2147483647 = l)) (ha : Hid (wit a 0 2147483647 = i)) (hb : Hid (wit b 0 2147483647 = j)) (hn0 : -9223372036854775808 ≤ n) (hn1 : n ≤ 9223372036854775807)
    (ha0 : -9223372036854775808 ≤ a) (ha1 : a ≤ 9223372036854775807) (hb0 : -9223372036854775808 ≤ b) (hb1 : b ≤ 9223372036854775807) (hl0 : 0 ≤ l) (hl1 : l ≤ 2147483647) (hi0 : 0 ≤ i) (hi1 : i ≤ 2147483647) (hj0 : 0 ≤ j) (hj1 : j ≤ 2147483647)
    (hij : i < j) (hle : i ≤ j) (h1 : 2147483647 < l + j) (h1' : l + i ≤ 2147483647) (h2 : l < j) (h2' : l < i) :
    Calls Try.prog 8 #[.int .i64 n, .int .i64 a, .int .i64 b] w fun e w' => e = .returned (.bool true) ∧ Below w.heap.size w w' := by
  go_enter Try.func8, Try.ntmps8
  go_wp2_with fail
  refine (wit_is _ _ _ _ _ hn (by omega) (by omega) (by omega) hn0 hn1).mono ?_
  rintro e w1 ⟨rfl, rfl⟩
  go_wp2_with (go_at_call 9; refine (of_yes _ _ (by omega) (by omega)).mono ?_; rintro e w1 ⟨rfl, rfl⟩)
  refine (wit_is _ _ _ _ _ ha (by omega) (by omega) (by omega) ha0 ha1).mono ?_
  rintro e w1 ⟨rfl, rfl⟩
  go_wp2_with fail
  refine (wit_is _ _ _ _ _ hb (by omega) (by omega) (by omega) hb0 hb1).mono ?_
  rintro e w1 ⟨rfl, rfl⟩
  go_wp2_with (first
    | (go_at_call 10; refine (take_yes _ _ _ (by omega) (by omega) (by omega)).mono ?_; rintro e w1 ⟨rfl, rfl⟩)
    | (go_at_call 10; refine (take_no _ _ _ (by omega)).mono ?_; rintro e w1 ⟨rfl, rfl⟩)
    | (go_at_call 11; refine (credit_yes _ _ _ (by omega) (by omega) (by omega) (by omega) (by omega)).mono ?_; rintro e w1 ⟨rfl, rfl⟩)
    | (go_at_call 11; refine (credit_no _ _ _ (by omega) (by omega) (by omega)).mono ?_; rintro e w1 ⟨rfl, rfl⟩))
  go_region_held3 (fun w' => w'.cell? ⟨w.heap.size + 1 + 1 + 1, 0, none⟩ = some (.int .i64 l)) (go_simp) (first | (go_at_call 9; refine (of_yes _ _ (by omega) (by omega)).mono ?_; rintro e w1 ⟨rfl, rfl⟩) | (go_at_call 15; refine (least_three_le l i j _ _ _ (by omega) (by omega) (by omega) ?hb ?h0 ?h1 ?h2).mono ?_; (case hb => go_simp); (case h0 => go_simp); (case h1 => go_simp); (case h2 => go_simp); rintro e w1 ⟨v, hv1, hv2, hv3, rfl, hB1⟩; obtain ⟨hc1, hf1⟩ := bcell hB1))
  go_wp2_with fail
  refine wp_forget (fun W => Below w.heap.size w W ∧ W.cell? ⟨w.heap.size + 1 + 1 + 1, 0, none⟩ = some (.int .i64 (l)) ∧ W.cell? ⟨w.heap.size + 1 + 1 + 1 + 1 + 1 + 1, 0, none⟩ = some (.int .i64 (l + i)) ∧ W.cell? ⟨w.heap.size + 1 + 1 + 1 + 1 + 1 + 1 + 1 + 1 + 1, 0, none⟩ = some (.int .i64 (l)) ∧ W.cell? ⟨w.heap.size + 1 + 1 + 1 + 1 + 1 + 1 + 1 + 1 + 1 + 1 + 1 + 1, 0, none⟩ = some (.int .i64 (l)) ∧ W.cell? ⟨w.heap.size + 1 + 1 + 1 + 1 + 1 + 1 + 1 + 1 + 1 + 1 + 1 + 1 + 1 + 1 + 1, 0, none⟩ = some (.int .i64 (l))) ⟨Below.trans (by go_grown) (hB1.mono (by simp only [World.size_drew, World.size_alloc]; omega)), by go_simp, by go_simp, by go_simp, by go_simp, by go_simp⟩ ?_
  clear hB1 hc1 hf1
  rintro W ⟨hB, c3, c6, c9, c12, c15⟩
  replace c3 := cell_regrown c3
  replace c6 := cell_regrown c6
  replace c9 := cell_regrown c9
  replace c12 := cell_regrown c12
  replace c15 := cell_regrown c15
  refine wp_region_quiet_below (by kernel_rfl) (by kernel_rfl) ?_
  repeat (first | go_big_quiet_step (first | exact left_q _ _ _ _ | exact runs_q _ _ _) | quiet_step (first | exact left_q _ _ _ _ | exact runs_q _ _ _))
  refine wpQuiet_nil ?_
  intro W2 hW2
  obtain ⟨⟨dq, osq⟩, rfl⟩ := hW2
  have hB2 := below_regrown W dq osq
  have hBs := hB.size
  go_wp2
  go_ret
  exact ⟨rfl, hB.trans (hB2.mono hBs)⟩

set_option maxHeartbeats 2000000 in
set_option maxRecDepth 100000 in
theorem rises_ltFT (n a b l i j : Int) (w : World) (hn : Hid (wit n 0 2147483647 = l)) (ha : Hid (wit a 0 2147483647 = i)) (hb : Hid (wit b 0 2147483647 = j)) (hn0 : -9223372036854775808 ≤ n) (hn1 : n ≤ 9223372036854775807)
    (ha0 : -9223372036854775808 ≤ a) (ha1 : a ≤ 9223372036854775807) (hb0 : -9223372036854775808 ≤ b) (hb1 : b ≤ 9223372036854775807) (hl0 : 0 ≤ l) (hl1 : l ≤ 2147483647) (hi0 : 0 ≤ i) (hi1 : i ≤ 2147483647) (hj0 : 0 ≤ j) (hj1 : j ≤ 2147483647)
    (hij : i < j) (hle : i ≤ j) (h1 : 2147483647 < l + j) (h1' : 2147483647 < l + i) (h2 : j ≤ l) :
    Calls Try.prog 8 #[.int .i64 n, .int .i64 a, .int .i64 b] w fun e w' => e = .returned (.bool true) ∧ Below w.heap.size w w' := by
  go_enter Try.func8, Try.ntmps8
  go_wp2_with fail
  refine (wit_is _ _ _ _ _ hn (by omega) (by omega) (by omega) hn0 hn1).mono ?_
  rintro e w1 ⟨rfl, rfl⟩
  go_wp2_with (go_at_call 9; refine (of_yes _ _ (by omega) (by omega)).mono ?_; rintro e w1 ⟨rfl, rfl⟩)
  refine (wit_is _ _ _ _ _ ha (by omega) (by omega) (by omega) ha0 ha1).mono ?_
  rintro e w1 ⟨rfl, rfl⟩
  go_wp2_with fail
  refine (wit_is _ _ _ _ _ hb (by omega) (by omega) (by omega) hb0 hb1).mono ?_
  rintro e w1 ⟨rfl, rfl⟩
  go_wp2_with (first
    | (go_at_call 10; refine (take_yes _ _ _ (by omega) (by omega) (by omega)).mono ?_; rintro e w1 ⟨rfl, rfl⟩)
    | (go_at_call 10; refine (take_no _ _ _ (by omega)).mono ?_; rintro e w1 ⟨rfl, rfl⟩)
    | (go_at_call 11; refine (credit_yes _ _ _ (by omega) (by omega) (by omega) (by omega) (by omega)).mono ?_; rintro e w1 ⟨rfl, rfl⟩)
    | (go_at_call 11; refine (credit_no _ _ _ (by omega) (by omega) (by omega)).mono ?_; rintro e w1 ⟨rfl, rfl⟩))
  go_region_held3 (fun w' => w'.cell? ⟨w.heap.size + 1 + 1 + 1, 0, none⟩ = some (.int .i64 l)) (go_simp) (first | (go_at_call 9; refine (of_yes _ _ (by omega) (by omega)).mono ?_; rintro e w1 ⟨rfl, rfl⟩) | (go_at_call 15; refine (least_three_le l i j _ _ _ (by omega) (by omega) (by omega) ?hb ?h0 ?h1 ?h2).mono ?_; (case hb => go_simp); (case h0 => go_simp); (case h1 => go_simp); (case h2 => go_simp); rintro e w1 ⟨v, hv1, hv2, hv3, rfl, hB1⟩; obtain ⟨hc1, hf1⟩ := bcell hB1))
  go_wp2_with fail
  refine wp_forget (fun W => Below w.heap.size w W ∧ W.cell? ⟨w.heap.size + 1 + 1 + 1, 0, none⟩ = some (.int .i64 (l)) ∧ W.cell? ⟨w.heap.size + 1 + 1 + 1 + 1 + 1 + 1, 0, none⟩ = some (.int .i64 (l)) ∧ W.cell? ⟨w.heap.size + 1 + 1 + 1 + 1 + 1 + 1 + 1 + 1 + 1, 0, none⟩ = some (.int .i64 (l)) ∧ W.cell? ⟨w.heap.size + 1 + 1 + 1 + 1 + 1 + 1 + 1 + 1 + 1 + 1 + 1 + 1, 0, none⟩ = some (.int .i64 (l - i)) ∧ W.cell? ⟨w.heap.size + 1 + 1 + 1 + 1 + 1 + 1 + 1 + 1 + 1 + 1 + 1 + 1 + 1 + 1 + 1, 0, none⟩ = some (.int .i64 (l - j))) ⟨Below.trans (by go_grown) (hB1.mono (by simp only [World.size_drew, World.size_alloc]; omega)), by go_simp, by go_simp, by go_simp, by go_simp, by go_simp⟩ ?_
  clear hB1 hc1 hf1
  rintro W ⟨hB, c3, c6, c9, c12, c15⟩
  replace c3 := cell_regrown c3
  replace c6 := cell_regrown c6
  replace c9 := cell_regrown c9
  replace c12 := cell_regrown c12
  replace c15 := cell_regrown c15
  refine wp_region_quiet_below (by kernel_rfl) (by kernel_rfl) ?_
  repeat (first | go_big_quiet_step (first | exact left_q _ _ _ _ | exact runs_q _ _ _) | quiet_step (first | exact left_q _ _ _ _ | exact runs_q _ _ _))
  refine wpQuiet_nil ?_
  intro W2 hW2
  obtain ⟨⟨dq, osq⟩, rfl⟩ := hW2
  have hB2 := below_regrown W dq osq
  have hBs := hB.size
  go_wp2
  go_ret
  exact ⟨rfl, hB.trans (hB2.mono hBs)⟩

set_option maxHeartbeats 2000000 in
set_option maxRecDepth 100000 in
theorem rises_ltFM (n a b l i j : Int) (w : World) (hn : Hid (wit n 0 2147483647 = l)) (ha : Hid (wit a 0 2147483647 = i)) (hb : Hid (wit b 0 2147483647 = j)) (hn0 : -9223372036854775808 ≤ n) (hn1 : n ≤ 9223372036854775807)
    (ha0 : -9223372036854775808 ≤ a) (ha1 : a ≤ 9223372036854775807) (hb0 : -9223372036854775808 ≤ b) (hb1 : b ≤ 9223372036854775807) (hl0 : 0 ≤ l) (hl1 : l ≤ 2147483647) (hi0 : 0 ≤ i) (hi1 : i ≤ 2147483647) (hj0 : 0 ≤ j) (hj1 : j ≤ 2147483647)
    (hij : i < j) (hle : i ≤ j) (h1 : 2147483647 < l + j) (h1' : 2147483647 < l + i) (h2 : l < j) (h2' : i ≤ l) :
    Calls Try.prog 8 #[.int .i64 n, .int .i64 a, .int .i64 b] w fun e w' => e = .returned (.bool true) ∧ Below w.heap.size w w' := by
  go_enter Try.func8, Try.ntmps8
  go_wp2_with fail
  refine (wit_is _ _ _ _ _ hn (by omega) (by omega) (by omega) hn0 hn1).mono ?_
  rintro e w1 ⟨rfl, rfl⟩
  go_wp2_with (go_at_call 9; refine (of_yes _ _ (by omega) (by omega)).mono ?_; rintro e w1 ⟨rfl, rfl⟩)
  refine (wit_is _ _ _ _ _ ha (by omega) (by omega) (by omega) ha0 ha1).mono ?_
  rintro e w1 ⟨rfl, rfl⟩
  go_wp2_with fail
  refine (wit_is _ _ _ _ _ hb (by omega) (by omega) (by omega) hb0 hb1).mono ?_
  rintro e w1 ⟨rfl, rfl⟩
  go_wp2_with (first
    | (go_at_call 10; refine (take_yes _ _ _ (by omega) (by omega) (by omega)).mono ?_; rintro e w1 ⟨rfl, rfl⟩)
    | (go_at_call 10; refine (take_no _ _ _ (by omega)).mono ?_; rintro e w1 ⟨rfl, rfl⟩)
    | (go_at_call 11; refine (credit_yes _ _ _ (by omega) (by omega) (by omega) (by omega) (by omega)).mono ?_; rintro e w1 ⟨rfl, rfl⟩)
    | (go_at_call 11; refine (credit_no _ _ _ (by omega) (by omega) (by omega)).mono ?_; rintro e w1 ⟨rfl, rfl⟩))
  go_region_held3 (fun w' => w'.cell? ⟨w.heap.size + 1 + 1 + 1, 0, none⟩ = some (.int .i64 l)) (go_simp) (first | (go_at_call 9; refine (of_yes _ _ (by omega) (by omega)).mono ?_; rintro e w1 ⟨rfl, rfl⟩) | (go_at_call 15; refine (least_three_le l i j _ _ _ (by omega) (by omega) (by omega) ?hb ?h0 ?h1 ?h2).mono ?_; (case hb => go_simp); (case h0 => go_simp); (case h1 => go_simp); (case h2 => go_simp); rintro e w1 ⟨v, hv1, hv2, hv3, rfl, hB1⟩; obtain ⟨hc1, hf1⟩ := bcell hB1))
  go_wp2_with fail
  refine wp_forget (fun W => Below w.heap.size w W ∧ W.cell? ⟨w.heap.size + 1 + 1 + 1, 0, none⟩ = some (.int .i64 (l)) ∧ W.cell? ⟨w.heap.size + 1 + 1 + 1 + 1 + 1 + 1, 0, none⟩ = some (.int .i64 (l)) ∧ W.cell? ⟨w.heap.size + 1 + 1 + 1 + 1 + 1 + 1 + 1 + 1 + 1, 0, none⟩ = some (.int .i64 (l)) ∧ W.cell? ⟨w.heap.size + 1 + 1 + 1 + 1 + 1 + 1 + 1 + 1 + 1 + 1 + 1 + 1, 0, none⟩ = some (.int .i64 (l - i)) ∧ W.cell? ⟨w.heap.size + 1 + 1 + 1 + 1 + 1 + 1 + 1 + 1 + 1 + 1 + 1 + 1 + 1 + 1 + 1, 0, none⟩ = some (.int .i64 (l))) ⟨Below.trans (by go_grown) (hB1.mono (by simp only [World.size_drew, World.size_alloc]; omega)), by go_simp, by go_simp, by go_simp, by go_simp, by go_simp⟩ ?_
  clear hB1 hc1 hf1
  rintro W ⟨hB, c3, c6, c9, c12, c15⟩
  replace c3 := cell_regrown c3
  replace c6 := cell_regrown c6
  replace c9 := cell_regrown c9
  replace c12 := cell_regrown c12
  replace c15 := cell_regrown c15
  refine wp_region_quiet_below (by kernel_rfl) (by kernel_rfl) ?_
  repeat (first | go_big_quiet_step (first | exact left_q _ _ _ _ | exact runs_q _ _ _) | quiet_step (first | exact left_q _ _ _ _ | exact runs_q _ _ _))
  refine wpQuiet_nil ?_
  intro W2 hW2
  obtain ⟨⟨dq, osq⟩, rfl⟩ := hW2
  have hB2 := below_regrown W dq osq
  have hBs := hB.size
  go_wp2
  go_ret
  exact ⟨rfl, hB.trans (hB2.mono hBs)⟩

set_option maxHeartbeats 2000000 in
set_option maxRecDepth 100000 in
theorem rises_ltFF (n a b l i j : Int) (w : World) (hn : Hid (wit n 0 2147483647 = l)) (ha : Hid (wit a 0 2147483647 = i)) (hb : Hid (wit b 0 2147483647 = j)) (hn0 : -9223372036854775808 ≤ n) (hn1 : n ≤ 9223372036854775807)
    (ha0 : -9223372036854775808 ≤ a) (ha1 : a ≤ 9223372036854775807) (hb0 : -9223372036854775808 ≤ b) (hb1 : b ≤ 9223372036854775807) (hl0 : 0 ≤ l) (hl1 : l ≤ 2147483647) (hi0 : 0 ≤ i) (hi1 : i ≤ 2147483647) (hj0 : 0 ≤ j) (hj1 : j ≤ 2147483647)
    (hij : i < j) (hle : i ≤ j) (h1 : 2147483647 < l + j) (h1' : 2147483647 < l + i) (h2 : l < j) (h2' : l < i) :
    Calls Try.prog 8 #[.int .i64 n, .int .i64 a, .int .i64 b] w fun e w' => e = .returned (.bool true) ∧ Below w.heap.size w w' := by
  go_enter Try.func8, Try.ntmps8
  go_wp2_with fail
  refine (wit_is _ _ _ _ _ hn (by omega) (by omega) (by omega) hn0 hn1).mono ?_
  rintro e w1 ⟨rfl, rfl⟩
  go_wp2_with (go_at_call 9; refine (of_yes _ _ (by omega) (by omega)).mono ?_; rintro e w1 ⟨rfl, rfl⟩)
  refine (wit_is _ _ _ _ _ ha (by omega) (by omega) (by omega) ha0 ha1).mono ?_
  rintro e w1 ⟨rfl, rfl⟩
  go_wp2_with fail
  refine (wit_is _ _ _ _ _ hb (by omega) (by omega) (by omega) hb0 hb1).mono ?_
  rintro e w1 ⟨rfl, rfl⟩
  go_wp2_with (first
    | (go_at_call 10; refine (take_yes _ _ _ (by omega) (by omega) (by omega)).mono ?_; rintro e w1 ⟨rfl, rfl⟩)
    | (go_at_call 10; refine (take_no _ _ _ (by omega)).mono ?_; rintro e w1 ⟨rfl, rfl⟩)
    | (go_at_call 11; refine (credit_yes _ _ _ (by omega) (by omega) (by omega) (by omega) (by omega)).mono ?_; rintro e w1 ⟨rfl, rfl⟩)
    | (go_at_call 11; refine (credit_no _ _ _ (by omega) (by omega) (by omega)).mono ?_; rintro e w1 ⟨rfl, rfl⟩))
  go_region_held3 (fun w' => w'.cell? ⟨w.heap.size + 1 + 1 + 1, 0, none⟩ = some (.int .i64 l)) (go_simp) (first | (go_at_call 9; refine (of_yes _ _ (by omega) (by omega)).mono ?_; rintro e w1 ⟨rfl, rfl⟩) | (go_at_call 15; refine (least_three_le l i j _ _ _ (by omega) (by omega) (by omega) ?hb ?h0 ?h1 ?h2).mono ?_; (case hb => go_simp); (case h0 => go_simp); (case h1 => go_simp); (case h2 => go_simp); rintro e w1 ⟨v, hv1, hv2, hv3, rfl, hB1⟩; obtain ⟨hc1, hf1⟩ := bcell hB1))
  go_wp2_with fail
  refine wp_forget (fun W => Below w.heap.size w W ∧ W.cell? ⟨w.heap.size + 1 + 1 + 1, 0, none⟩ = some (.int .i64 (l)) ∧ W.cell? ⟨w.heap.size + 1 + 1 + 1 + 1 + 1 + 1, 0, none⟩ = some (.int .i64 (l)) ∧ W.cell? ⟨w.heap.size + 1 + 1 + 1 + 1 + 1 + 1 + 1 + 1 + 1, 0, none⟩ = some (.int .i64 (l)) ∧ W.cell? ⟨w.heap.size + 1 + 1 + 1 + 1 + 1 + 1 + 1 + 1 + 1 + 1 + 1 + 1, 0, none⟩ = some (.int .i64 (l)) ∧ W.cell? ⟨w.heap.size + 1 + 1 + 1 + 1 + 1 + 1 + 1 + 1 + 1 + 1 + 1 + 1 + 1 + 1 + 1, 0, none⟩ = some (.int .i64 (l))) ⟨Below.trans (by go_grown) (hB1.mono (by simp only [World.size_drew, World.size_alloc]; omega)), by go_simp, by go_simp, by go_simp, by go_simp, by go_simp⟩ ?_
  clear hB1 hc1 hf1
  rintro W ⟨hB, c3, c6, c9, c12, c15⟩
  replace c3 := cell_regrown c3
  replace c6 := cell_regrown c6
  replace c9 := cell_regrown c9
  replace c12 := cell_regrown c12
  replace c15 := cell_regrown c15
  refine wp_region_quiet_below (by kernel_rfl) (by kernel_rfl) ?_
  repeat (first | go_big_quiet_step (first | exact left_q _ _ _ _ | exact runs_q _ _ _) | quiet_step (first | exact left_q _ _ _ _ | exact runs_q _ _ _))
  refine wpQuiet_nil ?_
  intro W2 hW2
  obtain ⟨⟨dq, osq⟩, rfl⟩ := hW2
  have hB2 := below_regrown W dq osq
  have hBs := hB.size
  go_wp2
  go_ret
  exact ⟨rfl, hB.trans (hB2.mono hBs)⟩
end Go.Proofs.Ythkkdhjippnkfaa
