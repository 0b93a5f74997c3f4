/- ShapeRuns. -/
import Derived.Test.YtolpfbdklcjlkaaBad
namespace Go.Proofs.Ytolpfbdklcjlkaa
open Go.ChangeShapes Go.WideShapes Go.ChangeAt Go.RowKit
set_option linter.unusedVariables false
set_option linter.unusedSimpArgs false

set_option maxHeartbeats 4000000 in
set_option maxRecDepth 100000 in
theorem runs_any (w : World) : Calls Try.prog 3 #[] w fun e w' => e = .returned (.bool true) ∧ Below w.heap.size w w' := by
  have HOF := Lib.hid run_ok
  go_enter Try.func3, Try.ntmps3
  go_upto_region 2 with (go_at_call 10; refine (of_is 0 9 1 _ [1, 97, 98, 0] _ (bs_lit w [1, 97, 98, 0] (by decide) _ (by first | rfl | go_size)) (byt_lit _ (by decide)) _ _ _ _ _ _ _ _ _ _ _ _ _ _ _ HOF).mono ?_; rintro e w1 ⟨⟨Ab, cb, As, cs, rfl, hob, hsv⟩, hB1⟩; have hs1 := hB1.size; have hA1 : Below w.heap.size w w1 := Below.trans (by go_grown) (hB1.mono (by simp only [World.size_alloc]; omega)); have hs2 := hA1.size)
  refine wp_forget (fun W => Below w.heap.size w W ∧ w1.heap.size + 1 < W.heap.size ∧ Hid (Blk W w1.heap.size 26 #[.int .i64 0, .int .i64 1, .bool true, .bool false, .bool false, .slice Ab 2 cb, .int .i64 0, .int .i64 0, .int .i64 0, .int .i64 4, .slice As 0 cs]) ∧ Hid (Blk W (w1.heap.size + 1) 28 #[.int .i64 0, .int .i64 0, .int .i64 0]) ∧ Hid (BS W (.slice Ab 2 cb) [97, 98]) ∧ Hid (Rowy W (.slice As 0 cs) 0 2 (SV fun _ => (0, 0)))) ⟨by go_grown, by go_size, Lib.hid ((Blk.new _ _ _).alloc _), Lib.hid (Blk.new_at (by go_size)), Lib.hid ((bs_own hob rfl).below (by go_grown) (Nat.le_refl _)), Lib.hid ((rowy_own hsv).below (by go_grown) (Nat.le_refl _))⟩ ?_
  generalize w1.heap.size = g at *
  rintro W0 ⟨hA0, hl0, HP0, HX0, HD0, HS0⟩
  clear hob hsv hB1 hs1 hA1 hs2
  have hz0 := hA0.size
  go_wp2_with fail
  refine (bad_any 0 0 0 2 1 0 none 0 0 [] _ (bs_nil _) (byt_lit _ (by decide)) run_a1 (by decide)).mono ?_
  rintro e W1 ⟨rfl, hB1⟩
  have hC1 : Below W0.heap.size W0 W1 := Below.trans (by go_grown) (hB1.mono (by first | omega | (simp only [World.size_alloc]; omega)))
  have hA1 := hA0.trans (hC1.mono hz0)
  have hz1 := hA1.size
  have hl1 : g + 1 < W1.heap.size := Nat.lt_of_lt_of_le hl0 hC1.size
  have HP1 := Lib.hid (HP0.out.below hC1 (by omega))
  have HX1 := Lib.hid (HX0.out.below hC1 (by omega))
  have HD1 := Lib.hid (HD0.out.below hC1 (Nat.le_refl _))
  have HS1 := Lib.hid (HS0.out.below hC1 (Nat.le_refl _))
  clear hB1
  go_wp2_with fail
  refine (bad_any 0 8 1 2 1 0 _ 2 2 [5, 97] _ (bs_lit _ [5, 97] (by decide) _ (by first | rfl | go_size)) (byt_lit _ (by decide)) run_a2 (by decide)).mono ?_
  rintro e W2 ⟨rfl, hB2⟩
  have hC2 : Below W1.heap.size W1 W2 := Below.trans (by go_grown) (hB2.mono (by first | omega | (simp only [World.size_alloc]; omega)))
  have hA2 := hA1.trans (hC2.mono hz1)
  have hz2 := hA2.size
  have hl2 : g + 1 < W2.heap.size := Nat.lt_of_lt_of_le hl1 hC2.size
  have HP2 := Lib.hid (HP1.out.below hC2 (by omega))
  have HX2 := Lib.hid (HX1.out.below hC2 (by omega))
  have HD2 := Lib.hid (HD1.out.below hC2 (Nat.le_refl _))
  have HS2 := Lib.hid (HS1.out.below hC2 (Nat.le_refl _))
  clear hB2
  go_wp2_with fail
  refine (bad_any 8 0 3 1 1 3 _ 4 4 [128, 0, 0, 0] _ (bs_lit _ [128, 0, 0, 0] (by decide) _ (by first | rfl | go_size)) (byt_lit _ (by decide)) run_b1 (by decide)).mono ?_
  rintro e W3 ⟨rfl, hB3⟩
  have hC3 : Below W2.heap.size W2 W3 := Below.trans (by go_grown) (hB3.mono (by first | omega | (simp only [World.size_alloc]; omega)))
  have hA3 := hA2.trans (hC3.mono hz2)
  have hz3 := hA3.size
  have hl3 : g + 1 < W3.heap.size := Nat.lt_of_lt_of_le hl2 hC3.size
  have HP3 := Lib.hid (HP2.out.below hC3 (by omega))
  have HX3 := Lib.hid (HX2.out.below hC3 (by omega))
  have HD3 := Lib.hid (HD2.out.below hC3 (Nat.le_refl _))
  have HS3 := Lib.hid (HS2.out.below hC3 (Nat.le_refl _))
  clear hB3
  go_wp2_with fail
  refine (bad_any 4 0 0 2 3 0 _ 6 6 [0, 4, 128, 0, 0, 0] _ (bs_lit _ [0, 4, 128, 0, 0, 0] (by decide) _ (by first | rfl | go_size)) (byt_lit _ (by decide)) run_b2 (by decide)).mono ?_
  rintro e W4 ⟨rfl, hB4⟩
  have hC4 : Below W3.heap.size W3 W4 := Below.trans (by go_grown) (hB4.mono (by first | omega | (simp only [World.size_alloc]; omega)))
  have hA4 := hA3.trans (hC4.mono hz3)
  have hz4 := hA4.size
  have hl4 : g + 1 < W4.heap.size := Nat.lt_of_lt_of_le hl3 hC4.size
  have HP4 := Lib.hid (HP3.out.below hC4 (by omega))
  have HX4 := Lib.hid (HX3.out.below hC4 (by omega))
  have HD4 := Lib.hid (HD3.out.below hC4 (Nat.le_refl _))
  have HS4 := Lib.hid (HS3.out.below hC4 (Nat.le_refl _))
  clear hB4
  go_wp2_with fail
  refine (bad_any 3 0 1 2 6 0 _ 3 3 [0, 0, 0] _ (bs_lit _ [0, 0, 0] (by decide) _ (by first | rfl | go_size)) (byt_lit _ (by decide)) run_b3 (by decide)).mono ?_
  rintro e W5 ⟨rfl, hB5⟩
  have hC5 : Below W4.heap.size W4 W5 := Below.trans (by go_grown) (hB5.mono (by first | omega | (simp only [World.size_alloc]; omega)))
  have hA5 := hA4.trans (hC5.mono hz4)
  have hz5 := hA5.size
  have hl5 : g + 1 < W5.heap.size := Nat.lt_of_lt_of_le hl4 hC5.size
  have HP5 := Lib.hid (HP4.out.below hC5 (by omega))
  have HX5 := Lib.hid (HX4.out.below hC5 (by omega))
  have HD5 := Lib.hid (HD4.out.below hC5 (Nat.le_refl _))
  have HS5 := Lib.hid (HS4.out.below hC5 (Nat.le_refl _))
  clear hB5
  have p0 : W5.cell? ⟨g, 0, none⟩ = some (.int .i64 0) := HP5.out.cell 0
  have p1 : W5.cell? ⟨g, 1, none⟩ = some (.int .i64 1) := HP5.out.cell 1
  have p2 : W5.cell? ⟨g, 2, none⟩ = some (.bool true) := HP5.out.cell 2
  have p3 : W5.cell? ⟨g, 3, none⟩ = some (.bool false) := HP5.out.cell 3
  have p4 : W5.cell? ⟨g, 4, none⟩ = some (.bool false) := HP5.out.cell 4
  have p5 : W5.cell? ⟨g, 5, none⟩ = some (.slice Ab 2 cb) := HP5.out.cell 5
  have p6 : W5.cell? ⟨g, 6, none⟩ = some (.int .i64 0) := HP5.out.cell 6
  have p7 : W5.cell? ⟨g, 7, none⟩ = some (.int .i64 0) := HP5.out.cell 7
  have p8 : W5.cell? ⟨g, 8, none⟩ = some (.int .i64 0) := HP5.out.cell 8
  have p9 : W5.cell? ⟨g, 9, none⟩ = some (.int .i64 4) := HP5.out.cell 9
  have p10 : W5.cell? ⟨g, 10, none⟩ = some (.slice As 0 cs) := HP5.out.cell 10
  have x0 : W5.cell? ⟨g + 1, 0, none⟩ = some (.int .i64 0) := HX5.out.cell 0
  have x1 : W5.cell? ⟨g + 1, 1, none⟩ = some (.int .i64 0) := HX5.out.cell 1
  have x2 : W5.cell? ⟨g + 1, 2, none⟩ = some (.int .i64 0) := HX5.out.cell 2
  go_wp2_with (go_at_call 12; refine (parts_any _ _ _ _ _ _ _ _ _ _ _ _ _ [97, 98] 0 (fun _ => (0, 0)) _ (HD5.out.below (by go_grown) (Nat.le_refl _)) (bs_lit W5 [97, 98] (by decide) _ (by first | rfl | go_size)) (HS5.out.below (by go_grown) (Nat.le_refl _)) (rowy_nil _ _ _)).mono ?_; rintro e w9 ⟨rfl, hB9⟩)
  go_ret
  exact ⟨rfl, hA5.trans (Below.trans (by go_grown) (hB9.mono (by simp only [World.size_alloc]; omega)))⟩
end Go.Proofs.Ytolpfbdklcjlkaa
