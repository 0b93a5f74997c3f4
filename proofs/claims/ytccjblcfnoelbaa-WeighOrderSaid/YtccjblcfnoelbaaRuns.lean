/- WeighRuns. -/
import Derived.Test.YtccjblcfnoelbaaEdge
import Derived.Test.YtccjblcfnoelbaaQ
import Derived.Deep.RegionWith
namespace Go.Proofs.Ytccjblcfnoelbaa
open Go.ChangeShapes Go.WideShapes Go.ChangeAt Go.RowKit
set_option linter.unusedVariables false
set_option linter.unusedSimpArgs false

theorem qv1 : qv ⟨#[48, 46, 53]⟩ = (4602678819172646912, true) := by decide +kernel
theorem qv2 : qv ⟨#[49, 46, 48, 48, 48]⟩ = (4607182418800017408, true) := by decide +kernel
theorem qv3 : qv ⟨#[49, 46, 48, 48, 49]⟩ = (0, false) := by decide +kernel
theorem qv4 : qv ⟨#[48, 46, 48, 48, 48, 53]⟩ = (0, false) := by decide +kernel
theorem qv5 : qv ⟨#[46, 53]⟩ = (0, false) := by decide +kernel
theorem clean_nan {n : Nat} (h : nan n) : clean n = 0 := by
  unfold clean
  rw [show fgt n 4607182418800017408 = _ from gt_iff _ _, show fgt n 0 = _ from gt_iff _ _, decide_eq_false (fun x => x.1 h), decide_eq_false (fun x => x.1 h)]
  rfl
theorem clean_neg : clean 9223372036854775808 = 0 := by decide +kernel
theorem clean_inf : clean 9218868437227405312 = 4607182418800017408 := by decide +kernel
theorem rank0 : decide (rank 0 = rank 0) = true := by decide
theorem secs_eval {x : Nat} {n : Int} (h1 : fge x 4746794007244308480 = false) (h2 : fgt x 0 = true) (h3 : floatToIntVal .f64 x .i64 = some n) : secs x = n := by
  have := secs_conv x h1 h2
  rw [h3] at this
  unfold secs
  rw [h1, h2, if_neg (by decide), if_pos rfl]
  exact (Option.some.inj this).symm
theorem secs1 : secs 4611235658464650854 = 1 := secs_eval (by decide +kernel) (by decide +kernel) (by decide +kernel)
theorem secs_low : secs 18442240474082181120 = 0 := by
  unfold secs
  rw [if_neg (by decide +kernel), if_neg (by decide +kernel)]
theorem secs_big : secs 9094988921128908188 = 2147483647 := by
  unfold secs
  rw [if_pos (by decide +kernel)]
theorem share1 (w : World) : Calls Try.prog 17 #[.int .i64 1000, .float .f64 4591870180066957722] w fun e w' => e = .returned (.int .i64 100) ∧ w = w' :=
  share_at 1000 4591870180066957722 4636737291354636288 100 w (by decide +kernel) (by decide +kernel)
theorem share2 (w : World) : Calls Try.prog 17 #[.int .i64 (-5), .float .f64 4607182418800017408] w fun e w' => e = .returned (.int .i64 0) ∧ w = w' :=
  share_at (-5) 4607182418800017408 0 0 w (by decide +kernel) (by decide +kernel)
theorem cmp_nan_low {n : Nat} (h : nan n) : cmpR n 18442240474082181120 = -1 := by
  unfold cmpR
  have h1 : rank n = -100000000000000000000 := by unfold rank; rw [if_pos h]
  have h2 : rank 18442240474082181120 = -18437736874454810624 := by decide
  rw [h1, h2]
  rfl
theorem cmp_neg_zero : cmpR 9223372036854775808 0 = -1 := by decide
def z3 (a b c : Nat) (i : Nat) : Nat := if i = 0 then a else if i = 1 then b else c
theorem rowy3 (w : World) (a b c : Nat) : Rowy (w.alloc (.cells #[.float .f64 a, .float .f64 b, .float .f64 c] 22)) (.slice (some ⟨w.heap.size, 0, none⟩) 3 3) 3 1 (fun i _ => .float .f64 (z3 a b c i)) :=
  ⟨_, _, rfl, Nat.le_refl _, by unfold maxLen; omega, fun _ => ⟨w.heap.size, 0, rfl, by simp only [World.size_alloc]; omega, fun i j hi hj => by
    obtain rfl : j = 0 := by omega
    have := (Blk.new w 22 #[.float .f64 a, .float .f64 b, .float .f64 c]).cell i
    rw [show (0 + (i * 1 + 0)) = i by omega, this]
    rcases (show i = 0 ∨ i = 1 ∨ i = 2 by omega) with rfl | rfl | rfl <;> rfl⟩⟩
theorem bst_runs {n : Nat} (h : nan n) : bst (z3 0 n 9223372036854775808) 3 = 0 := by
  have h1 : cmpR n 0 = -1 := by
    unfold cmpR
    have h1 : rank n = -100000000000000000000 := by unfold rank; rw [if_pos h]
    have h2 : rank 0 = 0 := by decide
    rw [h1, h2]
    rfl
  have e1 : bst (z3 0 n 9223372036854775808) 1 = 0 := rfl
  have e2 : bst (z3 0 n 9223372036854775808) 2 = 0 := by
    rw [bst, e1]
    show (if (0 : Int) < 0 ∨ 0 < cmpR n 0 then _ else _) = _
    rw [h1]
    rfl
  rw [bst, e2]
  show (if (0 : Int) < 0 ∨ 0 < cmpR 9223372036854775808 0 then _ else _) = _
  rw [cmp_neg_zero]
  rfl
set_option maxHeartbeats 4000000 in
set_option maxRecDepth 100000 in
theorem runs_any (w : World) : Calls Try.prog 3 #[] w fun e w' => e = .returned (.bool true) ∧ Below w.heap.size w w' := by
  have q1 : (FloatKind.f64.format.order 4607182418800017408 4607182418800017408 == some .eq) = true := by decide +kernel
  have q2 : (FloatKind.f64.format.order 4602678819172646912 4602678819172646912 == some .eq) = true := by decide +kernel
  go_enter Try.func3, Try.ntmps3
  go_wp2_with (first
    | (go_at_call 12; refine (q_any _ _).mono ?_; rintro e w1 ⟨rfl, rfl⟩; first | rw [qv1] | rw [qv2] | rw [qv3] | rw [qv4] | rw [qv5])
    | (go_at_call_of 13 (Value.int IntKind.i64 0); refine (edge_nan _).mono ?_; rintro e w1 ⟨nn, hnn, hnl, rfl, hB1⟩)
    | (go_at_call_of 13 (Value.int IntKind.i64 1); refine (edge_inf _).mono ?_; rintro e w2 ⟨rfl, rfl⟩)
    | (go_at_call_of 13 (Value.int IntKind.i64 2); refine (edge_low _).mono ?_; rintro e w2 ⟨rfl, rfl⟩)
    | (go_at_call 15; refine (clean_any _ _).mono ?_; rintro e w2 ⟨rfl, rfl⟩; first | rw [clean_nan hnn] | rw [clean_neg] | rw [clean_inf])
    | (go_at_call 14; refine (same_any _ _ _ (by decide) (by decide)).mono ?_; rintro e w2 ⟨rfl, rfl⟩; rw [rank0])
    | (go_at_call 16; refine (minus_any _).mono ?_; rintro e w2 ⟨rfl, rfl⟩)
    | (go_at_call_of 17 (Value.int IntKind.i64 1000); refine (share1 _).mono ?_; rintro e w2 ⟨rfl, rfl⟩)
    | (go_at_call_of 17 (Value.float FloatKind.f64 4607182418800017408); refine (share2 _).mono ?_; rintro e w2 ⟨rfl, rfl⟩)
    | (go_at_call 18; refine (seconds_any _ _).mono ?_; rintro e w2 ⟨rfl, rfl⟩; first | rw [secs1] | rw [secs_low] | rw [secs_big])
    | (go_at_call 19; refine (compare_any _ _ _ (by first | assumption | decide) (by decide)).mono ?_; rintro e w2 ⟨rfl, rfl⟩; first | rw [cmp_nan_low hnn] | rw [cmp_neg_zero])
    | (go_at_call 20; refine (best_any _ 3 (z3 0 nn 9223372036854775808) _ (rowy3 _ _ _ _) (fun i hi => by unfold z3; split; exact (by decide); split; exact hnl; exact (by decide))).mono ?_; rintro e w2 ⟨rfl, hB2⟩; rw [bst_runs hnn]))
  have hs1 := hB1.size
  go_ret
  refine ⟨rfl, ?_⟩
  refine Below.trans ?_ (hB2.mono ?_)
  · go_grown
  · have := hB1.size; simp only [World.size_alloc]; omega
end Go.Proofs.Ytccjblcfnoelbaa
