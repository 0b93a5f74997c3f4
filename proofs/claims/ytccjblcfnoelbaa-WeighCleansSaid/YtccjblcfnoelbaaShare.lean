/- Share, and WeighTells. -/
import Derived.Test.YtccjblcfnoelbaaMul
namespace Go.Proofs.Ytccjblcfnoelbaa
open Go.ChangeShapes Go.WideShapes Go.ChangeAt Go.RowKit
set_option linter.unusedVariables false
set_option linter.unusedSimpArgs false

theorem val_le {r s : Nat} (h : r ≤ s) : val r ≤ val s := by
  rcases Nat.lt_or_eq_of_le h with h | h
  · exact Nat.le_of_lt (val_lt h)
  · rw [h]; exact Nat.le_refl _
def shp (k c : Nat) : Nat := if k * val c = 0 then 0 else near (k * val c)
theorem shp_mono {k c c' : Nat} (h : c ≤ c') : shp k c ≤ shp k c' := by
  unfold shp
  have hv := Nat.mul_le_mul_left k (val_le h)
  by_cases h1 : k * val c = 0
  · rw [if_pos h1]; omega
  · rw [if_neg h1, if_neg (by omega)]
    exact near_mono h1 hv
theorem shp_one (k : Nat) (hk : k ≤ 2147483647) : val (shp k 4607182418800017408) = k * U := by
  obtain ⟨r, h1, h2, h3⟩ := ofInt_U k (by omega)
  unfold shp
  rw [val_one, ← h3]
  by_cases h : val r = 0
  · rw [if_pos h, h]; rfl
  · have hr : r ≠ 0 := by rintro rfl; exact h rfl
    rw [if_neg h, near_exact r hr h2]
noncomputable def shv (k c : Nat) : Nat := val (shp k c) / U
theorem shv_mono {k c c' : Nat} (h : c ≤ c') : shv k c ≤ shv k c' := Nat.div_le_div_right (val_le (shp_mono h))
theorem shv_one (k : Nat) (hk : k ≤ 2147483647) : shv k 4607182418800017408 = k := by
  unfold shv
  rw [shp_one k hk, Nat.mul_div_cancel _ U_pos]
theorem shv_zero (k : Nat) : shv k 0 = 0 := by
  unfold shv shp
  rw [val_zero, Nat.mul_zero, if_pos rfl, val_zero, Nat.zero_div]
theorem clamp_rng (n : Int) : 0 ≤ clampI n ∧ clampI n ≤ 2147483647 := by
  unfold clampI; split
  · omega
  · split <;> omega
theorem share_ok (n : Int) (x : Nat) (hx : x < 18446744073709551616) : ∃ p, FloatKind.f64.format.mul (floatOfInt .f64 (clampI n)) (clean x) = some p ∧ floatToIntVal .f64 p .i64 = some ((shv (clampI n).toNat (clean x) : Nat) : Int) := by
  have hc := clamp_rng n
  obtain ⟨k, hk⟩ := Int.eq_ofNat_of_zero_le hc.1
  rw [hk] at hc ⊢
  rw [Int.toNat_natCast]
  obtain ⟨r, h1, h2, h3⟩ := ofInt_U k (by omega)
  obtain ⟨s1, s2, s3⟩ := clean_spec x hx
  have hr : rung r = r := by unfold rung; omega
  have hs : sgn r = false := by unfold sgn; rw [Nat.div_eq_of_lt (by omega)]; rfl
  rw [h1]
  refine ⟨_, mul_near r (clean x) k hs (by omega) s1 (by omega) (by rw [hr]; exact h3), ?_⟩
  rw [s2]
  show floatToIntVal .f64 (shp k (clean x)) .i64 = _
  have hle : shp k (clean x) ≤ 4746794007244308480 := by
    have h4 := shp_mono (k := k) s3
    have h5 := shp_one k (by omega)
    have h6 : shp k 4607182418800017408 ≤ 4746794007244308480 := by
      rcases Nat.lt_or_ge 4746794007244308480 (shp k 4607182418800017408) with h | h
      · have := val_lt h
        rw [h5, val_max] at this
        have := Nat.mul_le_mul_right U (show k ≤ 2147483647 by omega)
        omega
      · exact h
    omega
  have hsp : sgn (shp k (clean x)) = false := by unfold sgn; rw [Nat.div_eq_of_lt (by omega)]; rfl
  have hrp : rung (shp k (clean x)) = shp k (clean x) := by unfold rung; omega
  have := (conv_ok (shp k (clean x)) hsp (by rw [hrp]; exact hle)).1
  rw [hrp] at this
  exact this
theorem share_any (n : Int) (x : Nat) (w : World) (hx : x < 18446744073709551616) : Calls Try.prog 17 #[.int .i64 n, .float .f64 x] w fun e w' => e = .returned (.int .i64 ((shv (clampI n).toNat (clean x) : Nat) : Int)) ∧ w = w' := by
  obtain ⟨p, h1, h2⟩ := share_ok n x hx
  exact share_at n x p _ w h1 h2
theorem rshare_any (n : Int) (x : Nat) (w : World) (hx : x < 18446744073709551616) : Calls Try.prog 24 #[.int .i64 n, .float .f64 x] w fun e w' => e = .returned (.int .i64 ((shv (clampI n).toNat (clean x) : Nat) : Int)) ∧ w = w' := by
  obtain ⟨p, h1, h2⟩ := share_ok n x hx
  exact rshare_at n x p _ w h1 h2
theorem clean_lt (x : Nat) (hx : x < 18446744073709551616) : clean x < 18446744073709551616 := by
  have := (clean_spec x hx).2.2
  omega
set_option maxHeartbeats 1000000 in
set_option maxRecDepth 100000 in
theorem tells_any (a b : Nat) (n : Int) (w : World) (ha : a < 18446744073709551616) (hb : b < 18446744073709551616) :
    Calls Try.prog 4 #[.float .f64 a, .float .f64 b, .int .i64 n] w fun e w' => e = .returned (.bool true) ∧ Below w.heap.size w w' := by
  have hc := clean_lt a ha
  obtain ⟨s, hs⟩ : ∃ s, secs a = s := ⟨_, rfl⟩
  obtain ⟨c, hcc⟩ : ∃ c, cmpR a b = c := ⟨_, rfl⟩
  obtain ⟨y, hy⟩ : ∃ y, ((shv (clampI n).toNat (clean a) : Nat) : Int) = y := ⟨_, rfl⟩
  obtain ⟨x, hx⟩ : ∃ x, clean a = x := ⟨_, rfl⟩
  rw [hx] at hc
  go_enter Try.func4, Try.ntmps4
  go_wp2_with (first
    | (go_at_call 15; refine (clean_any _ _).mono ?_; rintro e w1 ⟨rfl, rfl⟩; rw [hx])
    | (go_at_call 21; refine (rclean_any _ _).mono ?_; rintro e w1 ⟨rfl, rfl⟩; rw [hx])
    | (go_at_call 14; refine (same_any _ _ _ hc hc).mono ?_; rintro e w1 ⟨rfl, rfl⟩; rw [decide_eq_true (rfl : rank x = rank x)])
    | (go_at_call 18; refine (seconds_any _ _).mono ?_; rintro e w1 ⟨rfl, rfl⟩; rw [hs])
    | (go_at_call 22; refine (rseconds_any _ _).mono ?_; rintro e w1 ⟨rfl, rfl⟩; rw [hs])
    | (go_at_call 19; refine (compare_any _ _ _ ha hb).mono ?_; rintro e w1 ⟨rfl, rfl⟩; rw [hcc])
    | (go_at_call 23; refine (rcompare_any _ _ _ ha hb).mono ?_; rintro e w1 ⟨rfl, rfl⟩; rw [hcc])
    | (go_at_call 17; refine (share_any _ _ _ ha).mono ?_; rintro e w1 ⟨rfl, rfl⟩; rw [hy])
    | (go_at_call 24; refine (rshare_any _ _ _ ha).mono ?_; rintro e w1 ⟨rfl, rfl⟩; rw [hy])
    | (go_at_call 3; refine (runs_any _).mono ?_; rintro e w2 ⟨rfl, hB2⟩))
  go_ret
  exact ⟨rfl, hB2⟩
end Go.Proofs.Ytccjblcfnoelbaa
