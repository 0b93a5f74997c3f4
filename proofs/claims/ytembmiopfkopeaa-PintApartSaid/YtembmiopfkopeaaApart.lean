/- PintApart. -/
import Derived.Test.YtembmiopfkopeaaPlainB
import Derived.Test.YtembmiopfkopeaaRuns
import Derived.Test.YtembmiopfkopeaaWit
import Derived.Deep.RegionHeld3
namespace Go.Proofs.Ytembmiopfkopeaa
open Go.ChangeShapes Go.WideShapes Go.ChangeAt Go.RowKit
set_option linter.unusedVariables false
set_option linter.unusedSimpArgs false

set_option maxHeartbeats 2000000 in
set_option maxRecDepth 100000 in
theorem apart_k (k x y : Int) (n t a b : Int) (w : World) (hk : wit n 1 8 = k) (hx : wit a 0 2147483647 = x) (hy : wit b 0 2147483647 = y)
    (n1 : -9223372036854775808 ≤ n) (n2 : n ≤ 9223372036854775807) (t1 : 0 ≤ t) (t2 : t ≤ 255) (a1 : -9223372036854775808 ≤ a) (a2 : a ≤ 9223372036854775807) (b1 : -9223372036854775808 ≤ b) (b2 : b ≤ 9223372036854775807) :
    Calls Try.prog 8 #[.int .i64 n, .int .u8 t, .int .i64 a, .int .i64 b] w fun e w' => e = .returned (.bool true) ∧ Below w.heap.size w w' := by
  have k1 := wit_lo n 1 8 (by decide)
  have k2 := wit_hi n 1 8 (by decide)
  have x1 := wit_lo a 0 2147483647 (by decide)
  have x2 := wit_hi a 0 2147483647 (by decide)
  have y1 := wit_lo b 0 2147483647 (by decide)
  have y2 := wit_hi b 0 2147483647 (by decide)
  rw [hk] at k1 k2
  rw [hx] at x1 x2
  rw [hy] at y1 y2
  have hap0 := put_apart (t := t) k1 k2 x1 x2 y1 y2
  have hap : decide ((putL k t x).take (min (putL k t x).length (putL k t y).length) = (putL k t y).take (min (putL k t x).length (putL k t y).length)) = decide (x = y) := decide_eq_decide.2 hap0
  have hlx := put_len (t := t) k1 k2 x1 x2
  have hly := put_len (t := t) k1 k2 y1 y2
  have hpx : 1 ≤ (putL k t x).length ∧ (putL k t x).length ≤ 6 := by have := tl_le (x - (pw k - 1)); rw [hlx]; refine ⟨?_, ?_⟩ <;> split <;> omega
  have hpy : 1 ≤ (putL k t y).length ∧ (putL k t y).length ≤ 6 := by have := tl_le (y - (pw k - 1)); rw [hly]; refine ⟨?_, ?_⟩ <;> split <;> omega
  clear hap0 hlx hly
  obtain ⟨Px, hPx⟩ : ∃ P, putL k t x = P := ⟨_, rfl⟩
  obtain ⟨Py, hPy⟩ : ∃ P, putL k t y = P := ⟨_, rfl⟩
  rw [hPx, hPy] at hap
  rw [hPx] at hpx
  rw [hPy] at hpy
  obtain ⟨px1, px2⟩ := hpx
  obtain ⟨py1, py2⟩ := hpy
  go_enter Try.func8, Try.ntmps8
  go_upto_region 4 with (first
    | (go_at_call 18; refine (wit_any _ _ _ _ (by decide) (by decide) (by decide) (by omega) (by omega)).mono ?_; rintro e w1 ⟨rfl, rfl⟩; first | rw [hk] | rw [hx] | rw [hy])
    | (go_at_call 11; have hz := HB1; refine (put_any _ [] _ _ _ _ (bs_nil _) (by simp) (by omega) (by omega) (by omega) (by omega) (by omega) (by omega)).mono ?_; rintro e w2 ⟨r2, rfl, ho2, hB2⟩; simp only [List.nil_append, hPy] at ho2; have HB2 := Lib.hid (bs_own ho2 rfl); obtain ⟨A2, c2, rfl, l2, m2, -⟩ := bs_own ho2 rfl; clear ho2 hz)
    | (go_at_call 11; refine (put_any _ [] _ _ _ _ (bs_nil _) (by simp) (by omega) (by omega) (by omega) (by omega) (by omega) (by omega)).mono ?_; rintro e w1 ⟨r1, rfl, ho1, hB1⟩; simp only [List.nil_append, hPx] at ho1; have HB1 := Lib.hid (bs_own ho1 rfl); obtain ⟨A1, c1, rfl, l1, m1, -⟩ := bs_own ho1 rfl; clear ho1))
  have hs1 := hB1.size
  have hs2 := hB2.size
  have hBw : Below w.heap.size w w2 := Below.trans hB1 (hB2.mono hs1)
  unfold maxLen at m1 m2
  have q1 : 0 < (Px.length : Int) := by omega
  have q2 : 0 < (Py.length : Int) := by omega
  generalize hlp : Px.length = lp at *
  generalize hlq : Py.length = lq at *
  have q3 : 0 < lp := by omega
  have q4 : 0 < lq := by omega
  rcases (show lp ≤ lq ∨ lq < lp by omega) with hl | hl
  · rw [Nat.min_eq_left hl] at hap
    have z1 : lp ≤ c1 := by omega
    have z2 : lp ≤ c2 := by omega
    have z3 : (lp : Int) ≤ (c1 : Int) := by omega
    have z4 : (lp : Int) ≤ (c2 : Int) := by omega
    have z5 : 0 ≤ (lp : Int) := by omega
    have htx : (Px.take lp).length = lp := by rw [List.length_take]; omega
    have hty : (Py.take lp).length = lp := by rw [List.length_take]; omega
    go_upto_region 5 with fail
    go_region_held3 (fun _ => True) (trivial) (first
      | (go_at_call 10; refine (same_any _ _ (Px.take lp) (Py.take lp) _ (bs_take (HB1.out.below (Below.trans hB2 (by go_grown)) (Nat.le_refl _)) (by omega)) (bs_take (HB2.out.below (by go_grown) (Nat.le_refl _)) (by omega))).mono ?_; rintro e w3 ⟨rfl, hB3⟩; rw [hap])
      | (go_at_call 3; refine (runs_any _).mono ?_; rintro e w4 ⟨rfl, hB4⟩))
    all_goals
      go_wp2_with fail
      go_ret
      refine ⟨rfl, ?_⟩
      refine Below.trans ?_ (hB4.mono ?_)
      · refine Below.trans ?_ (hB3.mono ?_)
        · go_grown
        · simp only [World.size_drew]; omega
      · have := hB3.size; simp only [World.size_drew] at this; omega
  · rw [Nat.min_eq_right (by omega)] at hap
    have z1 : lq ≤ c1 := by omega
    have z2 : lq ≤ c2 := by omega
    have z3 : (lq : Int) ≤ (c1 : Int) := by omega
    have z4 : (lq : Int) ≤ (c2 : Int) := by omega
    have z5 : 0 ≤ (lq : Int) := by omega
    have htx : (Px.take lq).length = lq := by rw [List.length_take]; omega
    have hty : (Py.take lq).length = lq := by rw [List.length_take]; omega
    go_upto_region 5 with fail
    go_region_held3 (fun _ => True) (trivial) (first
      | (go_at_call 10; refine (same_any _ _ (Px.take lq) (Py.take lq) _ (bs_take (HB1.out.below (Below.trans hB2 (by go_grown)) (Nat.le_refl _)) (by omega)) (bs_take (HB2.out.below (by go_grown) (Nat.le_refl _)) (by omega))).mono ?_; rintro e w3 ⟨rfl, hB3⟩; rw [hap])
      | (go_at_call 3; refine (runs_any _).mono ?_; rintro e w4 ⟨rfl, hB4⟩))
    all_goals
      go_wp2_with fail
      go_ret
      refine ⟨rfl, ?_⟩
      refine Below.trans ?_ (hB4.mono ?_)
      · refine Below.trans ?_ (hB3.mono ?_)
        · go_grown
        · simp only [World.size_drew]; omega
      · have := hB3.size; simp only [World.size_drew] at this; omega
end Go.Proofs.Ytembmiopfkopeaa
