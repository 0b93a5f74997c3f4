/- WeighRises. -/
import Derived.Test.YtccjblcfnoelbaaBest
import Derived.Test.YtccjblcfnoelbaaWit
namespace Go.Proofs.Ytccjblcfnoelbaa
open Go.ChangeShapes Go.WideShapes Go.ChangeAt Go.RowKit
set_option linter.unusedVariables false
set_option linter.unusedSimpArgs false

attribute [local go_sem] run_f2i run_i2f run_mul run_quo
theorem secs_rng (x : Nat) : 0 ≤ secs x ∧ secs x ≤ 2147483647 := by
  unfold secs
  cases h1 : fge x 4746794007244308480
  · cases h2 : fgt x 0
    · simp
    · have hc := secs_conv x h1 h2
      have hk : ¬ nan x ∧ ¬ nan 0 ∧ key 0 < key x := by rw [show fgt x 0 = _ from gt_iff x 0] at h2; exact of_decide_eq_true h2
      have h1' := h1
      rw [fge_iff] at h1'
      have h1' := of_decide_eq_false h1'
      have hp := key_pos (show 0 < key x from hk.2.2)
      have hm : key 4746794007244308480 = 4746794007244308480 := by decide
      rw [hm] at h1'
      have hr : rung x ≤ 4746794007244308480 := by
        rcases Nat.lt_or_ge 4746794007244308480 (rung x) with h | h
        · exact absurd ⟨hk.1, by decide, by omega⟩ h1'
        · exact h
      have := (conv_ok x hp.2 hr).2
      rw [if_neg (by decide), if_pos rfl]
      generalize val (rung x) / U = q at *
      omega
  · simp
theorem secs_mono (x y : Nat) (hx : x < 18446744073709551616) (hy : y < 18446744073709551616) (h : rank x ≤ rank y) : secs x ≤ secs y := by
  have hm : key 4746794007244308480 = 4746794007244308480 := by decide
  have nm : ¬ nan 4746794007244308480 := by decide
  have n0 : ¬ nan 0 := by decide
  have k0 : key 0 = 0 := by decide
  have ry := secs_rng y
  have rx := secs_rng x
  cases h1 : fge y 4746794007244308480
  · cases h2 : fgt x 0
    · cases h3 : fge x 4746794007244308480
      · have : secs x = 0 := by unfold secs; rw [h2, h3]; rfl
        omega
      · exfalso
        rw [fge_iff, hm] at h3
        rw [show fgt x 0 = _ from gt_iff x 0, k0] at h2
        have h3 := of_decide_eq_true h3
        exact of_decide_eq_false h2 ⟨h3.1, n0, by omega⟩
    · have h2' := h2
      rw [show fgt x 0 = _ from gt_iff x 0, k0] at h2'
      have h2' := of_decide_eq_true h2'
      obtain ⟨hy1, hy2, hy3⟩ : ¬ nan y ∧ 0 < key y ∧ key x ≤ key y := by
        rcases step_spec x hx with ⟨na, sa, ra⟩ | ⟨na, ⟨ka, sa, ra, la⟩ | ⟨ka, sa, ra⟩ | ⟨ka, sa, ra⟩ | ⟨ka, sa, ra⟩⟩ <;>
        rcases step_spec y hy with ⟨nb, sb, rb⟩ | ⟨nb, ⟨kb, sb, rb, lb⟩ | ⟨kb, sb, rb⟩ | ⟨kb, sb, rb⟩ | ⟨kb, sb, rb⟩⟩ <;> first
          | (exfalso; omega)
          | exact absurd na h2'.1
          | exact ⟨nb, by omega, by omega⟩
      have h4 : fgt y 0 = true := by rw [show fgt y 0 = _ from gt_iff y 0, k0]; exact decide_eq_true ⟨hy1, n0, hy2⟩
      have h5 : fge x 4746794007244308480 = false := by
        rw [fge_iff, hm] at h1 ⊢
        have h1 := of_decide_eq_false h1
        exact decide_eq_false fun h => h1 ⟨hy1, nm, by omega⟩
      have px := key_pos h2'.2.2
      have py := key_pos hy2
      have e1 : secs x = ((val (rung x) / U : Nat) : Int) := by unfold secs; rw [h5, h2]; rfl
      have e2 : secs y = ((val (rung y) / U : Nat) : Int) := by unfold secs; rw [h1, h4]; rfl
      have hv : val (rung x) ≤ val (rung y) := by
        rcases Nat.lt_or_eq_of_le (show rung x ≤ rung y by omega) with h | h
        · exact Nat.le_of_lt (val_lt h)
        · rw [h]; exact Nat.le_refl _
      have := Nat.div_le_div_right (c := U) hv
      rw [e1, e2]
      omega
  · have : secs y = 2147483647 := by unfold secs; rw [h1]; rfl
    omega
theorem secs_int (k : Nat) (hk : k ≤ 2147483647) : secs (floatOfInt .f64 (k : Int)) = k := by
  obtain ⟨r, h1, h2, h3⟩ := ofInt_U k (by omega)
  rw [h1]
  have hm : key 4746794007244308480 = 4746794007244308480 := by decide
  have nm : ¬ nan 4746794007244308480 := by decide
  have n0 : ¬ nan 0 := by decide
  have k0 : key 0 = 0 := by decide
  have hr : rung r = r := by unfold rung; omega
  have hs : sgn r = false := by unfold sgn; rw [Nat.div_eq_of_lt (by omega)]; rfl
  have hkey : key r = r := by unfold key; rw [hs, hr]; rfl
  have hn : ¬ nan r := by unfold nan; omega
  have hU := U_pos
  rcases Nat.lt_or_ge k 2147483647 with h | h
  · have hlt : r < 4746794007244308480 := by
      rw [← val_lt_iff, val_max, h3]
      exact Nat.mul_lt_mul_of_pos_right h hU
    have g1 : fge r 4746794007244308480 = false := by rw [fge_iff, hm, hkey]; exact decide_eq_false fun h => by omega
    by_cases hz : k = 0
    · subst hz
      have : r = 0 := by
        rcases Nat.eq_zero_or_pos r with h | h
        · exact h
        · have := val_lt h
          rw [h3, val_zero] at this
          omega
      subst this
      unfold secs
      rw [g1, if_neg (by decide), if_neg (by decide +kernel)]
      rfl
    · have hp : 0 < r := by
        rw [← val_lt_iff, h3, val_zero]
        exact Nat.mul_pos (by omega) hU
      have g2 : fgt r 0 = true := by rw [show fgt r 0 = _ from gt_iff r 0, k0, hkey]; exact decide_eq_true ⟨hn, n0, by omega⟩
      unfold secs
      rw [g1, g2, if_neg (by decide), if_pos rfl, hr, h3, Nat.mul_div_cancel _ hU]
  · obtain rfl : k = 2147483647 := by omega
    have hge : r = 4746794007244308480 := by rw [← h1]; decide +kernel
    subst hge
    unfold secs
    rw [if_pos (by decide +kernel)]
    rfl
set_option maxHeartbeats 1000000 in
set_option maxRecDepth 100000 in
theorem rises_any (a b : Nat) (n : Int) (w : World) (ha : a < 18446744073709551616) (hb : b < 18446744073709551616) (n1 : -9223372036854775808 ≤ n) (n2 : n ≤ 9223372036854775807) :
    Calls Try.prog 11 #[.float .f64 a, .float .f64 b, .int .i64 n] w fun e w' => e = .returned (.bool true) ∧ Below w.heap.size w w' := by
  have k1 := wit_lo n 0 2147483647 (by decide)
  have k2 := wit_hi n 0 2147483647 (by decide)
  obtain ⟨K, hK⟩ := Int.eq_ofNat_of_zero_le k1
  rw [hK] at k1 k2
  have hsk := secs_int K (by omega)
  have sa := secs_rng a
  have sb := secs_rng b
  obtain ⟨p, hp⟩ : ∃ p, secs a = p := ⟨_, rfl⟩
  obtain ⟨q, hq⟩ : ∃ q, secs b = q := ⟨_, rfl⟩
  have m1 := secs_mono a b ha hb
  have m2 := secs_mono b a hb ha
  rw [hp] at sa m1 m2
  rw [hq] at sb m1 m2
  by_cases hc : 0 < cmpR a b
  · have hpq : q ≤ p := m2 (Int.le_of_lt ((cmpR_pos a b).1 hc))
    obtain ⟨p0, p1⟩ := sa
    obtain ⟨q0, q1⟩ := sb
    clear m1 m2
    go_enter Try.func11, Try.ntmps11
    go_upto_if 17 with (go_at_call 23; refine (rcompare_any _ _ _ ha hb).mono ?_; rintro e w1 ⟨rfl, rfl⟩)
    go_wp2_with (first
      | (go_at_call 26; refine (wit_any _ _ _ _ (by decide) (by decide) (by decide) (by omega) (by omega)).mono ?_; rintro e w1 ⟨rfl, rfl⟩; rw [hK])
      | (go_at_call 18; refine (seconds_any _ _).mono ?_; rintro e w1 ⟨rfl, rfl⟩; first | rw [hsk] | rw [hp] | rw [hq])
      | (go_at_call 3; refine (runs_any _).mono ?_; rintro e w2 ⟨rfl, hB2⟩))
    all_goals
      go_ret
      exact ⟨rfl, hB2⟩
  · have hpq : p ≤ q := m1 (Int.not_lt.1 fun h => hc ((cmpR_pos a b).2 h))
    obtain ⟨p0, p1⟩ := sa
    obtain ⟨q0, q1⟩ := sb
    clear m1 m2
    go_enter Try.func11, Try.ntmps11
    go_upto_if 17 with (go_at_call 23; refine (rcompare_any _ _ _ ha hb).mono ?_; rintro e w1 ⟨rfl, rfl⟩)
    go_wp2_with (first
      | (go_at_call 26; refine (wit_any _ _ _ _ (by decide) (by decide) (by decide) (by omega) (by omega)).mono ?_; rintro e w1 ⟨rfl, rfl⟩; rw [hK])
      | (go_at_call 18; refine (seconds_any _ _).mono ?_; rintro e w1 ⟨rfl, rfl⟩; first | rw [hsk] | rw [hp] | rw [hq])
      | (go_at_call 3; refine (runs_any _).mono ?_; rintro e w2 ⟨rfl, hB2⟩))
    all_goals
      go_ret
      exact ⟨rfl, hB2⟩
end Go.Proofs.Ytccjblcfnoelbaa
