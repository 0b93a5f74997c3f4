/- WeighShares. -/
import Derived.Test.YtccjblcfnoelbaaShare
import Derived.Deep.RegionWith
namespace Go.Proofs.Ytccjblcfnoelbaa
open Go.ChangeShapes Go.WideShapes Go.ChangeAt Go.RowKit
set_option linter.unusedVariables false
set_option linter.unusedSimpArgs false

theorem clean_mono (x y : Nat) (hx : x < 18446744073709551616) (hy : y < 18446744073709551616) (h : rank x ≤ rank y) : clean x ≤ clean y := by
  have k0 : key 0 = 0 := by decide
  have k1 : key 4607182418800017408 = 4607182418800017408 := by decide
  have n0 : ¬ nan 0 := by decide
  have n1 : ¬ nan 4607182418800017408 := by decide
  have sy := (clean_spec y hy).2.2
  have sx := (clean_spec x hx).2.2
  by_cases a2 : fgt x 0 = true
  · have a2' := a2
    rw [show fgt x 0 = _ from gt_iff x 0, k0] at a2'
    have a2' := of_decide_eq_true a2'
    obtain ⟨hy1, hy2, hy3⟩ : ¬ nan y ∧ 0 < key y ∧ key x ≤ key y := by
      rcases step_spec x hx with ⟨na, sa, ra⟩ | ⟨na, ⟨ka, sa, ra, la⟩ | ⟨ka, sa, ra⟩ | ⟨ka, sa, ra⟩ | ⟨ka, sa, ra⟩⟩ <;>
      rcases step_spec y hy with ⟨nb, sb, rb⟩ | ⟨nb, ⟨kb, sb, rb, lb⟩ | ⟨kb, sb, rb⟩ | ⟨kb, sb, rb⟩ | ⟨kb, sb, rb⟩⟩ <;> first
        | (exfalso; omega)
        | exact absurd na a2'.1
        | exact ⟨nb, by omega, by omega⟩
    have b2 : fgt y 0 = true := by rw [show fgt y 0 = _ from gt_iff y 0, k0]; exact decide_eq_true ⟨hy1, n0, hy2⟩
    by_cases b1 : fgt y 4607182418800017408 = true
    · have : clean y = 4607182418800017408 := by unfold clean; rw [if_pos b1]
      omega
    · have b1' : ¬ (¬ nan y ∧ ¬ nan 4607182418800017408 ∧ key 4607182418800017408 < key y) := by
        rw [show fgt y 4607182418800017408 = _ from gt_iff y 4607182418800017408] at b1
        exact of_decide_eq_false (by simpa using b1)
      have a1 : ¬ fgt x 4607182418800017408 = true := by
        rw [show fgt x 4607182418800017408 = _ from gt_iff x 4607182418800017408]
        intro h
        have h := of_decide_eq_true h
        exact b1' ⟨hy1, n1, by omega⟩
      have ex : clean x = x := by unfold clean; rw [if_neg a1, if_pos a2]
      have ey : clean y = y := by unfold clean; rw [if_neg b1, if_pos b2]
      have px := key_pos a2'.2.2
      have py := key_pos hy2
      have rx := (clean_spec x hx).2.1
      have ry := (clean_spec y hy).2.1
      rw [ex] at rx
      rw [ey] at ry
      omega
  · have a1 : ¬ fgt x 4607182418800017408 = true := by
      rw [show fgt x 4607182418800017408 = _ from gt_iff x 4607182418800017408, k1]
      intro h
      have h := of_decide_eq_true h
      apply a2
      rw [show fgt x 0 = _ from gt_iff x 0, k0]
      exact decide_eq_true ⟨h.1, n0, by omega⟩
    have : clean x = 0 := by unfold clean; rw [if_neg a1, if_neg a2]
    omega
theorem clean_one : clean 4607182418800017408 = 4607182418800017408 := by decide +kernel
theorem clean_zero : clean 0 = 0 := by decide +kernel
set_option maxHeartbeats 2000000 in
set_option maxRecDepth 100000 in
theorem shares_any (n : Int) (a b : Nat) (w : World) (n1 : -9223372036854775808 ≤ n) (n2 : n ≤ 9223372036854775807) (ha : a < 18446744073709551616) (hb : b < 18446744073709551616) :
    Calls Try.prog 8 #[.int .i64 n, .float .f64 a, .float .f64 b] w fun e w' => e = .returned (.bool true) ∧ Below w.heap.size w w' := by
  have k1 := wit_lo n 0 2147483647 (by decide)
  have k2 := wit_hi n 0 2147483647 (by decide)
  obtain ⟨K, hK⟩ := Int.eq_ofNat_of_zero_le k1
  rw [hK] at k1 k2
  have hcl : (clampI (K : Int)).toNat = K := by unfold clampI; rw [if_neg (by omega), if_neg (by omega)]; simp
  have e1 : ((shv (clampI (K : Int)).toNat (clean 4607182418800017408) : Nat) : Int) = K := by rw [hcl, clean_one, shv_one K (by omega)]
  have e2 : ((shv (clampI (K : Int)).toNat (clean 0) : Nat) : Int) = 0 := by rw [hcl, clean_zero, shv_zero]; rfl
  have e3 : ((shv (clampI (K : Int)).toNat (clean 9218868437227405312) : Nat) : Int) = K := by rw [hcl, clean_inf, shv_one K (by omega)]
  have e4 : ((shv (clampI (K : Int)).toNat 0 : Nat) : Int) = 0 := by rw [hcl, shv_zero]; rfl
  have la : shv (clampI (K : Int)).toNat (clean a) ≤ K := by
    have := shv_mono (k := K) (clean_spec a ha).2.2
    rw [shv_one K (by omega)] at this
    rw [hcl]; exact this
  have lb : shv (clampI (K : Int)).toNat (clean b) ≤ K := by
    have := shv_mono (k := K) (clean_spec b hb).2.2
    rw [shv_one K (by omega)] at this
    rw [hcl]; exact this
  have m1 : rank a ≤ rank b → shv (clampI (K : Int)).toNat (clean a) ≤ shv (clampI (K : Int)).toNat (clean b) := fun h => shv_mono (clean_mono a b ha hb h)
  have m2 : rank b ≤ rank a → shv (clampI (K : Int)).toNat (clean b) ≤ shv (clampI (K : Int)).toNat (clean a) := fun h => shv_mono (clean_mono b a hb ha h)
  obtain ⟨p, hxa⟩ : ∃ p, shv (clampI (K : Int)).toNat (clean a) = p := ⟨_, rfl⟩
  obtain ⟨q, hxb⟩ : ∃ q, shv (clampI (K : Int)).toNat (clean b) = q := ⟨_, rfl⟩
  rw [hxa] at la m1 m2
  rw [hxb] at lb m1 m2
  by_cases hc : 0 < cmpR a b
  · have hpq : q ≤ p := m2 (Int.le_of_lt ((cmpR_pos a b).1 hc))
    clear m1 m2 hcl
    go_enter Try.func8, Try.ntmps8
    go_upto_region 5 with (first
      | (go_at_call 26; refine (wit_any _ _ _ _ (by decide) (by decide) (by decide) (by omega) (by omega)).mono ?_; rintro e w1 ⟨rfl, rfl⟩; rw [hK])
      | (go_at_call 23; refine (rcompare_any _ _ _ ha hb).mono ?_; rintro e w1 ⟨rfl, rfl⟩))
    go_wp2_with (first
      | (go_at_call_of 17 (Value.float FloatKind.f64 4607182418800017408); refine (share_any _ _ _ (by decide)).mono ?_; rintro e w1 ⟨rfl, rfl⟩; rw [e1])
      | (go_at_call_of 17 (Value.float FloatKind.f64 0); refine (share_any _ _ _ (by decide)).mono ?_; rintro e w1 ⟨rfl, rfl⟩; rw [e2])
      | (go_at_call_of 17 (Value.float FloatKind.f64 9218868437227405312); refine (share_any _ _ _ (by decide)).mono ?_; rintro e w1 ⟨rfl, rfl⟩; rw [e3])
      | (go_at_call_of 17 (Value.float FloatKind.f64 a); refine (share_any _ _ _ ha).mono ?_; rintro e w1 ⟨rfl, rfl⟩; rw [hxa])
      | (go_at_call_of 17 (Value.float FloatKind.f64 b); refine (share_any _ _ _ hb).mono ?_; rintro e w1 ⟨rfl, rfl⟩; rw [hxb])
      | (go_at_call 17; refine (share_any _ _ _ hnl).mono ?_; rintro e w1 ⟨rfl, rfl⟩; rw [clean_nan hnn, e4])
      | (go_at_call_of 13 (Value.int IntKind.i64 0); refine (edge_nan _).mono ?_; rintro e w1 ⟨nn, hnn, hnl, rfl, hB1⟩)
      | (go_at_call_of 13 (Value.int IntKind.i64 1); refine (edge_inf _).mono ?_; rintro e w2 ⟨rfl, rfl⟩)
      | (go_at_call 3; refine (runs_any _).mono ?_; rintro e w2 ⟨rfl, hB2⟩))
    go_ret
    exact ⟨rfl, Below.trans hB1 (hB2.mono hB1.size)⟩
  · have hpq : p ≤ q := m1 (Int.not_lt.1 fun h => hc ((cmpR_pos a b).2 h))
    clear m1 m2 hcl
    go_enter Try.func8, Try.ntmps8
    go_upto_region 5 with (first
      | (go_at_call 26; refine (wit_any _ _ _ _ (by decide) (by decide) (by decide) (by omega) (by omega)).mono ?_; rintro e w1 ⟨rfl, rfl⟩; rw [hK])
      | (go_at_call 23; refine (rcompare_any _ _ _ ha hb).mono ?_; rintro e w1 ⟨rfl, rfl⟩))
    go_wp2_with (first
      | (go_at_call_of 17 (Value.float FloatKind.f64 4607182418800017408); refine (share_any _ _ _ (by decide)).mono ?_; rintro e w1 ⟨rfl, rfl⟩; rw [e1])
      | (go_at_call_of 17 (Value.float FloatKind.f64 0); refine (share_any _ _ _ (by decide)).mono ?_; rintro e w1 ⟨rfl, rfl⟩; rw [e2])
      | (go_at_call_of 17 (Value.float FloatKind.f64 9218868437227405312); refine (share_any _ _ _ (by decide)).mono ?_; rintro e w1 ⟨rfl, rfl⟩; rw [e3])
      | (go_at_call_of 17 (Value.float FloatKind.f64 a); refine (share_any _ _ _ ha).mono ?_; rintro e w1 ⟨rfl, rfl⟩; rw [hxa])
      | (go_at_call_of 17 (Value.float FloatKind.f64 b); refine (share_any _ _ _ hb).mono ?_; rintro e w1 ⟨rfl, rfl⟩; rw [hxb])
      | (go_at_call 17; refine (share_any _ _ _ hnl).mono ?_; rintro e w1 ⟨rfl, rfl⟩; rw [clean_nan hnn, e4])
      | (go_at_call_of 13 (Value.int IntKind.i64 0); refine (edge_nan _).mono ?_; rintro e w1 ⟨nn, hnn, hnl, rfl, hB1⟩)
      | (go_at_call_of 13 (Value.int IntKind.i64 1); refine (edge_inf _).mono ?_; rintro e w2 ⟨rfl, rfl⟩)
      | (go_at_call 3; refine (runs_any _).mono ?_; rintro e w2 ⟨rfl, hB2⟩))
    go_ret
    exact ⟨rfl, Below.trans hB1 (hB2.mono hB1.size)⟩
end Go.Proofs.Ytccjblcfnoelbaa
