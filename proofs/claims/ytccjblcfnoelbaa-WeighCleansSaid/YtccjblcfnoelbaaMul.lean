/- Products with whole numbers. -/
import Derived.Test.YtccjblcfnoelbaaRound
import Derived.Test.YtccjblcfnoelbaaRises
namespace Go.Proofs.Ytccjblcfnoelbaa
open Go.ChangeShapes Go.WideShapes Go.ChangeAt Go.RowKit
set_option linter.unusedVariables false
set_option linter.unusedSimpArgs false

theorem rnd_scale (m k d : Nat) : rnd (m * 2 ^ k) (d + k) = rnd m d := by
  unfold rnd
  have hk := Nat.two_pow_pos k
  rw [Nat.pow_add, Nat.mul_div_mul_right _ _ hk, Nat.mul_mod_mul_right]
  generalize 2 ^ d = p
  generalize 2 ^ k = q at *
  generalize m % p = r
  have e1 : decide (p * q < 2 * (r * q)) = decide (p < 2 * r) := by
    rw [← Nat.mul_assoc]
    exact decide_eq_decide.2 (Nat.mul_lt_mul_right hk)
  have e2 : (p * q == 2 * (r * q)) = (p == 2 * r) := by
    rw [← Nat.mul_assoc]
    by_cases h : p = 2 * r
    · rw [h]; simp
    · have : p * q ≠ 2 * r * q := fun e => h (Nat.eq_of_mul_eq_mul_right hk e)
      rw [show (p == 2 * r) = false by simpa using h, show (p * q == 2 * r * q) = false by simpa using this]
  rw [e1, e2]
theorem rnd_none (n : Nat) : rnd n 0 = n := by
  have e := rnd_exact n 0
  rwa [Nat.pow_zero, Nat.mul_one] at e
theorem log2_scale (m k : Nat) (hm : m ≠ 0) : (m * 2 ^ k).log2 = m.log2 + k := by
  have hk := Nat.two_pow_pos k
  have h0 : m * 2 ^ k ≠ 0 := by
    have := Nat.mul_pos (show 0 < m by omega) hk
    omega
  rw [Nat.log2_eq_iff h0]
  have l1 : 2 ^ m.log2 ≤ m := Nat.log2_self_le hm
  have l2 : m < 2 ^ (m.log2 + 1) := Nat.lt_log2_self
  refine ⟨?_, ?_⟩
  · rw [Nat.pow_add]; exact Nat.mul_le_mul_right _ l1
  · rw [show m.log2 + k + 1 = (m.log2 + 1) + k by omega, Nat.pow_add]; exact Nat.mul_lt_mul_of_pos_right l2 hk
/-- Rounding, with the last place named. -/
def nearAt (mag : Nat) (place L : Int) : Nat := min ((L - -1074).toNat * 4503599627370496 + rnd (mag <<< (place - L).toNat) (L - place).toNat) 9218868437227405312
theorem nearest_form (mag : Nat) (place L : Int) (hm : mag ≠ 0) (hL : L = max (place + (mag.log2 : Int) - 52) (-1074)) : Ieee.double.nearest false mag place = nearAt mag place L := by
  have hf : (Ieee.double.fractionBits : Int) = 52 := rfl
  unfold Ieee.Format.nearest nearAt
  rw [if_neg hm]
  simp only [fmt_bin, fmt_inf, fmt_least, hf]
  rw [← hL, cut_even, word_pos]
theorem nearAt_scale (m k : Nat) (p L : Int) : nearAt (m * 2 ^ k) p L = nearAt m (p + k) L := by
  unfold nearAt
  have key : rnd ((m * 2 ^ k) <<< (p - L).toNat) (L - p).toNat = rnd (m <<< (p + (k : Int) - L).toNat) (L - (p + (k : Int))).toNat := by
    rcases (show L ≤ p ∨ (p < L ∧ L ≤ p + k) ∨ p + k < L by omega) with h | ⟨h, h'⟩ | h
    · have a1 : (L - p).toNat = 0 := by omega
      have a2 : (L - (p + (k : Int))).toNat = 0 := by omega
      have a3 : k + (p - L).toNat = (p + (k : Int) - L).toNat := by omega
      rw [a1, a2, Nat.shiftLeft_eq, Nat.shiftLeft_eq, Nat.mul_assoc, ← Nat.pow_add, a3]
    · obtain ⟨d, hd⟩ : ∃ d : Nat, L - p = d := ⟨(L - p).toNat, by omega⟩
      have a1 : (p - L).toNat = 0 := by omega
      have a2 : (L - p).toNat = d := by omega
      have a3 : (L - (p + (k : Int))).toNat = 0 := by omega
      have a4 : (p + (k : Int) - L).toNat = k - d := by omega
      have a5 : k - d + d = k := by omega
      have a6 : m * 2 ^ k = m * 2 ^ (k - d) * 2 ^ d := by rw [Nat.mul_assoc, ← Nat.pow_add, a5]
      rw [a1, a2, a3, a4, Nat.shiftLeft_zero, Nat.shiftLeft_eq, rnd_none, a6, rnd_exact]
    · obtain ⟨d, hd⟩ : ∃ d : Nat, L - (p + k) = d := ⟨(L - (p + k)).toNat, by omega⟩
      have a1 : (p - L).toNat = 0 := by omega
      have a2 : (L - p).toNat = d + k := by omega
      have a3 : (L - (p + (k : Int))).toNat = d := by omega
      have a4 : (p + (k : Int) - L).toNat = 0 := by omega
      rw [a1, a2, a3, a4, Nat.shiftLeft_zero, Nat.shiftLeft_zero, rnd_scale]
  rw [key]
/-- The same number, said at another place. -/
theorem nearest_scale (m k : Nat) (p : Int) (hm : m ≠ 0) : Ieee.double.nearest false (m * 2 ^ k) p = Ieee.double.nearest false m (p + k) := by
  have hk := Nat.two_pow_pos k
  have h0 : m * 2 ^ k ≠ 0 := by
    have := Nat.mul_pos (show 0 < m by omega) hk
    omega
  have hl := log2_scale m k hm
  obtain ⟨L, hL⟩ : ∃ L, L = max (p + (k : Int) + (m.log2 : Int) - 52) (-1074) := ⟨_, rfl⟩
  rw [nearest_form (m * 2 ^ k) p L h0 (by rw [hl, hL]; omega), nearest_form m (p + k) L hm hL, nearAt_scale]
theorem val_one : val 4607182418800017408 = U := by
  obtain ⟨r, h1, _, h3⟩ := ofInt_U 1 (by decide)
  have : r = 4607182418800017408 := by rw [← h1]; decide +kernel
  rw [← this, h3, Nat.one_mul]
theorem U_pow : ∃ M : Nat, M = 1074 ∧ U = 2 ^ M := by
  obtain ⟨N, hN⟩ : ∃ N : Nat, N = 1022 := ⟨_, rfl⟩
  refine ⟨52 + N, by omega, ?_⟩
  rw [← val_one, Nat.pow_add]
  unfold val
  rw [if_neg (by decide), show 4607182418800017408 / 4503599627370496 - 1 = N by omega]
/-- A whole number times another one. -/
theorem mul_near (a c K : Nat) (sa : sgn a = false) (ra : rung a < 9218868437227405312) (sc : sgn c = false) (rc : rung c < 9218868437227405312) (hK : val (rung a) = K * U) :
    FloatKind.f64.format.mul a c = some (if K * val (rung c) = 0 then 0 else near (K * val (rung c))) := by
  obtain ⟨m, e, hr, hv⟩ := read_fin a ra
  obtain ⟨n, i, hs, hw⟩ := read_fin c rc
  obtain ⟨M, hM, hU⟩ := U_pow
  show ((Ieee.double.read a).product (Ieee.double.read c)).map Ieee.double.write = _
  rw [hr, hs, sa, sc]
  show some (Ieee.double.nearest false (m * n) (-1074 + (e : Int) + (-1074 + (i : Int)))) = _
  congr 1
  have hprod : m * n * 2 ^ (e + i) = K * val (rung c) * 2 ^ M := by
    rw [Nat.pow_add, ← hw, ← hU]
    calc m * n * (2 ^ e * 2 ^ i) = (m * 2 ^ e) * (n * 2 ^ i) := by ac_rfl
      _ = K * U * (n * 2 ^ i) := by rw [hv, hK]
      _ = K * (n * 2 ^ i) * U := by ac_rfl
  generalize K * val (rung c) = z at *
  by_cases hz : z = 0
  · rw [if_pos hz]
    have : m * n = 0 := by
      rw [hz, Nat.zero_mul] at hprod
      rcases Nat.mul_eq_zero.1 hprod with h | h
      · exact h
      · have := Nat.two_pow_pos (e + i); omega
    unfold Ieee.Format.nearest
    rw [if_pos this]
    rfl
  · rw [if_neg hz]
    have hmn : m * n ≠ 0 := by
      intro h
      rw [h, Nat.zero_mul] at hprod
      have := Nat.mul_pos (show 0 < z by omega) (Nat.two_pow_pos M)
      omega
    rw [← nearest_near z hz]
    rcases Nat.le_total M (e + i) with h | h
    · have hq : m * n * 2 ^ (e + i - M) = z := by
        apply Nat.eq_of_mul_eq_mul_right (Nat.two_pow_pos M)
        rw [Nat.mul_assoc, ← Nat.pow_add, show e + i - M + M = e + i by omega, hprod]
      rw [← hq, nearest_scale _ _ _ hmn]
      congr 1
      omega
    · have hq : m * n = z * 2 ^ (M - (e + i)) := by
        apply Nat.eq_of_mul_eq_mul_right (Nat.two_pow_pos (e + i))
        rw [hprod, Nat.mul_assoc, ← Nat.pow_add, show M - (e + i) + (e + i) = M by omega]
      rw [hq, nearest_scale _ _ _ hz]
      congr 1
      omega
/-- What is clean. -/
theorem clean_spec (x : Nat) (hx : x < 18446744073709551616) : sgn (clean x) = false ∧ rung (clean x) = clean x ∧ clean x ≤ 4607182418800017408 := by
  unfold clean
  by_cases h1 : fgt x 4607182418800017408 = true
  · rw [if_pos h1]; decide
  rw [if_neg h1]
  by_cases h2 : fgt x 0 = true
  · rw [if_pos h2]
    rw [show fgt x 4607182418800017408 = _ from gt_iff x 4607182418800017408] at h1
    rw [show fgt x 0 = _ from gt_iff x 0, show key 0 = 0 by decide] at h2
    have h2 := of_decide_eq_true h2
    have hp := key_pos h2.2.2
    have h1 : ¬ (¬ nan x ∧ ¬ nan 4607182418800017408 ∧ key 4607182418800017408 < key x) := of_decide_eq_false (by simpa using h1)
    rw [show key 4607182418800017408 = 4607182418800017408 by decide] at h1
    have hr : rung x ≤ 4607182418800017408 := by
      rcases Nat.lt_or_ge 4607182418800017408 (rung x) with h | h
      · exact absurd ⟨h2.1, by decide, by omega⟩ h1
      · exact h
    have hsg : x / 9223372036854775808 % 2 ≠ 1 := by have h := hp.2; unfold sgn at h; simpa using h
    exact ⟨hp.2, by unfold rung; omega, by unfold rung at hr; omega⟩
  · rw [if_neg h2]; decide
end Go.Proofs.Ytccjblcfnoelbaa
