/- Rounding: what is exact stays, and the order stays. -/
import Derived.Test.YtccjblcfnoelbaaCut
namespace Go.Proofs.Ytccjblcfnoelbaa
set_option linter.unusedVariables false
set_option linter.unusedSimpArgs false

/-- n cut by 2 to the d, to the nearest, ties to even. -/
def rnd (n d : Nat) : Nat := n / 2 ^ d + (decide (2 ^ d < 2 * (n % 2 ^ d)) || (2 ^ d == 2 * (n % 2 ^ d) && n / 2 ^ d % 2 == 1)).toNat
theorem cut_even (s : Bool) (n d : Nat) : Ieee.Toward.even.cut s n d = rnd n d := by
  unfold Ieee.Toward.cut rnd
  simp only [Nat.one_shiftLeft]
  rcases Nat.le_total d (n.log2 + 2) with h | h
  · rw [Nat.min_eq_left h]
  · rw [Nat.min_eq_right h]
    have h1 : n < 2 ^ (n.log2 + 1) := Nat.lt_log2_self
    have h2 : 2 ^ (n.log2 + 2) = 2 * 2 ^ (n.log2 + 1) := by rw [Nat.pow_succ, Nat.mul_comm]
    have h3 : 2 ^ (n.log2 + 2) ≤ 2 ^ d := Nat.pow_le_pow_right (by decide) h
    generalize 2 ^ (n.log2 + 2) = g at *
    generalize 2 ^ (n.log2 + 1) = g1 at *
    generalize 2 ^ d = p at *
    rw [Nat.div_eq_of_lt (show n < g by omega), Nat.div_eq_of_lt (show n < p by omega), Nat.mod_eq_of_lt (show n < g by omega), Nat.mod_eq_of_lt (show n < p by omega)]
    have e1 : decide (g < 2 * n) = false := decide_eq_false (by omega)
    have e2 : decide (p < 2 * n) = false := decide_eq_false (by omega)
    rw [e1, e2]
    simp
theorem rnd_mono {m n : Nat} (d : Nat) (h : m ≤ n) : rnd m d ≤ rnd n d := by
  unfold rnd
  have hp := Nat.two_pow_pos d
  generalize 2 ^ d = p at *
  have hd := Nat.div_le_div_right (c := p) h
  rcases Nat.lt_or_eq_of_le hd with h1 | h1
  · have b1 := Bool.toNat_le (decide (p < 2 * (m % p)) || (p == 2 * (m % p) && m / p % 2 == 1))
    omega
  · have hm := Nat.div_add_mod m p
    have hn := Nat.div_add_mod n p
    rw [h1] at hm ⊢
    have hr : m % p ≤ n % p := by omega
    by_cases c1 : p < 2 * (n % p)
    · have e : decide (p < 2 * (n % p)) = true := decide_eq_true c1
      rw [e]
      have b1 := Bool.toNat_le (decide (p < 2 * (m % p)) || (p == 2 * (m % p) && n / p % 2 == 1))
      simp only [Bool.true_or]
      show _ ≤ n / p + 1
      omega
    · have e1 : decide (p < 2 * (m % p)) = false := decide_eq_false (by omega)
      have e2 : decide (p < 2 * (n % p)) = false := decide_eq_false c1
      rw [e1, e2]
      by_cases c2 : p = 2 * (m % p)
      · have c3 : p = 2 * (n % p) := by omega
        rw [show (p == 2 * (m % p)) = true by simpa using c2, show (p == 2 * (n % p)) = true by simpa using c3]
        exact Nat.le_refl _
      · rw [show (p == 2 * (m % p)) = false by simpa using c2]
        simp
theorem rnd_le {n d k : Nat} (h : n < k * 2 ^ d) : rnd n d ≤ k := by
  have hp := Nat.two_pow_pos d
  have : n / 2 ^ d < k := Nat.div_lt_of_lt_mul (by rw [Nat.mul_comm]; exact h)
  unfold rnd
  have b1 := Bool.toNat_le (decide (2 ^ d < 2 * (n % 2 ^ d)) || (2 ^ d == 2 * (n % 2 ^ d) && n / 2 ^ d % 2 == 1))
  omega
theorem rnd_ge {n d k : Nat} (h : k * 2 ^ d ≤ n) : k ≤ rnd n d := by
  have : k ≤ n / 2 ^ d := (Nat.le_div_iff_mul_le (Nat.two_pow_pos d)).2 h
  unfold rnd
  omega
theorem rnd_exact (n d : Nat) : rnd (n * 2 ^ d) d = n := by
  unfold rnd
  rw [Nat.mul_div_cancel _ (Nat.two_pow_pos d), Nat.mul_mod_left]
  have := Nat.two_pow_pos d
  simp
/-- The rung nearest to z least places. -/
def near (z : Nat) : Nat := min ((z.log2 - 52) * 4503599627370496 + rnd z (z.log2 - 52)) 9218868437227405312
theorem word_pos (f : Ieee.Format) (r : Nat) : f.word false r = r := rfl
theorem nearest_near (z : Nat) (hz : z ≠ 0) : Ieee.double.nearest false z (-1074) = near z := by
  have hf : (Ieee.double.fractionBits : Int) = 52 := rfl
  unfold Ieee.Format.nearest near
  rw [if_neg hz]
  simp only [fmt_bin, fmt_inf, fmt_least, hf]
  generalize z.log2 = l
  have e1 : max ((-1074 : Int) + (l : Int) - 52) (-1074) = -1074 + ((l - 52 : Nat) : Int) := by omega
  have e2 : ((-1074 : Int) - (-1074 + ((l - 52 : Nat) : Int))).toNat = 0 := by omega
  have e3 : (-1074 + ((l - 52 : Nat) : Int) - -1074).toNat = l - 52 := by omega
  rw [e1, e2, e3, cut_even, Nat.shiftLeft_zero, word_pos]
theorem near_mono {m n : Nat} (hm : m ≠ 0) (h : m ≤ n) : near m ≤ near n := by
  have hn : n ≠ 0 := by omega
  have hl : m.log2 ≤ n.log2 := by
    have l1 : 2 ^ m.log2 ≤ m := Nat.log2_self_le hm
    have l2 : n < 2 ^ (n.log2 + 1) := Nat.lt_log2_self
    rcases Nat.lt_or_ge n.log2 m.log2 with h' | h'
    · have : 2 ^ (n.log2 + 1) ≤ 2 ^ m.log2 := Nat.pow_le_pow_right (by decide) h'
      omega
    · exact h'
  unfold near
  have key : (m.log2 - 52) * 4503599627370496 + rnd m (m.log2 - 52) ≤ (n.log2 - 52) * 4503599627370496 + rnd n (n.log2 - 52) := by
    rcases Nat.lt_or_eq_of_le (show m.log2 - 52 ≤ n.log2 - 52 by omega) with h1 | h1
    · have u : rnd m (m.log2 - 52) ≤ 9007199254740992 := by
        apply rnd_le
        have l2 : m < 2 ^ (m.log2 + 1) := Nat.lt_log2_self
        have : 2 ^ (m.log2 + 1) ≤ 9007199254740992 * 2 ^ (m.log2 - 52) := by
          rw [show 9007199254740992 = 2 ^ 53 from rfl, ← Nat.pow_add]
          exact Nat.pow_le_pow_right (by decide) (by omega)
        omega
      have v : 4503599627370496 ≤ rnd n (n.log2 - 52) := by
        apply rnd_ge
        have l1 : 2 ^ n.log2 ≤ n := Nat.log2_self_le hn
        have : 4503599627370496 * 2 ^ (n.log2 - 52) = 2 ^ n.log2 := by
          rw [show 4503599627370496 = 2 ^ 52 from rfl, ← Nat.pow_add]
          congr 1
          omega
        omega
      generalize n.log2 - 52 = q at *
      generalize m.log2 - 52 = p at *
      omega
    · rw [h1]
      have := rnd_mono (n.log2 - 52) h
      omega
  omega
theorem near_exact (r : Nat) (h0 : r ≠ 0) (h : r < 9218868437227405312) : near (val r) = r := by
  unfold near val
  by_cases h1 : r < 4503599627370496
  · rw [if_pos h1]
    have : r.log2 < 52 := by
      rcases Nat.lt_or_ge r.log2 52 with h' | h'
      · exact h'
      · have : 2 ^ 52 ≤ 2 ^ r.log2 := Nat.pow_le_pow_right (by decide) h'
        have := Nat.log2_self_le h0
        omega
    have e := rnd_exact r 0
    rw [Nat.pow_zero, Nat.mul_one] at e
    rw [show r.log2 - 52 = 0 by omega, e]
    omega
  · rw [if_neg h1]
    have hM : 4503599627370496 ≤ 4503599627370496 + r % 4503599627370496 ∧ 4503599627370496 + r % 4503599627370496 < 9007199254740992 := by omega
    have hr : r = (r / 4503599627370496 - 1) * 4503599627370496 + (4503599627370496 + r % 4503599627370496) := by omega
    generalize 4503599627370496 + r % 4503599627370496 = M at *
    generalize r / 4503599627370496 - 1 = e at *
    have hp := Nat.two_pow_pos e
    have hl : (M * 2 ^ e).log2 = 52 + e := by
      have h2 : M * 2 ^ e ≠ 0 := by
        have := Nat.mul_pos (show 0 < M by omega) hp
        omega
      rw [Nat.log2_eq_iff h2]
      refine ⟨?_, ?_⟩
      · rw [Nat.pow_add]; exact Nat.mul_le_mul_right _ hM.1
      · rw [show 52 + e + 1 = 53 + e by omega, Nat.pow_add]; exact Nat.mul_lt_mul_of_pos_right hM.2 hp
    rw [hl, show 52 + e - 52 = e by omega, rnd_exact]
    omega
end Go.Proofs.Ytccjblcfnoelbaa
