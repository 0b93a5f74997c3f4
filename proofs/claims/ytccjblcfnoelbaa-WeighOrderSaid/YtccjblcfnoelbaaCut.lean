/- Numbers cut to whole ones; whole ones as numbers. -/
import Derived.Test.YtccjblcfnoelbaaOrd
namespace Go.Proofs.Ytccjblcfnoelbaa
set_option linter.unusedVariables false
set_option linter.unusedSimpArgs false

theorem div_cut (n d : Nat) : n / (1 <<< min d (n.log2 + 2)) = n / 2 ^ d := by
  rw [Nat.one_shiftLeft]
  rcases Nat.le_total d (n.log2 + 2) with h | h
  · rw [Nat.min_eq_left h]
  · rw [Nat.min_eq_right h]
    have h1 : n < 2 ^ (n.log2 + 1) := Nat.lt_log2_self
    have h2 : 2 ^ (n.log2 + 1) ≤ 2 ^ (n.log2 + 2) := Nat.pow_le_pow_right (by decide) (by omega)
    have h3 : 2 ^ (n.log2 + 2) ≤ 2 ^ d := Nat.pow_le_pow_right (by decide) h
    rw [Nat.div_eq_of_lt (by omega), Nat.div_eq_of_lt (by omega)]
theorem cut_zero (s : Bool) (n d : Nat) : Ieee.Toward.zero.cut s n d = n / 2 ^ d := by
  rw [← div_cut]
  rfl
theorem pow_up (m e N : Nat) (h : N ≤ e) : m * 2 ^ e = m * 2 ^ (e - N) * 2 ^ N := by rw [Nat.mul_assoc, ← Nat.pow_add]; congr 2; omega
theorem pow_down (e N : Nat) (h : e ≤ N) : 2 ^ N = 2 ^ (N - e) * 2 ^ e := by rw [← Nat.pow_add]; congr 1; omega
/-- A finite number, cut towards zero. -/
theorem toInt_eq (N : Nat) (hN : N = 1074) (b : Nat) (h : rung b < 9218868437227405312) : (Ieee.double.read b).toInt .zero = some (if sgn b then -((val (rung b) / 2 ^ N : Nat) : Int) else ((val (rung b) / 2 ^ N : Nat) : Int)) := by
  obtain ⟨m, e, hr, hv⟩ := read_fin b h
  rw [hr, ← hv]
  show some (Ieee.signed (sgn b) (Ieee.Toward.zero.cut (sgn b) (m <<< (-1074 + (e : Int)).toNat) (-(-1074 + (e : Int))).toNat) 0) = _
  have key : (m <<< (-1074 + (e : Int)).toNat) / 2 ^ (-(-1074 + (e : Int))).toNat = m * 2 ^ e / 2 ^ N := by
    rcases Nat.le_total 1074 e with h | h
    · rw [show (-1074 + (e : Int)).toNat = e - 1074 by omega, show (-(-1074 + (e : Int))).toNat = 0 by omega, Nat.pow_zero, Nat.div_one, Nat.shiftLeft_eq]
      rw [show e - 1074 = e - N by omega, pow_up m e N (by omega)]
      rw [Nat.mul_div_cancel _ (Nat.two_pow_pos _)]
    · rw [show (-1074 + (e : Int)).toNat = 0 by omega, show (-(-1074 + (e : Int))).toNat = 1074 - e by omega, Nat.shiftLeft_zero]
      rw [show 1074 - e = N - e by omega, pow_down e N (by omega)]
      rw [Nat.mul_div_mul_right _ _ (Nat.two_pow_pos _)]
  rw [cut_zero, key, signed_eq, Nat.pow_zero, Nat.mul_one]
/-- A whole number below 2 to the 53rd is a number, just so. -/
theorem ofInt_val (N : Nat) (hN : N = 1074) (k : Nat) (hk : k < 9007199254740992) : ∃ r : Nat, floatOfInt .f64 (k : Int) = r ∧ r < 9218868437227405312 ∧ val r = k * 2 ^ N := by
  by_cases h0 : k = 0
  · subst h0
    exact ⟨0, rfl, by decide, (Nat.zero_mul _).symm⟩
  have e0 : floatOfInt .f64 (k : Int) = Ieee.double.nearest false k 0 := by
    show Ieee.double.nearest (decide ((k : Int) < 0)) (k : Int).natAbs 0 = _
    rw [decide_eq_false (by omega), Int.natAbs_natCast]
  have l1 : 2 ^ k.log2 ≤ k := Nat.log2_self_le h0
  have l2 : k < 2 ^ (k.log2 + 1) := Nat.lt_log2_self
  have l3 : k.log2 ≤ 52 := by
    rcases Nat.lt_or_ge 52 k.log2 with h | h
    · have : 2 ^ 53 ≤ 2 ^ k.log2 := Nat.pow_le_pow_right (by decide) h
      omega
    · exact h
  generalize hl : k.log2 = l at *
  have hkept : k * 2 ^ (52 - l) < 9007199254740992 ∧ 4503599627370496 ≤ k * 2 ^ (52 - l) := by
    have p1 : 2 ^ (l + 1) * 2 ^ (52 - l) = 9007199254740992 := by rw [← Nat.pow_add, show l + 1 + (52 - l) = 53 by omega]
    have p2 : 2 ^ l * 2 ^ (52 - l) = 4503599627370496 := by rw [← Nat.pow_add, show l + (52 - l) = 52 by omega]
    refine ⟨?_, ?_⟩
    · rw [← p1]; exact Nat.mul_lt_mul_of_pos_right l2 (Nat.two_pow_pos _)
    · rw [← p2]; exact Nat.mul_le_mul_right _ l1
  refine ⟨(l + 1022) * 4503599627370496 + k * 2 ^ (52 - l), ?_, by omega, ?_⟩
  · rw [e0, Ieee.Format.nearest, if_neg h0]
    simp only [fmt_bin, fmt_inf, fmt_least, hl]
    have e1 : max ((0 : Int) + (l : Int) - (Ieee.double.fractionBits : Int)) (-1074) = (l : Int) - 52 := by
      show max ((0 : Int) + (l : Int) - 52) (-1074) = _
      omega
    rw [e1, show ((0 : Int) - ((l : Int) - 52)).toNat = 52 - l by omega, show ((l : Int) - 52 - 0).toNat = 0 by omega, show ((l : Int) - 52 - -1074).toNat = l + 1022 by omega, Nat.shiftLeft_eq]
    have e2 : Ieee.Toward.even.cut false (k * 2 ^ (52 - l)) 0 = k * 2 ^ (52 - l) := by
      unfold Ieee.Toward.cut
      simp [Nat.mod_one]
    rw [e2, Nat.min_eq_left (by omega)]
    rfl
  · generalize hq : k * 2 ^ (52 - l) = q at *
    unfold val
    rw [if_neg (by omega), show ((l + 1022) * 4503599627370496 + q) % 4503599627370496 = q - 4503599627370496 by omega, show ((l + 1022) * 4503599627370496 + q) / 4503599627370496 - 1 = l + 1022 by omega, show 4503599627370496 + (q - 4503599627370496) = q by omega, ← hq, Nat.mul_assoc, ← Nat.pow_add, show 52 - l + (l + 1022) = N by omega]
theorem unit_ex : ∃ U : Nat, 0 < U ∧ (∀ b, rung b < 9218868437227405312 → (Ieee.double.read b).toInt .zero = some (if sgn b then -((val (rung b) / U : Nat) : Int) else ((val (rung b) / U : Nat) : Int))) ∧
    ∀ k : Nat, k < 9007199254740992 → ∃ r : Nat, floatOfInt .f64 (k : Int) = r ∧ r < 9218868437227405312 ∧ val r = k * U := by
  obtain ⟨N, hN⟩ : ∃ N : Nat, N = 1074 := ⟨_, rfl⟩
  exact ⟨2 ^ N, Nat.two_pow_pos _, toInt_eq N hN, ofInt_val N hN⟩
/-- How many least places there are in one. -/
noncomputable def U : Nat := Classical.choose unit_ex
theorem U_pos : 0 < U := (Classical.choose_spec unit_ex).1
theorem toInt_U (b : Nat) (h : rung b < 9218868437227405312) : (Ieee.double.read b).toInt .zero = some (if sgn b then -((val (rung b) / U : Nat) : Int) else ((val (rung b) / U : Nat) : Int)) := (Classical.choose_spec unit_ex).2.1 b h
theorem ofInt_U (k : Nat) (hk : k < 9007199254740992) : ∃ r : Nat, floatOfInt .f64 (k : Int) = r ∧ r < 9218868437227405312 ∧ val r = k * U := (Classical.choose_spec unit_ex).2.2 k hk
end Go.Proofs.Ytccjblcfnoelbaa
