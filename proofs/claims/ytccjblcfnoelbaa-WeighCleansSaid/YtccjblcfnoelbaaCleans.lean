/- WeighCleans. -/
import Derived.Test.YtccjblcfnoelbaaShares
namespace Go.Proofs.Ytccjblcfnoelbaa
open Go.ChangeShapes Go.WideShapes Go.ChangeAt Go.RowKit
set_option linter.unusedVariables false
set_option linter.unusedSimpArgs false

theorem read_zero : Ieee.double.read 0 = .number false 0 (-1074) := by decide +kernel
theorem read_one : Ieee.double.read 4607182418800017408 = .number false 4503599627370496 (-52) := by decide +kernel
/-- Nought is added. -/
theorem add_zero (y : Nat) (h0 : y ≠ 0) (hs : sgn y = false) (hr : rung y = y) (h1 : y ≤ 4607182418800017408) : FloatKind.f64.format.add y 0 = some y := by
  obtain ⟨m, e, hm, hv⟩ := read_fin y (by omega)
  rw [hr] at hv
  have hV : val y ≠ 0 := by have := val_lt (show 0 < y by omega); rw [val_zero] at this; omega
  show ((Ieee.double.read y).sum (Ieee.double.read 0)).map Ieee.double.write = _
  rw [hm, read_zero, hs]
  show some (Ieee.double.nearest _ _ _) = _
  have e1 : min (-1074 + (e : Int)) (-1074) = -1074 := by omega
  have e2 : (-1074 + (e : Int) - -1074).toNat = e := by omega
  have e3 : ((-1074 : Int) - -1074).toNat = 0 := by omega
  simp only [e1, e2, e3, signed_eq, Bool.false_eq_true, if_false, Nat.zero_mul, hv]
  have e4 : ((val y : Nat) : Int) + ((0 : Nat) : Int) = (val y : Int) := by omega
  rw [e4, if_neg (by omega), decide_eq_false (by omega), Int.natAbs_natCast, nearest_near _ hV, near_exact y h0 (by omega)]
theorem div_def (a b : Nat) : FloatKind.f64.format.div a b = ((Ieee.double.read a).quotient 54 (Ieee.double.read b)).map Ieee.double.write := rfl
theorem write_pos (m : Nat) (p : Int) : Ieee.double.write (.number false m p) = Ieee.double.nearest false m p := rfl
theorem quot_eq (m n : Nat) (i j : Int) (d : Nat) (hn : n ≠ 0) : (Ieee.Datum.number false m i).quotient d (.number false n j) =
    some (.number false (2 * (m <<< (d + n.log2 - m.log2) / n) + (m <<< (d + n.log2 - m.log2) % n != 0).toNat) (i - j - ((d + n.log2 - m.log2 : Nat) : Int) - 1)) := by
  unfold Ieee.Datum.quotient
  simp only [hn, if_false]
  rfl
theorem nearAt_pos (mag : Nat) (P L : Int) (hL : -100 ≤ L) : 0 < nearAt mag P L ∧ nearAt mag P L ≤ 9218868437227405312 := by
  unfold nearAt
  have h1 : 1 ≤ (L - -1074).toNat := by omega
  generalize (L - -1074).toNat = a at *
  generalize rnd (mag <<< (P - L).toNat) (L - P).toNat = b
  refine ⟨Nat.lt_min.2 ⟨?_, by decide⟩, Nat.min_le_right _ _⟩
  exact Nat.lt_of_lt_of_le (Nat.mul_pos h1 (by decide)) (Nat.le_add_right _ _)
theorem fgt_pos (r : Nat) (h0 : 0 < r) (h1 : r ≤ 9218868437227405312) : fgt r 0 = true := by
  have k0 : key 0 = 0 := by decide
  have n0 : ¬ nan 0 := by decide
  rw [show fgt r 0 = _ from gt_iff r 0, k0]
  have hrr : rung r = r := by unfold rung; omega
  have hsr : sgn r = false := by unfold sgn; rw [Nat.div_eq_of_lt (by omega)]; rfl
  refine decide_eq_true ⟨by unfold nan; omega, n0, ?_⟩
  unfold key
  rw [hsr, hrr]
  show (0 : Int) < (r : Int)
  omega
/-- One over a clean number is above nought. -/
theorem inv_pos (y : Nat) (h0 : y ≠ 0) (hs : sgn y = false) (hr : rung y = y) (h1 : y ≤ 4607182418800017408) : ∃ r, FloatKind.f64.format.div 4607182418800017408 y = some r ∧ fgt r 0 = true := by
  obtain ⟨n, e, hm, hv⟩ := read_fin y (by omega)
  rw [hr] at hv
  obtain ⟨M, hM, hU⟩ := U_pow
  have hV0 := val_lt (show 0 < y by omega)
  have hV1 := val_le h1
  rw [val_zero] at hV0
  rw [val_one, hU] at hV1
  have hn : n ≠ 0 := by rintro rfl; rw [Nat.zero_mul] at hv; omega
  have l1 : 2 ^ n.log2 ≤ n := Nat.log2_self_le hn
  have l2 : n < 2 ^ (n.log2 + 1) := Nat.lt_log2_self
  have hle : n.log2 + e ≤ M := by
    clear hM hU h1 hr
    rcases Nat.lt_or_ge M (n.log2 + e) with h | h
    · have a1 : 2 ^ M < 2 ^ (n.log2 + e) := Nat.pow_lt_pow_right (by decide) h
      have a2 : 2 ^ (n.log2 + e) ≤ n * 2 ^ e := by rw [Nat.pow_add]; exact Nat.mul_le_mul_right _ l1
      omega
    · exact h
  rw [hM] at hle
  clear hM hU hV1 hV0
  have hlog : Nat.log2 4503599627370496 = 52 := by decide +kernel
  rw [div_def, read_one, hm, hs, quot_eq _ _ _ _ _ hn, hlog]
  have hmore : 54 + n.log2 - 52 = n.log2 + 2 := by omega
  rw [hmore, Nat.shiftLeft_eq]
  generalize hl : n.log2 = l at *
  have hq : 9007199254740992 ≤ 4503599627370496 * 2 ^ (l + 2) / n := by
    rw [Nat.le_div_iff_mul_le (by omega)]
    have : 4503599627370496 * 2 ^ (l + 2) = 9007199254740992 * 2 ^ (l + 1) := by
      rw [show l + 2 = (l + 1) + 1 by omega, Nat.pow_succ]
      generalize 2 ^ (l + 1) = p
      omega
    rw [this]
    exact Nat.mul_le_mul_left _ (by omega)
  generalize 4503599627370496 * 2 ^ (l + 2) / n = q at *
  generalize hmag : 2 * q + (4503599627370496 * 2 ^ (l + 2) % n != 0).toNat = mag
  have hmag0 : 18014398509481984 ≤ mag := by omega
  clear hmag l1 l2 hq
  have hmg : mag ≠ 0 := by omega
  have hlm : 54 ≤ mag.log2 := by
    have l3 : mag < 2 ^ (mag.log2 + 1) := Nat.lt_log2_self
    rcases Nat.lt_or_ge mag.log2 54 with h | h
    · have : 2 ^ (mag.log2 + 1) ≤ 2 ^ 54 := Nat.pow_le_pow_right (by decide) (by omega)
      omega
    · exact h
  rw [Option.map_some, write_pos]
  refine ⟨_, rfl, ?_⟩
  obtain ⟨P, hP⟩ : ∃ P : Int, P = -52 - (-1074 + (e : Int)) - ((l + 2 : Nat) : Int) - 1 := ⟨_, rfl⟩
  obtain ⟨L, hL⟩ : ∃ L : Int, L = max (P + (mag.log2 : Int) - 52) (-1074) := ⟨_, rfl⟩
  rw [← hP, nearest_form mag P L hmg hL]
  have hL2 : -100 ≤ L := by omega
  exact fgt_pos _ (nearAt_pos mag P L hL2).1 (nearAt_pos mag P L hL2).2
theorem clean_clean (x : Nat) (hx : x < 18446744073709551616) : clean (clean x) = clean x := by
  unfold clean
  by_cases h1 : fgt x 4607182418800017408 = true
  · rw [if_pos h1]; decide +kernel
  rw [if_neg h1]
  by_cases h2 : fgt x 0 = true
  · rw [if_pos h2, if_neg h1, if_pos h2]
  · rw [if_neg h2]; decide +kernel
theorem run_addf {P : Program} (t : TypeId) (x y r : Nat) (w : World) (h : FloatKind.f64.format.add x y = some r) : (binOp .add t (.float .f64 x) (.float .f64 y)).run P w = .ok (.float .f64 r) w := run_float_arith (P := P) w .add t .f64 x y r h
attribute [local go_sem] run_quo run_addf
set_option maxHeartbeats 1000000 in
set_option maxRecDepth 100000 in
theorem cleans_any (x : Nat) (w : World) (hx : x < 18446744073709551616) : Calls Try.prog 10 #[.float .f64 x] w fun e w' => e = .returned (.bool true) ∧ Below w.heap.size w w' := by
  have hcc := clean_clean x hx
  obtain ⟨s1, s2, s3⟩ := clean_spec x hx
  generalize hy : clean x = y at *
  have hyl : y < 18446744073709551616 := by omega
  have k0 : key 0 = 0 := by decide
  have n0 : ¬ nan 0 := by decide
  have k1 : key 4607182418800017408 = 4607182418800017408 := by decide
  have n1 : ¬ nan 4607182418800017408 := by decide
  have hk : key y = y := by unfold key; rw [s1, s2]; rfl
  have hn : ¬ nan y := by unfold nan; omega
  by_cases h0 : y = 0
  · subst h0
    have a1 : FloatKind.f64.format.add 0 0 = some 0 := by decide +kernel
    have a2 : FloatKind.f64.format.div 4607182418800017408 0 = some 9218868437227405312 := by decide +kernel
    have a3 : (FloatKind.f64.format.order 9218868437227405312 0 == some .gt) = true := by decide +kernel
    have a4 : (FloatKind.f64.format.order 0 0 == some .gt) = false := by decide +kernel
    have a5 : (FloatKind.f64.format.order 0 0 == some .eq) = true := by decide +kernel
    have a6 : (FloatKind.f64.format.order 0 0 != some .eq) = false := by decide +kernel
    have a7 : (FloatKind.f64.format.order 0 4607182418800017408 == some .lt) = true := by decide +kernel
    go_enter Try.func10, Try.ntmps10
    go_wp2_with (first
      | (go_at_call 15; refine (clean_any _ _).mono ?_; rintro e w1 ⟨rfl, rfl⟩; first | rw [hy] | rw [hcc])
      | (go_at_call 14; refine (same_any _ _ _ (by decide) (by decide)).mono ?_; rintro e w1 ⟨rfl, rfl⟩; rw [rank0])
      | (go_at_call 3; refine (runs_any _).mono ?_; rintro e w2 ⟨rfl, hB2⟩))
    go_ret
    exact ⟨rfl, hB2⟩
  · have a1 := add_zero y h0 s1 s2 s3
    obtain ⟨r, a2, a3⟩ := inv_pos y h0 s1 s2 s3
    have a4 : (FloatKind.f64.format.order y 0 == some .gt) = true := by rw [gt_iff]; exact decide_eq_true ⟨hn, n0, by omega⟩
    have a5 : (FloatKind.f64.format.order y 0 == some .eq) = false := by rw [eq_iff]; exact decide_eq_false fun h => by omega
    have a6 : (FloatKind.f64.format.order y 0 != some .eq) = true := by show (!(FloatKind.f64.format.order y 0 == some .eq)) = true; rw [a5]; rfl
    have a7 : (FloatKind.f64.format.order y 4607182418800017408 == some .lt || FloatKind.f64.format.order y 4607182418800017408 == some .eq) = true := by
      rw [lt_iff, eq_iff, ← Bool.decide_or]
      refine decide_eq_true ?_
      rcases Int.lt_or_eq_of_le (show key y ≤ key 4607182418800017408 by omega) with h | h
      · exact .inl ⟨hn, n1, h⟩
      · exact .inr ⟨hn, n1, h⟩
    have a8 : (FloatKind.f64.format.order r 0 == some .gt) = true := a3
    go_enter Try.func10, Try.ntmps10
    go_wp2_with (first
      | (go_at_call 15; refine (clean_any _ _).mono ?_; rintro e w1 ⟨rfl, rfl⟩; first | rw [hy] | rw [hcc])
      | (go_at_call 14; refine (same_any _ _ _ hyl hyl).mono ?_; rintro e w1 ⟨rfl, rfl⟩; rw [decide_eq_true (rfl : rank y = rank y)])
      | (go_at_call 3; refine (runs_any _).mono ?_; rintro e w2 ⟨rfl, hB2⟩))
    all_goals
      go_ret
      exact ⟨rfl, hB2⟩
end Go.Proofs.Ytccjblcfnoelbaa
