/- The order of the numbers, as an order of whole numbers. -/
import Derived.Test.YtccjblcfnoelbaaMisc
import Derived.Laws.FloatArith
namespace Go.Proofs.Ytccjblcfnoelbaa
set_option linter.unusedVariables false
set_option linter.unusedSimpArgs false

def sgn (b : Nat) : Bool := b / 9223372036854775808 % 2 == 1
def rung (b : Nat) : Nat := b % 9223372036854775808
def key (b : Nat) : Int := if sgn b then -(rung b : Int) else (rung b : Int)
/-- The magnitude of a rung, in units of the least place. -/
def val (r : Nat) : Nat := if r < 4503599627370496 then r else (4503599627370496 + r % 4503599627370496) * 2 ^ (r / 4503599627370496 - 1)
theorem val_succ (r : Nat) : val r < val (r + 1) := by
  unfold val
  by_cases h1 : r + 1 < 4503599627370496
  · rw [if_pos (by omega), if_pos h1]; omega
  by_cases h2 : r < 4503599627370496
  · obtain rfl : r = 4503599627370495 := by omega
    decide
  rw [if_neg h2, if_neg h1]
  by_cases h3 : r % 4503599627370496 = 4503599627370495
  · have e1 : (r + 1) % 4503599627370496 = 0 := by omega
    have e2 : (r + 1) / 4503599627370496 = r / 4503599627370496 + 1 := by omega
    obtain ⟨q, hq⟩ : ∃ q, r / 4503599627370496 = q + 1 := ⟨r / 4503599627370496 - 1, by omega⟩
    rw [e1, e2, h3, hq, show q + 1 + 1 - 1 = q + 1 by omega, show q + 1 - 1 = q by omega, Nat.pow_succ]
    have := Nat.two_pow_pos q
    generalize 2 ^ q = p at *
    omega
  · have e1 : (r + 1) % 4503599627370496 = r % 4503599627370496 + 1 := by omega
    have e2 : (r + 1) / 4503599627370496 = r / 4503599627370496 := by omega
    rw [e1, e2]
    exact Nat.mul_lt_mul_of_pos_right (by omega) (Nat.two_pow_pos _)
theorem val_lt {r s : Nat} (h : r < s) : val r < val s := by
  induction s with
  | zero => omega
  | succ s ih =>
    rcases Nat.lt_or_ge r s with h' | h'
    · exact Nat.lt_trans (ih h') (val_succ s)
    · obtain rfl : r = s := by omega
      exact val_succ r
theorem val_lt_iff {r s : Nat} : val r < val s ↔ r < s := by
  constructor
  · intro h
    rcases Nat.lt_trichotomy r s with h' | h' | h'
    · exact h'
    · subst h'; omega
    · have := val_lt h'; omega
  · exact val_lt
theorem val_zero : val 0 = 0 := rfl
theorem fmt_sw : Ieee.double.signWeight = 9223372036854775808 := by decide
theorem fmt_bin : Ieee.double.binade = 4503599627370496 := by decide
theorem fmt_inf : Ieee.double.infRung = 9218868437227405312 := by decide
theorem fmt_least : Ieee.double.leastPlace = -1074 := by decide
theorem read_fin (b : Nat) (h : rung b < 9218868437227405312) : ∃ (m e : Nat), Ieee.double.read b = .number (sgn b) m (-1074 + e) ∧ m * 2 ^ e = val (rung b) := by
  unfold Ieee.Format.read
  simp only [fmt_sw, fmt_bin, fmt_inf, fmt_least]
  unfold rung at h ⊢
  unfold val
  by_cases h1 : b % 9223372036854775808 < 4503599627370496
  · rw [if_pos h1, if_pos h1]
    exact ⟨_, 0, rfl, by simp⟩
  · rw [if_neg h1, if_pos h, if_neg h1]
    exact ⟨_, _, rfl, rfl⟩
theorem read_inf (b : Nat) (h : rung b = 9218868437227405312) : Ieee.double.read b = .infinity (sgn b) := by
  unfold Ieee.Format.read
  simp only [fmt_sw, fmt_bin, fmt_inf, fmt_least]
  unfold rung at h
  rw [if_neg (by omega), if_neg (by omega), if_pos h]
  rfl
theorem read_nan (b : Nat) (h : 9218868437227405312 < rung b) : ∃ s t, Ieee.double.read b = .nan s t := by
  unfold Ieee.Format.read
  simp only [fmt_sw, fmt_bin, fmt_inf, fmt_least]
  unfold rung at h
  rw [if_neg (by omega), if_neg (by omega), if_neg (by omega)]
  exact ⟨_, _, rfl⟩
theorem cmp_int {a b c d : Int} (h1 : a < b ↔ c < d) (h2 : a = b ↔ c = d) : compare a b = compare c d := by
  simp only [compare, compareOfLessAndEq, h1, h2]
theorem cmp_lt {a b : Int} (h : a < b) : compare a b = .lt := by simp [compare, compareOfLessAndEq, h]
theorem cmp_eq {a b : Int} (h : a = b) : compare a b = .eq := by subst h; simp [compare, compareOfLessAndEq]
theorem cmp_gt {a b : Int} (h : b < a) : compare a b = .gt := by
  have h1 : ¬ a < b := by omega
  have h2 : ¬ a = b := by omega
  simp [compare, compareOfLessAndEq, h1, h2]
theorem signed_eq (s : Bool) (m k : Nat) : Ieee.signed s m k = if s then -((m * 2 ^ k : Nat) : Int) else ((m * 2 ^ k : Nat) : Int) := by simp [Ieee.signed, Nat.shiftLeft_eq]
theorem order_key (a b : Nat) (ha : rung a ≤ 9218868437227405312) (hb : rung b ≤ 9218868437227405312) : FloatKind.f64.format.order a b = some (compare (key a) (key b)) := by
  show (Ieee.double.read a).order (Ieee.double.read b) = _
  rcases Nat.lt_or_eq_of_le ha with ha | ha <;> rcases Nat.lt_or_eq_of_le hb with hb | hb
  · obtain ⟨m, i, hr, hv⟩ := read_fin a ha
    obtain ⟨n, j, hs, hw⟩ := read_fin b hb
    rw [hr, hs]
    show some (compare (Ieee.signed (sgn a) m (-1074 + (i : Int) - min (-1074 + (i : Int)) (-1074 + (j : Int))).toNat) (Ieee.signed (sgn b) n (-1074 + (j : Int) - min (-1074 + (i : Int)) (-1074 + (j : Int))).toNat)) = _
    obtain ⟨p, q, u, hp, hq, e1, e2⟩ : ∃ p q u : Nat, i = p + u ∧ j = q + u ∧ (-1074 + (i : Int) - min (-1074 + (i : Int)) (-1074 + (j : Int))).toNat = p ∧ (-1074 + (j : Int) - min (-1074 + (i : Int)) (-1074 + (j : Int))).toNat = q :=
      ⟨i - min i j, j - min i j, min i j, by omega, by omega, by omega, by omega⟩
    rw [e1, e2]
    rw [hp, Nat.pow_add, ← Nat.mul_assoc] at hv
    rw [hq, Nat.pow_add, ← Nat.mul_assoc] at hw
    have hu := Nat.two_pow_pos u
    have hlt : m * 2 ^ p < n * 2 ^ q ↔ rung a < rung b := by
      have h1 := val_lt_iff (r := rung a) (s := rung b)
      rw [← hv, ← hw] at h1
      exact (Nat.mul_lt_mul_right hu).symm.trans h1
    have hgt : n * 2 ^ q < m * 2 ^ p ↔ rung b < rung a := by
      have h1 := val_lt_iff (r := rung b) (s := rung a)
      rw [← hv, ← hw] at h1
      exact (Nat.mul_lt_mul_right hu).symm.trans h1
    have hza : m * 2 ^ p = 0 ↔ rung a = 0 := by
      have h1 := val_lt_iff (r := 0) (s := rung a)
      rw [val_zero, ← hv, Nat.mul_pos_iff_of_pos_right hu] at h1
      omega
    have hzb : n * 2 ^ q = 0 ↔ rung b = 0 := by
      have h1 := val_lt_iff (r := 0) (s := rung b)
      rw [val_zero, ← hw, Nat.mul_pos_iff_of_pos_right hu] at h1
      omega
    rw [signed_eq, signed_eq]
    unfold key
    generalize m * 2 ^ p = M at *
    generalize n * 2 ^ q = K at *
    clear hu
    generalize rung a = ra at *
    generalize rung b = rb at *
    have c1 : (ra = 0 ∧ M = 0) ∨ (0 < ra ∧ 0 < M) := by
      rcases Nat.eq_zero_or_pos ra with h | h
      · exact .inl ⟨h, hza.2 h⟩
      · exact .inr ⟨h, Nat.pos_of_ne_zero fun e => by have := hza.1 e; omega⟩
    have c2 : (rb = 0 ∧ K = 0) ∨ (0 < rb ∧ 0 < K) := by
      rcases Nat.eq_zero_or_pos rb with h | h
      · exact .inl ⟨h, hzb.2 h⟩
      · exact .inr ⟨h, Nat.pos_of_ne_zero fun e => by have := hzb.1 e; omega⟩
    have c3 : (ra < rb ∧ M < K) ∨ (ra = rb ∧ M = K) ∨ (rb < ra ∧ K < M) := by
      rcases Nat.lt_trichotomy ra rb with h | h | h
      · exact .inl ⟨h, hlt.2 h⟩
      · refine .inr (.inl ⟨h, ?_⟩)
        rcases Nat.lt_trichotomy M K with h' | h' | h'
        · have := hlt.1 h'; omega
        · exact h'
        · have := hgt.1 h'; omega
      · exact .inr (.inr ⟨h, hgt.2 h⟩)
    clear hv hw hlt hgt hza hzb e1 e2 hr hs ha hb hp hq
    congr 1
    cases sgn a <;> cases sgn b <;> simp only [if_true, if_false, Bool.false_eq_true] <;>
      (rcases c1 with ⟨c1, c1'⟩ | ⟨c1, c1'⟩ <;> rcases c2 with ⟨c2, c2'⟩ | ⟨c2, c2'⟩ <;> rcases c3 with ⟨c3, c3'⟩ | ⟨c3, c3'⟩ | ⟨c3, c3'⟩ <;>
        first
        | (exfalso; omega)
        | rw [cmp_lt (by omega), cmp_lt (by omega)]
        | rw [cmp_eq (by omega), cmp_eq (by omega)]
        | rw [cmp_gt (by omega), cmp_gt (by omega)])
  · obtain ⟨m, i, hr, -⟩ := read_fin a ha
    rw [hr, read_inf b hb]
    show some (if sgn b then Ordering.gt else Ordering.lt) = _
    unfold key
    cases sgn a <;> cases sgn b <;> simp only [if_true, if_false, Bool.false_eq_true] <;> first | exact congrArg some (cmp_lt (by omega)).symm | exact congrArg some (cmp_gt (by omega)).symm
  · obtain ⟨m, i, hr, -⟩ := read_fin b hb
    rw [hr, read_inf a ha]
    show some (if sgn a then Ordering.lt else Ordering.gt) = _
    unfold key
    cases sgn a <;> cases sgn b <;> simp only [if_true, if_false, Bool.false_eq_true] <;> first | exact congrArg some (cmp_lt (by omega)).symm | exact congrArg some (cmp_gt (by omega)).symm
  · rw [read_inf a ha, read_inf b hb]
    show some (compare (sgn b).toNat (sgn a).toNat) = _
    unfold key
    rw [ha, hb]
    cases sgn a <;> cases sgn b <;> rfl
theorem order_nan (a b : Nat) (h : 9218868437227405312 < rung a ∨ 9218868437227405312 < rung b) : FloatKind.f64.format.order a b = none := by
  show (Ieee.double.read a).order (Ieee.double.read b) = _
  rcases h with h | h
  · obtain ⟨s, t, hr⟩ := read_nan a h
    rw [hr]
    cases Ieee.double.read b <;> rfl
  · obtain ⟨s, t, hr⟩ := read_nan b h
    rw [hr]
    cases Ieee.double.read a <;> rfl
/-- Not a number. -/
def nan (b : Nat) : Prop := 9218868437227405312 < rung b
instance (b : Nat) : Decidable (nan b) := by unfold nan; infer_instance
/-- Where a number stands: NaN below all, the negative zero below the other. -/
def rank (b : Nat) : Int := if nan b then -100000000000000000000 else if rung b = 0 then (if sgn b then -1 else 0) else 2 * key b
theorem lt_iff (a b : Nat) : (FloatKind.f64.format.order a b == some .lt) = decide (¬ nan a ∧ ¬ nan b ∧ key a < key b) := by
  by_cases ha : nan a
  · rw [order_nan a b (.inl ha), decide_eq_false (by simp [ha])]; rfl
  by_cases hb : nan b
  · rw [order_nan a b (.inr hb), decide_eq_false (by simp [hb])]; rfl
  rw [order_key a b (by unfold nan at ha; omega) (by unfold nan at hb; omega)]
  rcases Int.lt_trichotomy (key a) (key b) with h | h | h
  · rw [cmp_lt h, decide_eq_true ⟨ha, hb, h⟩]; rfl
  · rw [cmp_eq h, decide_eq_false (by omega)]; rfl
  · rw [cmp_gt h, decide_eq_false (by omega)]; rfl
theorem gt_iff (a b : Nat) : (FloatKind.f64.format.order a b == some .gt) = decide (¬ nan a ∧ ¬ nan b ∧ key b < key a) := by
  by_cases ha : nan a
  · rw [order_nan a b (.inl ha), decide_eq_false (by simp [ha])]; rfl
  by_cases hb : nan b
  · rw [order_nan a b (.inr hb), decide_eq_false (by simp [hb])]; rfl
  rw [order_key a b (by unfold nan at ha; omega) (by unfold nan at hb; omega)]
  rcases Int.lt_trichotomy (key a) (key b) with h | h | h
  · rw [cmp_lt h, decide_eq_false (by omega)]; rfl
  · rw [cmp_eq h, decide_eq_false (by omega)]; rfl
  · rw [cmp_gt h, decide_eq_true ⟨ha, hb, h⟩]; rfl
theorem eq_iff (a b : Nat) : (FloatKind.f64.format.order a b == some .eq) = decide (¬ nan a ∧ ¬ nan b ∧ key a = key b) := by
  by_cases ha : nan a
  · rw [order_nan a b (.inl ha), decide_eq_false (by simp [ha])]; rfl
  by_cases hb : nan b
  · rw [order_nan a b (.inr hb), decide_eq_false (by simp [hb])]; rfl
  rw [order_key a b (by unfold nan at ha; omega) (by unfold nan at hb; omega)]
  rcases Int.lt_trichotomy (key a) (key b) with h | h | h
  · rw [cmp_lt h, decide_eq_false (by omega)]; rfl
  · rw [cmp_eq h, decide_eq_true ⟨ha, hb, h⟩]; rfl
  · rw [cmp_gt h, decide_eq_false (by omega)]; rfl
end Go.Proofs.Ytccjblcfnoelbaa
