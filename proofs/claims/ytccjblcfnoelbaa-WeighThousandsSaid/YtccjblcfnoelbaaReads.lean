/- WeighReads. -/
import Derived.Test.YtccjblcfnoelbaaRuns
import Derived.Test.YtccjblcfnoelbaaRQ
namespace Go.Proofs.Ytccjblcfnoelbaa
open Go.ChangeShapes Go.WideShapes Go.ChangeAt Go.RowKit
set_option linter.unusedVariables false
set_option linter.unusedSimpArgs false

theorem rgo_over (b : Nat → Int) (sz : Nat) : ∀ (f i : Nat) (n u : Int), u < n → rend (rgo b sz f i n u) = (0, false)
  | 0, i, n, u, h => by rw [rgo, rend, if_pos h]
  | f + 1, i, n, u, h => by
    rw [rgo]
    by_cases h1 : i < sz
    · rw [if_pos h1]
      by_cases h2 : b i < 48 ∨ 57 < b i
      · rw [if_pos h2]; rfl
      · rw [if_neg h2]
        exact rgo_over b sz f (i + 1) _ _ (by omega)
    · rw [if_neg h1, rend, if_pos h]
theorem go_one (b : Nat → Int) (sz : Nat) (h0 : b 0 = 49) : ∀ (f i : Nat) (n u : Int), n = u → 1 ≤ u → qend (qgo b sz f i n u) = rend (rgo b sz f i n u)
  | 0, i, n, u, h, _ => by rw [qgo, rgo, rend, if_neg (by omega)]; rfl
  | f + 1, i, n, u, h, hu => by
    rw [qgo, rgo]
    by_cases h1 : i < sz
    · rw [if_pos h1, if_pos h1]
      by_cases h2 : b i < 48 ∨ 57 < b i
      · rw [if_pos h2, if_pos (by omega)]; rfl
      · rw [if_neg h2]
        by_cases h3 : b i = 48
        · rw [if_neg (by omega)]
          exact go_one b sz h0 f (i + 1) _ _ (by omega) (by omega)
        · rw [if_pos (.inr (.inr ⟨h0, h3⟩)), rgo_over b sz f (i + 1) _ _ (by omega)]; rfl
    · rw [if_neg h1, if_neg h1, rend, if_neg (by omega)]; rfl
theorem go_nought (b : Nat → Int) (sz : Nat) (h0 : b 0 = 48) : ∀ (f i : Nat) (n u : Int), n < u → qend (qgo b sz f i n u) = rend (rgo b sz f i n u)
  | 0, i, n, u, h => by rw [qgo, rgo, rend, if_neg (by omega)]; rfl
  | f + 1, i, n, u, h => by
    rw [qgo, rgo]
    by_cases h1 : i < sz
    · rw [if_pos h1, if_pos h1]
      by_cases h2 : b i < 48 ∨ 57 < b i
      · rw [if_pos h2, if_pos (by omega)]; rfl
      · rw [if_neg h2, if_neg (by omega)]
        exact go_nought b sz h0 f (i + 1) _ _ (by omega)
    · rw [if_neg h1, if_neg h1, rend, if_neg (by omega)]; rfl
theorem q_r (s : ByteArray) : qv s = rv s := by
  unfold qv rv
  by_cases h : s.size < 1 ∨ 5 < s.size ∨ (bt s 0 ≠ 48 ∧ bt s 0 ≠ 49) ∨ (1 < s.size ∧ bt s 1 ≠ 46)
  · rw [if_pos h, if_pos h]
  · rw [if_neg h, if_neg h]
    rcases (show bt s 0 = 48 ∨ bt s 0 = 49 by omega) with h0 | h0
    · rw [h0]; exact go_nought _ _ h0 _ _ _ _ (by omega)
    · rw [h0]; exact go_one _ _ h0 _ _ _ _ (by omega) (by omega)
theorem fdiv_lt (n u : Int) : fdiv n u < 18446744073709551616 := by
  unfold fdiv
  cases h : FloatKind.f64.format.div (floatOfInt .f64 n) (floatOfInt .f64 u) with
  | none => decide
  | some r => exact Ieee.Format.div_lt _ h
theorem qv_lt (s : ByteArray) : (qv s).1 < 18446744073709551616 := by
  unfold qv
  split
  · decide
  · cases qgo (bt s) s.size 3 2 (bt s 0 - 48) 1 with
    | none => decide
    | some x => exact fdiv_lt _ _
set_option maxRecDepth 100000 in
theorem reads_any (s : ByteArray) (w : World) : Calls Try.prog 5 #[.string s] w fun e w' => e = .returned (.bool true) ∧ Below w.heap.size w w' := by
  have hb := qv_lt s
  have hr := q_r s
  obtain ⟨⟨x, o⟩, hx⟩ : ∃ r, qv s = r := ⟨_, rfl⟩
  rw [hx] at hb hr
  have hb : x < 18446744073709551616 := hb
  go_enter Try.func5, Try.ntmps5
  go_wp2_with (first
    | (go_at_call 12; refine (q_any _ _).mono ?_; rintro e w1 ⟨rfl, rfl⟩; rw [hx])
    | (go_at_call 25; refine (rq_any _ _).mono ?_; rintro e w1 ⟨rfl, rfl⟩; rw [← hr])
    | (go_at_call 14; refine (same_any _ _ _ hb hb).mono ?_; rintro e w1 ⟨rfl, rfl⟩; rw [decide_eq_true (rfl : rank x = rank x)])
    | (go_at_call 3; refine (runs_any _).mono ?_; rintro e w1 ⟨rfl, hB⟩))
  all_goals
    go_ret
    exact ⟨rfl, hB⟩
end Go.Proofs.Ytccjblcfnoelbaa
