/- SettingBack, the plain law: the bytes of a list of settings say the list, or its first error. -/
import Derived.Test.YtdlmocjkhkopgaaShOf
import Derived.Test.YtdlmocjkhkopgaaPut
namespace Go.Proofs.Ytdlmocjkhkopgaa.Sh
open Go.ChangeShapes Go.WideShapes Go.ChangeAt Go.RowKit
set_option linter.unusedVariables false
set_option linter.unusedSimpArgs false

theorem pb_get (Z : Nat → Nat → Int) : ∀ n i j, i < n → j < 6 → (putBytes Z n).getD (6 * i + j) 0 = (b6 (Z i 0) (Z i 1)).getD j 0
  | 0, i, j, hi, hj => absurd hi (Nat.not_lt_zero _)
  | n + 1, i, j, hi, hj => by
    unfold putBytes
    by_cases h : i < n
    · rw [List.getD_eq_getElem?_getD, List.getElem?_append_left (by rw [putBytes_len]; omega), ← List.getD_eq_getElem?_getD]
      exact pb_get Z n i j h hj
    · obtain rfl : i = n := by omega
      rw [List.getD_eq_getElem?_getD, List.getElem?_append_right (by rw [putBytes_len]; omega), putBytes_len, ← List.getD_eq_getElem?_getD, show 6 * i + j - 6 * i = j by omega]
theorem pb_byt (Z : Nat → Nat → Int) : ∀ n, Byt (putBytes Z n)
  | 0 => fun x hx => by simp [putBytes] at hx
  | n + 1 => fun x hx => by
    unfold putBytes at hx
    rcases List.mem_append.1 hx with h | h
    · exact pb_byt Z n x h
    · simp only [b6, List.mem_cons, List.mem_nil_iff, or_false] at h
      rcases h with rfl | rfl | rfl | rfl | rfl | rfl <;> omega
/-- The pair of a place. -/
def P2 (Z : Nat → Nat → Int) (i : Nat) : Int × Int := (Z i 0, Z i 1)
theorem setZ_put (Z : Nat → Nat → Int) (n i : Nat) (hi : i < n) (h0 : 0 ≤ Z i 0 ∧ Z i 0 ≤ 65535) (h1 : 0 ≤ Z i 1 ∧ Z i 1 ≤ 4294967295) : setZ (putBytes Z n) i = P2 Z i := by
  unfold setZ num P2
  rw [show 6 * i = 6 * i + 0 by omega, pb_get Z n i 0 hi (by omega), show 6 * i + 0 + 1 = 6 * i + 1 by omega, pb_get Z n i 1 hi (by omega),
    show 6 * i + 0 + 2 = 6 * i + 2 by omega, pb_get Z n i 2 hi (by omega), show 6 * i + 2 + 1 = 6 * i + 3 by omega, pb_get Z n i 3 hi (by omega),
    show 6 * i + 2 + 2 = 6 * i + 4 by omega, pb_get Z n i 4 hi (by omega), show 6 * i + 2 + 3 = 6 * i + 5 by omega, pb_get Z n i 5 hi (by omega)]
  simp only [b6, List.getD_cons_zero, List.getD_cons_succ]
  rw [Prod.mk.injEq]
  exact ⟨by omega, by omega⟩
/-- The first value that isn't right. -/
def fb (Z : Nat → Nat → Int) : Nat → Int
  | 0 => 0
  | k + 1 => if fb Z k = 0 then svalue (Z k 0) (Z k 1) else fb Z k
theorem fb_stays (Z : Nat → Nat → Int) (k : Nat) (h : fb Z k ≠ 0) : ∀ d, fb Z (k + d) = fb Z k
  | 0 => rfl
  | d + 1 => by
    rw [show k + (d + 1) = (k + d) + 1 by omega, fb, fb_stays Z k h d, if_neg h]
theorem go_put (Z : Nat → Nat → Int) (n : Nat) (hZ : ∀ i, i < n → (0 ≤ Z i 0 ∧ Z i 0 ≤ 65535) ∧ 0 ≤ Z i 1 ∧ Z i 1 ≤ 4294967295) : ∀ f i, i + f = n → fb Z i = 0 →
    setGo 4 0 0 (putBytes Z n) f i = if fb Z n = 0 then ({ PP.base 4 0 with k := flag 0 1, n := n, Z := setZ (putBytes Z n) }, okB) else (PP.zero, cB (fb Z n))
  | 0, i, hi, h0 => by
    obtain rfl : i = n := by omega
    rw [if_pos h0]; rfl
  | f + 1, i, hi, h0 => by
    have hs := setZ_put Z n i (by omega) (hZ i (by omega)).1 (hZ i (by omega)).2
    have h1 : fb Z (i + 1) = svalue (Z i 0) (Z i 1) := by rw [fb, if_pos h0]
    unfold setGo
    rw [hs]
    show (if svalue (Z i 0) (Z i 1) ≠ 0 then _ else _) = _
    by_cases h : svalue (Z i 0) (Z i 1) = 0
    · rw [if_neg (by simpa using h)]
      exact go_put Z n hZ f (i + 1) (by omega) (by rw [h1]; exact h)
    · rw [if_pos h]
      have h2 : fb Z n = svalue (Z i 0) (Z i 1) := by
        have := fb_stays Z (i + 1) (by rw [h1]; exact h) (n - (i + 1))
        rw [show i + 1 + (n - (i + 1)) = n by omega, h1] at this
        exact this
      rw [h2, if_neg h]
      rfl
theorem set_put (Z : Nat → Nat → Int) (n : Nat) (hZ : ∀ i, i < n → (0 ≤ Z i 0 ∧ Z i 0 ≤ 65535) ∧ 0 ≤ Z i 1 ∧ Z i 1 ≤ 4294967295) :
    setF 4 0 0 (putBytes Z n) = if fb Z n = 0 then ({ PP.base 4 0 with k := flag 0 1, n := n, Z := setZ (putBytes Z n) }, okB) else (PP.zero, cB (fb Z n)) := by
  unfold setF
  rw [if_neg (by rw [putBytes_len]; have : flag 0 1 = false := by kernel_rfl
                 rw [this]; simp), putBytes_len, show 6 * n / 6 = n by omega]
  exact go_put Z n hZ n 0 (by omega) rfl
theorem rows_put (Z : Nat → Nat → Int) (n : Nat) (hZ : ∀ i, i < n → (0 ≤ Z i 0 ∧ Z i 0 ≤ 65535) ∧ 0 ≤ Z i 1 ∧ Z i 1 ≤ 4294967295) :
    rowsOf (SV (setZ (putBytes Z n))) 2 n = rowsOf (SV (P2 Z)) 2 n := by
  apply List.ext_getElem?
  intro q
  by_cases hq : q < n * 2
  · rw [rows_get _ _ _ _ hq, rows_get _ _ _ _ hq]
    have hi : q / 2 < n := by omega
    unfold SV
    rw [setZ_put Z n (q / 2) hi (hZ _ hi).1 (hZ _ hi).2]
  · rw [List.getElem?_eq_none (by rw [rows_len]; omega), List.getElem?_eq_none (by rw [rows_len]; omega)]
end Go.Proofs.Ytdlmocjkhkopgaa.Sh
