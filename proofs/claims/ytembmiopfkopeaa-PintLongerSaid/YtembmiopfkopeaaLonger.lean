/- PintLonger. -/
import Derived.Test.YtembmiopfkopeaaPlainB
import Derived.Test.YtembmiopfkopeaaRuns
import Derived.Test.YtembmiopfkopeaaWit
namespace Go.Proofs.Ytembmiopfkopeaa
open Go.ChangeShapes Go.WideShapes Go.ChangeAt Go.RowKit
set_option linter.unusedVariables false
set_option linter.unusedSimpArgs false

def plen (k x : Int) : Nat := if x < pw k - 1 then 1 else 1 + tl (x - (pw k - 1))
theorem plen_pos (k x : Int) : 1 ≤ plen k x ∧ plen k x ≤ 6 := by
  have := tl_le (x - (pw k - 1))
  unfold plen; refine ⟨?_, ?_⟩ <;> split <;> omega
theorem plen_mono {k x y : Int} (h : x ≤ y) : plen k x ≤ plen k y := by
  have := tl_mono (show x - (pw k - 1) ≤ y - (pw k - 1) by omega)
  unfold plen; split <;> split <;> omega
theorem plen_wide {k x : Int} (h1 : 1 ≤ k) (h2 : k ≤ 7) : plen (k + 1) x ≤ plen k x := by
  have hp := pw_bounds h1 (show k ≤ 8 by omega)
  have := tl_mono (show x - (pw (k + 1) - 1) ≤ x - (pw k - 1) by rw [pw_succ h1 h2]; omega)
  unfold plen
  rw [pw_succ h1 h2] at this ⊢
  split <;> split <;> omega
theorem putn_any (k x : Int) (w : World) (h1 : 1 ≤ k) (h2 : k ≤ 8) (x0 : 0 ≤ x) (x1 : x ≤ 2147483647) :
    Calls Try.prog 11 #[.slice none 0 0, .int .i64 k, .int .u8 0, .int .i64 x] w fun e w' => ∃ A c, e = .returned (.slice A (plen k x) c) ∧ plen k x ≤ c ∧ c ≤ maxLen ∧ Below w.heap.size w w' :=
  (put_any _ [] k 0 x w (bs_nil _) (by simp) (by omega) (by omega) (by decide) (by decide) (by omega) (by omega)).mono fun e w' ⟨r, he, ho, hB⟩ => by
    obtain ⟨A, c, hr, l1, m1, -⟩ := bs_own ho rfl
    have e1 : ([] ++ putL k 0 x).length = plen k x := by rw [List.nil_append, put_len h1 h2 x0 x1]; rfl
    rw [e1] at hr l1
    exact ⟨A, c, by rw [he, hr], l1, m1, hB⟩

set_option maxHeartbeats 2000000 in
set_option maxRecDepth 100000 in
theorem longer_k (k x y : Int) (n a b : Int) (w : World) (hk : wit n 1 7 = k) (hx : wit a 0 2147483647 = x) (hy : wit b 0 2147483647 = y)
    (n1 : -9223372036854775808 ≤ n) (n2 : n ≤ 9223372036854775807) (a1 : -9223372036854775808 ≤ a) (a2 : a ≤ 9223372036854775807) (b1 : -9223372036854775808 ≤ b) (b2 : b ≤ 9223372036854775807) :
    Calls Try.prog 7 #[.int .i64 n, .int .i64 a, .int .i64 b] w fun e w' => e = .returned (.bool true) ∧ Below w.heap.size w w' := by
  have k1 := wit_lo n 1 7 (by decide)
  have k2 := wit_hi n 1 7 (by decide)
  have x1 := wit_lo a 0 2147483647 (by decide)
  have x2 := wit_hi a 0 2147483647 (by decide)
  have y1 := wit_lo b 0 2147483647 (by decide)
  have y2 := wit_hi b 0 2147483647 (by decide)
  rw [hk] at k1 k2
  rw [hx] at x1 x2
  rw [hy] at y1 y2
  have p1 := (plen_pos k x).1
  have p2 := (plen_pos k x).2
  have q1 := (plen_pos k y).1
  have q2 := (plen_pos k y).2
  have w1 := plen_wide (x := x) k1 k2
  have hmin : x ≤ y → plen k x ≤ plen k y := fun h => plen_mono h
  have hmax : y ≤ x → plen k y ≤ plen k x := fun h => plen_mono h
  go_enter Try.func7, Try.ntmps7
  go_upto_region 3 with (go_at_call 18; refine (wit_any _ _ _ _ (by decide) (by decide) (by decide) (by omega) (by omega)).mono ?_; rintro e w1 ⟨rfl, rfl⟩; first | rw [hk] | rw [hx] | rw [hy])
  rcases (show x ≤ y ∨ (y < x) by omega) with h | h
  · have hmm := hmin h
    go_wp2_with (first
      | (go_at_call 11; refine (putn_any _ _ _ (by omega) (by omega) (by omega) (by omega)).mono ?_; rintro e w1 ⟨A1, c1, rfl, l1, m1, hB1⟩; have hA : Below w.heap.size w w1 := Below.trans (by go_grown) (hB1.mono (by go_size)); have hs := hA.size)
      | (go_at_call 3; refine (runs_any _).mono ?_; rintro e w1 ⟨rfl, hB1⟩; have hA : Below w.heap.size w w1 := Below.trans (by go_grown) (hB1.mono (by go_size))))
    all_goals
      go_ret
      exact ⟨rfl, hA⟩
  · have hmm := hmax (by omega)
    go_wp2_with (first
      | (go_at_call 11; refine (putn_any _ _ _ (by omega) (by omega) (by omega) (by omega)).mono ?_; rintro e w1 ⟨A1, c1, rfl, l1, m1, hB1⟩; have hA : Below w.heap.size w w1 := Below.trans (by go_grown) (hB1.mono (by go_size)); have hs := hA.size)
      | (go_at_call 3; refine (runs_any _).mono ?_; rintro e w1 ⟨rfl, hB1⟩; have hA : Below w.heap.size w w1 := Below.trans (by go_grown) (hB1.mono (by go_size))))
    all_goals
      go_ret
      exact ⟨rfl, hA⟩
end Go.Proofs.Ytembmiopfkopeaa
