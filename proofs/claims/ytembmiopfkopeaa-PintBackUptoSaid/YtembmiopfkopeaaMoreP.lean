/- PintMore: the plain law. -/
import Derived.Test.YtembmiopfkopeaaPlainB
namespace Go.Proofs.Ytembmiopfkopeaa
open Go.ChangeShapes Go.WideShapes Go.ChangeAt Go.RowKit
set_option linter.unusedVariables false
set_option linter.unusedSimpArgs false

theorem tailJ_zero (f : Nat) : tailJ f 0 0 = [0] := by cases f <;> rfl
theorem tailJ_next : ∀ (f : Nat) (x : Int) (j n : Nat), 0 ≤ x → x < 128 ^ n → 1 ≤ n → n + j ≤ f → ∃ z, 0 ≤ z ∧ z ≤ 127 ∧ (tailJ f x j).getD ((tailJ f x j).length - 1) 0 = z ∧ tailJ f x (j + 1) = (tailJ f x j).set ((tailJ f x j).length - 1) (z + 128) ++ [0]
  | 0, x, j, n, _, _, h1, h2 => by omega
  | f + 1, x, j, n, h0, hx, h1, h2 => by
    by_cases hc : x < 128 ∧ j = 0
    · obtain ⟨hx', rfl⟩ := hc
      rw [tailJ_end _ _ hx']
      refine ⟨x, h0, by omega, rfl, ?_⟩
      rw [tailJ_more _ _ _ (by omega), if_pos hx', show x % 128 = x by omega, show x / 128 = 0 by omega]
      show _ :: tailJ f 0 0 = _
      rw [tailJ_zero]
      rfl
    · have key : ∃ n', x / 128 < 128 ^ n' ∧ 1 ≤ n' ∧ n' + (if x < 128 then j - 1 else j) ≤ f := by
        by_cases hx' : x < 128
        · exact ⟨1, by simp; omega, by omega, by rw [if_pos hx']; omega⟩
        · cases n with
          | zero => omega
          | succ n =>
            refine ⟨n, Int.ediv_lt_of_lt_mul (by decide) (by rw [Int.pow_succ] at hx; exact hx), ?_, by rw [if_neg hx']; omega⟩
            cases n with
            | zero => simp at hx; omega
            | succ n => omega
      obtain ⟨n', k1, k2, k3⟩ := key
      obtain ⟨z, z0, z1, hz, hr⟩ := tailJ_next f (x / 128) (if x < 128 then j - 1 else j) n' (by omega) k1 k2 k3
      have hp := tailJ_pos f (x / 128) (if x < 128 then j - 1 else j)
      rw [tailJ_more f x j hc, tailJ_more f x (j + 1) (by omega)]
      rw [show (if x < 128 then j + 1 - 1 else j + 1) = (if x < 128 then j - 1 else j) + 1 by split <;> omega, hr]
      generalize tailJ f (x / 128) (if x < 128 then j - 1 else j) = R at *
      obtain ⟨m, hm⟩ : ∃ m, R.length = m + 1 := ⟨R.length - 1, by omega⟩
      rw [hm] at hz
      refine ⟨z, z0, z1, ?_, ?_⟩
      · rw [List.length_cons, hm, show m + 1 + 1 - 1 = m + 1 by omega]
        simpa using hz
      · rw [List.length_cons, hm, show m + 1 + 1 - 1 = m + 1 by omega, show m + 1 - 1 = m by omega, List.set_cons_succ]
        rfl
/-- A number in a prefix, j empty pieces behind. -/
def morL (k x : Int) (j : Nat) : List Int := (0 / pw k * pw k + (pw k - 1)) :: tailJ 12 (x - (pw k - 1)) j
theorem mor_next {k x : Int} (h1 : 1 ≤ k) (h2 : k ≤ 8) (x0 : pw k - 1 ≤ x) (x1 : x ≤ 2147483647) (j : Nat) (hj : j ≤ 6) :
    ∃ z, 0 ≤ z ∧ z ≤ 127 ∧ (morL k x j).getD ((morL k x j).length - 1) 0 = z ∧ morL k x (j + 1) = (morL k x j).set ((morL k x j).length - 1) (z + 128) ++ [0] := by
  have hp := pw_bounds h1 h2
  obtain ⟨z, z0, z1, hz, hr⟩ := tailJ_next 12 (x - (pw k - 1)) j 5 (by omega) (by simp; omega) (by omega) (by omega)
  have hpos := tailJ_pos 12 (x - (pw k - 1)) j
  unfold morL
  rw [hr]
  generalize tailJ 12 (x - (pw k - 1)) j = R at *
  obtain ⟨m, hm⟩ : ∃ m, R.length = m + 1 := ⟨R.length - 1, by omega⟩
  rw [hm] at hz
  refine ⟨z, z0, z1, ?_, ?_⟩
  · rw [List.length_cons, hm, show m + 1 + 1 - 1 = m + 1 by omega]
    simpa using hz
  · rw [List.length_cons, hm, show m + 1 + 1 - 1 = m + 1 by omega, show m + 1 - 1 = m by omega, List.set_cons_succ]
    rfl
theorem mor_len {k x : Int} (h1 : 1 ≤ k) (h2 : k ≤ 8) (x0 : pw k - 1 ≤ x) (x1 : x ≤ 2147483647) : ∀ j : Nat, j ≤ 7 → (morL k x j).length = 1 + tl (x - (pw k - 1)) + j
  | 0, _ => by
    have hp := pw_bounds h1 h2
    have hl : (tailJ 12 (x - (pw k - 1)) 0).length = tl (x - (pw k - 1)) := tailJ_len 7 (x - (pw k - 1)) (by omega) (by omega)
    rw [morL, List.length_cons, hl]; omega
  | j + 1, hj => by
    obtain ⟨z, _, _, _, hr⟩ := mor_next h1 h2 x0 x1 j (by omega)
    rw [hr, List.length_append, List.length_set, mor_len h1 h2 x0 x1 j (by omega)]
    rfl
theorem mor_get {k x : Int} (h1 : 1 ≤ k) (h2 : k ≤ 8) (x0 : pw k - 1 ≤ x) (x1 : x ≤ 2147483647) (j : Nat) :
    getL (morL k x j) 0 k = if (morL k x j).length ≤ 6 then (x, (((morL k x j).length : Nat) : Int), 0) else (0, 0, 2) := by
  have hp := pw_bounds h1 h2
  have hs := (sits_end [] (morL k x j)).cons
  rw [List.nil_append] at hs
  have hg : (morL k x j).getD (0 : Int).toNat 0 = 0 / pw k * pw k + (pw k - 1) := rfl
  have hpos := tailJ_pos 12 (x - (pw k - 1)) j
  have hlen : (morL k x j).length = (tailJ 12 (x - (pw k - 1)) j).length + 1 := List.length_cons
  rw [getL, if_neg (by omega), if_neg (by omega), hg, head_mod (by omega) (by omega) (by omega), if_neg (by omega)]
  by_cases h : (morL k x j).length ≤ 6
  · rw [if_pos h]
    have := gok0 (morL k x j) 12 (x - (pw k - 1)) j (pw k - 1) 1 (by omega) hs.2.2 (by omega) (by omega) (by omega) (by omega)
    show getG _ 5 _ 1 = _
    rw [this]
    simp only [Prod.mk.injEq]
    refine ⟨by omega, by omega, trivial⟩
  · rw [if_neg h]
    exact glong0 (morL k x j) 12 (x - (pw k - 1)) j (pw k - 1) 1 (by omega) hs.2.2 (by omega) (by omega) (by omega) (by omega)
theorem mor_put {k x : Int} (h1 : 1 ≤ k) (h2 : k ≤ 8) (x0 : pw k - 1 ≤ x) (x1 : x ≤ 2147483647) : putL k 0 x = morL k x 0 := by
  have hp := pw_bounds h1 h2
  exact put_big h1 h2 (by omega) x1 (by omega)
end Go.Proofs.Ytembmiopfkopeaa
