/- Put and Get: what is put is got. -/
import Derived.Test.YtembmiopfkopeaaPlain
namespace Go.Proofs.Ytembmiopfkopeaa
open Go.ChangeShapes Go.WideShapes Go.ChangeAt Go.RowKit
set_option linter.unusedVariables false
set_option linter.unusedSimpArgs false

theorem pw_bounds {k : Int} (h1 : 1 ≤ k) (h2 : k ≤ 8) : 2 ≤ pw k ∧ pw k ≤ 256 := by
  rcases pw_cases h1 h2 with ⟨rfl, e⟩ | ⟨rfl, e⟩ | ⟨rfl, e⟩ | ⟨rfl, e⟩ | ⟨rfl, e⟩ | ⟨rfl, e⟩ | ⟨rfl, e⟩ | ⟨rfl, e⟩ <;> rw [e] <;> omega
theorem pw_succ {k : Int} (h1 : 1 ≤ k) (h2 : k ≤ 7) : pw (k + 1) = 2 * pw k := by
  rcases (show k = 1 ∨ k = 2 ∨ k = 3 ∨ k = 4 ∨ k = 5 ∨ k = 6 ∨ k = 7 by omega) with rfl | rfl | rfl | rfl | rfl | rfl | rfl <;> rfl
theorem put_small {k t x : Int} (h1 : 1 ≤ k) (h2 : k ≤ 8) (x0 : 0 ≤ x) (x1 : x ≤ 2147483647) (h : x < pw k - 1) : putL k t x = [t / pw k * pw k + x] := by
  rw [putL, if_neg (by omega), if_pos h]
theorem put_big {k t x : Int} (h1 : 1 ≤ k) (h2 : k ≤ 8) (x0 : 0 ≤ x) (x1 : x ≤ 2147483647) (h : ¬ x < pw k - 1) : putL k t x = (t / pw k * pw k + (pw k - 1)) :: tailJ 12 (x - (pw k - 1)) 0 := by
  have := pw_bounds h1 h2
  rw [putL, if_neg (by omega), if_neg h, tail_J 5 12 _ (by omega) (by simp; omega) (by simp; omega)]
/-- How many pieces. -/
def tl (x : Int) : Nat := if x < 128 then 1 else if x < 16384 then 2 else if x < 2097152 then 3 else if x < 268435456 then 4 else 5
theorem tailJ_len (f : Nat) (x : Int) (h0 : 0 ≤ x) (h1 : x < 34359738368) : (tailJ (f + 5) x 0).length = tl x := by
  unfold tl
  by_cases c1 : x < 128
  · rw [tailJ_end _ _ c1, if_pos c1]; rfl
  rw [if_neg c1, tailJ_more _ _ _ (by omega), if_neg c1, List.length_cons]
  by_cases c2 : x < 16384
  · rw [tailJ_end _ _ (by omega), if_pos c2]; rfl
  rw [if_neg c2, tailJ_more _ _ _ (by omega), if_neg (by omega), List.length_cons]
  by_cases c3 : x < 2097152
  · rw [tailJ_end _ _ (by omega), if_pos c3]; rfl
  rw [if_neg c3, tailJ_more _ _ _ (by omega), if_neg (by omega), List.length_cons]
  by_cases c4 : x < 268435456
  · rw [tailJ_end _ _ (by omega), if_pos c4]; rfl
  rw [if_neg c4, tailJ_more _ _ _ (by omega), if_neg (by omega), List.length_cons, tailJ_end _ _ (by omega)]
  rfl
theorem tl_mono {x y : Int} (h : x ≤ y) : tl x ≤ tl y := by
  unfold tl
  repeat' split
  all_goals omega
theorem tl_le (x : Int) : 1 ≤ tl x ∧ tl x ≤ 5 := by unfold tl; refine ⟨?_, ?_⟩ <;> (repeat' split) <;> omega
theorem put_len {k t x : Int} (h1 : 1 ≤ k) (h2 : k ≤ 8) (x0 : 0 ≤ x) (x1 : x ≤ 2147483647) : (putL k t x).length = if x < pw k - 1 then 1 else 1 + tl (x - (pw k - 1)) := by
  have := pw_bounds h1 h2
  by_cases h : x < pw k - 1
  · rw [put_small h1 h2 x0 x1 h, if_pos h]; rfl
  · rw [put_big h1 h2 x0 x1 h, if_neg h, List.length_cons, tailJ_len 7 _ (by omega) (by omega)]; omega
theorem head_mod {t P v : Int} (hP : 0 < P) (h0 : 0 ≤ v) (h1 : v < P) : (t / P * P + v) % P = v := by
  rw [Int.add_comm, Int.add_mul_emod_self_right]
  exact Int.emod_eq_of_lt h0 h1
theorem head_div {t P v : Int} (hP : 0 < P) (h0 : 0 ≤ v) (h1 : v < P) : (t / P * P + v) / P = t / P := by
  rw [Int.add_comm, Int.add_mul_ediv_right _ _ (by omega), Int.ediv_eq_zero_of_lt h0 h1]
  omega
theorem get_head {A M B : List Int} {c : Int} : (A ++ (c :: M) ++ B).getD A.length 0 = c := by
  have := (sits_mid A (c :: M) B).cons.1
  exact this
theorem get_put (A B : List Int) {k t x : Int} (h1 : 1 ≤ k) (h2 : k ≤ 8) (x0 : 0 ≤ x) (x1 : x ≤ 2147483647) :
    getL (A ++ putL k t x ++ B) (A.length : Int) k = (x, ((A.length + (putL k t x).length : Nat) : Int), 0) := by
  have hp := pw_bounds h1 h2
  by_cases h : x < pw k - 1
  · rw [put_small h1 h2 x0 x1 h, getL]
    simp only [Int.toNat_natCast]
    rw [if_neg (by simp; omega), if_neg (by simp; omega), get_head, head_mod (by omega) x0 (by omega), if_pos h]
    simp
  · rw [put_big h1 h2 x0 x1 h, getL]
    simp only [Int.toNat_natCast]
    rw [if_neg (by simp; omega), if_neg (by simp; omega), get_head, head_mod (by omega) (by omega) (by omega), if_neg (by omega)]
    have hs := (sits_mid A ((t / pw k * pw k + (pw k - 1)) :: tailJ 12 (x - (pw k - 1)) 0) B).cons.2.2
    have hl : (tailJ 12 (x - (pw k - 1)) 0).length = tl (x - (pw k - 1)) := tailJ_len 7 (x - (pw k - 1)) (by omega) (by omega)
    have := tl_le (x - (pw k - 1))
    rw [gok0 _ 12 (x - (pw k - 1)) 0 (pw k - 1) (A.length + 1) (by omega) hs (by omega) (by omega) (by omega) (by omega)]
    simp only [List.length_cons, Prod.mk.injEq]
    refine ⟨by omega, by omega, trivial⟩
theorem get_cut (A : List Int) {k t x : Int} (h1 : 1 ≤ k) (h2 : k ≤ 8) (x0 : 0 ≤ x) (x1 : x ≤ 2147483647) (c : Nat) (c0 : A.length ≤ c) (c1 : c < A.length + (putL k t x).length) :
    getL ((A ++ putL k t x).take c) (A.length : Int) k = (0, 0, 3) := by
  have hp := pw_bounds h1 h2
  have hlen : ((A ++ putL k t x).take c).length = c := by rw [List.length_take, List.length_append]; omega
  obtain ⟨m, rfl⟩ : ∃ m, c = A.length + m := ⟨c - A.length, by omega⟩
  rw [getL, hlen]
  rw [if_neg (by omega)]
  cases m with
  | zero => rw [if_pos (by simp)]
  | succ m =>
    rw [if_neg (by omega)]
    by_cases h : x < pw k - 1
    · rw [put_small h1 h2 x0 x1 h] at c1
      simp at c1
    · have hb := put_big (t := t) h1 h2 x0 x1 h
      have ht : (A ++ putL k t x).take (A.length + (m + 1)) = A ++ ((t / pw k * pw k + (pw k - 1)) :: (tailJ 12 (x - (pw k - 1)) 0).take m) := by
        rw [hb, List.take_append, List.take_of_length_le (by omega), show A.length + (m + 1) - A.length = m + 1 by omega, List.take_succ_cons]
      rw [ht] at hlen ⊢
      simp only [Int.toNat_natCast]
      have hs := (sits_end A ((t / pw k * pw k + (pw k - 1)) :: (tailJ 12 (x - (pw k - 1)) 0).take m)).cons
      rw [hs.1, head_mod (by omega) (by omega) (by omega), if_neg (by omega)]
      have hl : (tailJ 12 (x - (pw k - 1)) 0).length = tl (x - (pw k - 1)) := tailJ_len 7 (x - (pw k - 1)) (by omega) (by omega)
      have := tl_le (x - (pw k - 1))
      rw [hb, List.length_cons] at c1
      exact gcut0 _ 12 (x - (pw k - 1)) 0 (pw k - 1) (A.length + 1) m (by omega) hs.2.2 (by omega) (by omega) (by omega) (by omega) (by omega) (by omega)
/-- Two numbers whose bytes begin alike are one. -/
theorem put_apart {k t x y : Int} (h1 : 1 ≤ k) (h2 : k ≤ 8) (x0 : 0 ≤ x) (x1 : x ≤ 2147483647) (y0 : 0 ≤ y) (y1 : y ≤ 2147483647) :
    (putL k t x).take (min (putL k t x).length (putL k t y).length) = (putL k t y).take (min (putL k t x).length (putL k t y).length) ↔ x = y := by
  constructor
  · intro h
    have gx := get_put [] ((putL k t y).drop (putL k t x).length) (t := t) h1 h2 x0 x1
    have gy := get_put [] ((putL k t x).drop (putL k t y).length) (t := t) h1 h2 y0 y1
    have ex := get_put [] [] (t := t) h1 h2 x0 x1
    have ey := get_put [] [] (t := t) h1 h2 y0 y1
    simp only [List.nil_append, List.append_nil] at gx gy ex ey
    rcases Nat.le_total (putL k t x).length (putL k t y).length with hl | hl
    · rw [Nat.min_eq_left hl, List.take_of_length_le (Nat.le_refl _)] at h
      have e : putL k t x ++ (putL k t y).drop (putL k t x).length = putL k t y := by
        conv => lhs; lhs; rw [h]
        rw [List.take_append_drop]
      rw [e, ey] at gx
      simp only [Prod.mk.injEq] at gx
      exact gx.1.symm
    · rw [Nat.min_eq_right hl, List.take_of_length_le (l := putL k t y) (Nat.le_refl _)] at h
      have e : putL k t y ++ (putL k t x).drop (putL k t y).length = putL k t x := by
        conv => lhs; lhs; rw [← h]
        rw [List.take_append_drop]
      rw [e, ex] at gy
      simp only [Prod.mk.injEq] at gy
      exact gy.1
  · rintro rfl; rfl
end Go.Proofs.Ytembmiopfkopeaa
