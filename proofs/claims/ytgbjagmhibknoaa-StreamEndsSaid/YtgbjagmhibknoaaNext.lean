/- The contracts of stream.Next and reservoirref9.Next: one plain function. -/
import Derived.Test.YtgbjagmhibknoaaMisc
namespace Go.Proofs.Ytgbjagmhibknoaa
open Go.ChangeShapes Go.WideShapes Go.ChangeAt Go.RowKit
set_option linter.unusedVariables false

/-- The event without its side. -/
def ev (e : Int) : Int := if 10 < e then e - 10 else e
/-- Does the event come from nowhere? -/
def bad (e : Int) : Bool := decide (e < 1) || decide (15 < e) || (decide (5 < e) && decide (e < 11))
/-- The state in which that event's mine side has ended. -/
def mine (e : Int) : Int := if 10 < e then 2 else 3
def nx (s e : Int) : Int × Bool :=
  if bad e then (s, false)
  else if s = 0 then (if ev e = 1 then (mine e, true) else if ev e = 2 then (1, true) else (0, false))
  else if s = 1 ∨ s = 2 ∨ s = 3 then
    (if ev e = 5 then (4, true) else if s = mine e then (s, false) else if ev e = 1 ∨ ev e = 3 then (if s = 1 then (mine e, true) else (4, true)) else (s, true))
  else (s, false)
def nS (s e : Int) : Int := (nx s e).1
def nB (s e : Int) : Bool := (nx s e).2

theorem nx_bad (s e : Int) (h : e < 1 ∨ 15 < e ∨ (5 < e ∧ e < 11)) : nS s e = s ∧ nB s e = false := by
  have : bad e = true := by unfold bad; simp; omega
  simp [nS, nB, nx, this]
theorem nx_far (s e : Int) (h : s < 0 ∨ 4 ≤ s) : nS s e = s ∧ nB s e = false := by
  have h0 : ¬ s = 0 := by omega
  have h1 : ¬ (s = 1 ∨ s = 2 ∨ s = 3) := by omega
  unfold nS nB nx
  by_cases hb : bad e = true
  · simp [hb]
  · simp [hb, h0, h1]


set_option maxHeartbeats 4000000 in
theorem next_some (s e : Int) (w : World) (hs0 : 0 ≤ s) (hs1 : s ≤ 4) (he : (1 ≤ e ∧ e ≤ 5) ∨ (11 ≤ e ∧ e ≤ 15)) :
    Calls Try.prog 12 #[.int .i64 s, .int .i64 e] w fun en w' => en = .returned (.tuple #[.int .i64 (nS s e), .bool (nB s e)]) ∧ w = w' := by
  have hs : s = 0 ∨ s = 1 ∨ s = 2 ∨ s = 3 ∨ s = 4 := by omega
  have he : e = 1 ∨ e = 2 ∨ e = 3 ∨ e = 4 ∨ e = 5 ∨ e = 11 ∨ e = 12 ∨ e = 13 ∨ e = 14 ∨ e = 15 := by omega
  clear hs0 hs1
  rcases hs with rfl | rfl | rfl | rfl | rfl <;> rcases he with rfl | rfl | rfl | rfl | rfl | rfl | rfl | rfl | rfl | rfl
  all_goals
    as_aux_lemma =>
      go_enter Try.func12, Try.ntmps12
      go_wp2
      go_ret2
      exact ⟨rfl, rfl⟩
set_option maxHeartbeats 4000000 in
theorem next_bad (s e : Int) (w : World) (he0 : -9223372036854775808 ≤ e) (he1 : e ≤ 9223372036854775807) (he : e < 1 ∨ 15 < e ∨ (5 < e ∧ e < 11)) :
    Calls Try.prog 12 #[.int .i64 s, .int .i64 e] w fun en w' => en = .returned (.tuple #[.int .i64 (nS s e), .bool (nB s e)]) ∧ w = w' := by
  obtain ⟨h1, h2⟩ := nx_bad s e he
  rw [h1, h2]
  clear h1 h2
  rcases he with h | h | ⟨h, h'⟩
  · go_enter Try.func12, Try.ntmps12
    go_wp2
    all_goals
      go_ret2
      exact ⟨rfl, rfl⟩
  · go_enter Try.func12, Try.ntmps12
    go_wp2
    all_goals
      go_ret2
      exact ⟨rfl, rfl⟩
  · go_enter Try.func12, Try.ntmps12
    go_wp2
    all_goals
      go_ret2
      exact ⟨rfl, rfl⟩
set_option maxHeartbeats 4000000 in
theorem next_far (s e : Int) (w : World) (hs : s < 0 ∨ 4 < s) (he : (1 ≤ e ∧ e ≤ 5) ∨ (11 ≤ e ∧ e ≤ 15)) :
    Calls Try.prog 12 #[.int .i64 s, .int .i64 e] w fun en w' => en = .returned (.tuple #[.int .i64 (nS s e), .bool (nB s e)]) ∧ w = w' := by
  obtain ⟨h1, h2⟩ := nx_far s e (by omega)
  rw [h1, h2]
  clear h1 h2
  have he : e = 1 ∨ e = 2 ∨ e = 3 ∨ e = 4 ∨ e = 5 ∨ e = 11 ∨ e = 12 ∨ e = 13 ∨ e = 14 ∨ e = 15 := by omega
  have q0 : (s == 0) = false := by simp; omega
  have q1 : (s == 1) = false := by simp; omega
  have q2 : (s == 2) = false := by simp; omega
  have q3 : (s == 3) = false := by simp; omega
  have q4 : (s == 4) = false := by simp; omega
  rcases hs with hs | hs <;> rcases he with rfl | rfl | rfl | rfl | rfl | rfl | rfl | rfl | rfl | rfl
  all_goals
    as_aux_lemma =>
      go_enter Try.func12, Try.ntmps12
      go_wp2
      all_goals
        go_ret2
        exact ⟨rfl, rfl⟩
theorem next_any (s e : Int) (w : World) (he0 : -9223372036854775808 ≤ e) (he1 : e ≤ 9223372036854775807) :
    Calls Try.prog 12 #[.int .i64 s, .int .i64 e] w fun en w' => en = .returned (.tuple #[.int .i64 (nS s e), .bool (nB s e)]) ∧ w = w' := by
  by_cases he : e < 1 ∨ 15 < e ∨ (5 < e ∧ e < 11)
  · exact next_bad s e w he0 he1 he
  by_cases hs : s < 0 ∨ 4 < s
  · exact next_far s e w hs (by omega)
  · exact next_some s e w (by omega) (by omega) (by omega)

set_option maxHeartbeats 4000000 in
theorem rnext_some (s e : Int) (w : World) (hs0 : 0 ≤ s) (hs1 : s ≤ 4) (he : (1 ≤ e ∧ e ≤ 5) ∨ (11 ≤ e ∧ e ≤ 15)) :
    Calls Try.prog 11 #[.int .i64 s, .int .i64 e] w fun en w' => en = .returned (.tuple #[.int .i64 (nS s e), .bool (nB s e)]) ∧ w = w' := by
  have hs : s = 0 ∨ s = 1 ∨ s = 2 ∨ s = 3 ∨ s = 4 := by omega
  have he : e = 1 ∨ e = 2 ∨ e = 3 ∨ e = 4 ∨ e = 5 ∨ e = 11 ∨ e = 12 ∨ e = 13 ∨ e = 14 ∨ e = 15 := by omega
  clear hs0 hs1
  rcases hs with rfl | rfl | rfl | rfl | rfl <;> rcases he with rfl | rfl | rfl | rfl | rfl | rfl | rfl | rfl | rfl | rfl
  all_goals
    as_aux_lemma =>
      go_enter Try.func11, Try.ntmps11
      go_wp2
      go_ret2
      exact ⟨rfl, rfl⟩
set_option maxHeartbeats 4000000 in
theorem rnext_bad (s e : Int) (w : World) (he0 : -9223372036854775808 ≤ e) (he1 : e ≤ 9223372036854775807) (he : e < 1 ∨ 15 < e ∨ (5 < e ∧ e < 11)) :
    Calls Try.prog 11 #[.int .i64 s, .int .i64 e] w fun en w' => en = .returned (.tuple #[.int .i64 (nS s e), .bool (nB s e)]) ∧ w = w' := by
  obtain ⟨h1, h2⟩ := nx_bad s e he
  rw [h1, h2]
  clear h1 h2
  rcases he with h | h | ⟨h, h'⟩
  · go_enter Try.func11, Try.ntmps11
    go_wp2
    all_goals
      go_ret2
      exact ⟨rfl, rfl⟩
  · go_enter Try.func11, Try.ntmps11
    go_wp2
    all_goals
      go_ret2
      exact ⟨rfl, rfl⟩
  · go_enter Try.func11, Try.ntmps11
    go_wp2
    all_goals
      go_ret2
      exact ⟨rfl, rfl⟩
set_option maxHeartbeats 4000000 in
theorem rnext_far (s e : Int) (w : World) (hs : s < 0 ∨ 4 < s) (he : (1 ≤ e ∧ e ≤ 5) ∨ (11 ≤ e ∧ e ≤ 15)) :
    Calls Try.prog 11 #[.int .i64 s, .int .i64 e] w fun en w' => en = .returned (.tuple #[.int .i64 (nS s e), .bool (nB s e)]) ∧ w = w' := by
  obtain ⟨h1, h2⟩ := nx_far s e (by omega)
  rw [h1, h2]
  clear h1 h2
  have he : e = 1 ∨ e = 2 ∨ e = 3 ∨ e = 4 ∨ e = 5 ∨ e = 11 ∨ e = 12 ∨ e = 13 ∨ e = 14 ∨ e = 15 := by omega
  have q0 : (s == 0) = false := by simp; omega
  have q1 : (s == 1) = false := by simp; omega
  have q2 : (s == 2) = false := by simp; omega
  have q3 : (s == 3) = false := by simp; omega
  have q4 : (s == 4) = false := by simp; omega
  rcases hs with hs | hs <;> rcases he with rfl | rfl | rfl | rfl | rfl | rfl | rfl | rfl | rfl | rfl
  all_goals
    as_aux_lemma =>
      go_enter Try.func11, Try.ntmps11
      go_wp2
      all_goals
        go_ret2
        exact ⟨rfl, rfl⟩
theorem rnext_any (s e : Int) (w : World) (he0 : -9223372036854775808 ≤ e) (he1 : e ≤ 9223372036854775807) :
    Calls Try.prog 11 #[.int .i64 s, .int .i64 e] w fun en w' => en = .returned (.tuple #[.int .i64 (nS s e), .bool (nB s e)]) ∧ w = w' := by
  by_cases he : e < 1 ∨ 15 < e ∨ (5 < e ∧ e < 11)
  · exact rnext_bad s e w he0 he1 he
  by_cases hs : s < 0 ∨ 4 < s
  · exact rnext_far s e w hs (by omega)
  · exact rnext_some s e w (by omega) (by omega) (by omega)
end Go.Proofs.Ytgbjagmhibknoaa
