/- StreamRuns returns true, in whatever world. -/
import Derived.Test.YtgbjagmhibknoaaRun
namespace Go.Proofs.Ytgbjagmhibknoaa
open Go.ChangeShapes Go.WideShapes Go.ChangeAt Go.RowKit
set_option linter.unusedVariables false

theorem wrun_true (s want many : Int) (v : Value) (n : Nat) (Z : Nat → Int) (m : Nat) (w : World) (hR : Row1 w v n Z) (hst : Stops Z s n m) (h1 : st Z s m = want) (h2 : (m : Int) = many) :
    Calls Try.prog 9 #[.int .i64 s, .int .i64 want, .int .i64 many, v] w fun e w' => e = .returned (.bool true) ∧ w = w' := by
  have H1 := Lib.hid h1
  have H2 := Lib.hid h2
  have HS := Lib.hid hst
  clear h1 h2 hst
  have HR := Lib.hid hR
  clear hR
  go_enter Try.func9, Try.ntmps9
  go_wp2_with fail
  refine (run_any _ _ n Z _ HR.out).mono ?_
  rintro e w1 ⟨m', hst', rfl, rfl⟩
  obtain rfl := hst'.one HS.out
  clear hst'
  rw [H1.out, H2.out]
  go_wp2_with fail
  go_ret
  exact ⟨rfl, rfl⟩

/-- A literal row of numbers. -/
def lit (ls : List Int) : Nat → Int := fun i => ls.getD i 0
theorem row_lit (ls : List Int) (w : World) (b cap : Nat) (hb : b < w.heap.size) (hn : ls.length ≤ 100) (hz : ∀ z ∈ ls, 0 ≤ z ∧ z ≤ 100) (h : ∀ i, i < ls.length → w.cell? ⟨b, i, none⟩ = some (.int .i64 (ls.getD i 0))) :
    Row1 w (.slice (some ⟨b, 0, none⟩) ls.length cap) ls.length (lit ls) :=
  ⟨_, _, rfl, by omega, fun i hi => by
    have := hz _ (List.getElem_mem hi)
    unfold lit
    rw [List.getD_eq_getElem?_getD, List.getElem?_eq_getElem hi]
    simp; omega, fun _ => ⟨b, 0, rfl, hb, fun i hi => by rw [Nat.zero_add]; exact h i hi⟩⟩

set_option maxHeartbeats 1000000 in
set_option maxRecDepth 100000 in
theorem runs_any (w : World) : Calls Try.prog 3 #[] w fun e w' => e = .returned (.bool true) ∧ Below w.heap.size w w' := by
  go_enter Try.func3, Try.ntmps3
  go_wp2_with fail
  refine (wrun_true 0 4 4 _ 4 (lit [2, 3, 12, 13]) 4 _ (row_lit [2, 3, 12, 13] _ _ _ ?_ (by decide) (by decide) ?_) (by unfold Stops; decide) (by decide) rfl).mono ?_
  · go_simp
  · intro i hi
    match i, hi with
    | 0, _ => go_simp
    | 1, _ => go_simp
    | 2, _ => go_simp
    | 3, _ => go_simp
  rintro e w1 ⟨rfl, rfl⟩
  go_wp2_with fail
  refine (wrun_true 0 3 1 _ 2 (lit [1, 4]) 1 _ (row_lit [1, 4] _ _ _ ?_ (by decide) (by decide) ?_) (by unfold Stops; decide) (by decide) rfl).mono ?_
  · go_simp
  · intro i hi
    match i, hi with
    | 0, _ => go_simp
    | 1, _ => go_simp
  rintro e w1 ⟨rfl, rfl⟩
  go_wp2_with fail
  refine (wrun_true 0 0 0 _ 1 (lit [4]) 0 _ (row_lit [4] _ _ _ ?_ (by decide) (by decide) ?_) (by unfold Stops; decide) (by decide) rfl).mono ?_
  · go_simp
  · intro i hi
    match i, hi with
    | 0, _ => go_simp
  rintro e w1 ⟨rfl, rfl⟩
  go_wp2_with fail
  refine (wrun_true 1 4 1 _ 2 (lit [5, 5]) 1 _ (row_lit [5, 5] _ _ _ ?_ (by decide) (by decide) ?_) (by unfold Stops; decide) (by decide) rfl).mono ?_
  · go_simp
  · intro i hi
    match i, hi with
    | 0, _ => go_simp
    | 1, _ => go_simp
  rintro e w1 ⟨rfl, rfl⟩
  go_wp2_with fail
  go_ret
  exact ⟨rfl, by go_grown⟩
end Go.Proofs.Ytgbjagmhibknoaa
