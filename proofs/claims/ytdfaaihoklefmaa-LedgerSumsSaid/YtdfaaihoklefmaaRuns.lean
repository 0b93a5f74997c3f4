/- LedgerRuns. -/
import Derived.Test.YtdfaaihoklefmaaRunsP
namespace Go.Proofs.Ytdfaaihoklefmaa
open Go.ChangeShapes Go.WideShapes Go.ChangeAt Go.RowKit
set_option linter.unusedVariables false
set_option linter.unusedSimpArgs false

def FF : Nat → Nat → ByteArray × ByteArray
  | 0 => twos (g4 nStatus (b3 53 48 50) nLength ⟨#[48]⟩)
  | _ => twos (g4 nAge ⟨#[49]⟩ nVia tVia)
set_option maxHeartbeats 4000000 in
set_option maxRecDepth 100000 in
theorem runs_any (w : World) : Calls Try.prog 3 #[] w fun e w' => e = .returned (.bool true) ∧ Below w.heap.size w w' := by
  go_enter Try.func3, Try.ntmps3
  go_upto_region 2 with (first
    | (go_at_call 8; refine (of_any _ 4 4 (g4 nAge ⟨#[49]⟩ nVia tVia) _ (by decide) (rowy4 w1 _ _ (by first | rfl | go_size) _ _ _ _)).mono ?_; rintro e w2 ⟨⟨v2, rfl, hR2⟩, hB2⟩; have hR2 : Rowy w2 v2 2 2 (FV (twos (g4 nAge ⟨#[49]⟩ nVia tVia))) := hR2; obtain ⟨A2, k2, rfl, _⟩ := id hR2; have hA2 : Below w1.heap.size w1 w2 := Below.trans (by go_grown) (hB2.mono (by simp only [World.size_alloc]; omega)); have hs2 := hA2.size)
    | (go_at_call 8; refine (of_any _ 4 4 (g4 nStatus (b3 53 48 50) nLength ⟨#[48]⟩) _ (by decide) (rowy4 w _ _ (by first | rfl | go_size) _ _ _ _)).mono ?_; rintro e w1 ⟨⟨v1, rfl, hR1⟩, hB1⟩; have hR1 : Rowy w1 v1 2 2 (FV (twos (g4 nStatus (b3 53 48 50) nLength ⟨#[48]⟩))) := hR1; obtain ⟨A1, k1, rfl, _⟩ := id hR1; have hA1 : Below w.heap.size w w1 := Below.trans (by go_grown) (hB1.mono (by simp only [World.size_alloc]; omega)); have hs1 := hA1.size)
    | (go_at_call 7
       refine (sum_any _ 4 4 (T4 ⟨0, 0, 0, A1, 2, k1, ⟨#[]⟩, true, false, 0, 0⟩ ⟨0, 0, 0, A2, 2, k2, ⟨#[]⟩, true, false, 0, 0⟩ ⟨0, 0, 0, none, 0, 0, ⟨#[]⟩, false, true, 0, 0⟩ ⟨0, 0, 0, none, 0, 0, ⟨#[]⟩, false, false, 0, 0⟩) FF _ (by decide) (rowyT w2 _ (by first | rfl | go_size) ⟨0, 0, 0, A1, 2, k1, ⟨#[]⟩, true, false, 0, 0⟩ ⟨0, 0, 0, A2, 2, k2, ⟨#[]⟩, true, false, 0, 0⟩ ⟨0, 0, 0, none, 0, 0, ⟨#[]⟩, false, true, 0, 0⟩ ⟨0, 0, 0, none, 0, 0, ⟨#[]⟩, false, false, 0, 0⟩) ?_).mono ?_
       · intro i hi
         rcases (show i = 0 ∨ i = 1 ∨ i = 2 ∨ i = 3 by omega) with rfl | rfl | rfl | rfl
         · exact hR1.below (hA2.alloc (by omega) _) (Nat.le_refl _)
         · exact hR2.below (by go_grown) (Nat.le_refl _)
         · exact Tok.nil _ _ _ rfl rfl rfl
         · exact Tok.nil _ _ _ rfl rfl rfl
       rintro e w3 ⟨⟨c0, c1, c2, c3, c4, c5, rfl, hT⟩, hB3⟩
       obtain ⟨rfl, rfl, rfl, rfl, rfl, rfl⟩ := tal4 _ _ _ _ _ _ _ hT (kd0 A1 k1) (kd1 A2 k2) rfl rfl
       have hA3 : Below w.heap.size w w3 := Below.trans (Below.trans hA1 (hA2.mono (by omega))) (Below.trans (by go_grown) (hB3.mono (by simp only [World.size_alloc]; omega)))
       have hs3 := hA3.size))
  refine wp_forget (fun W => Blk W w3.heap.size 23 #[.int .i64 2, .int .i64 1, .int .i64 1, .int .i64 1, .int .i64 0, .int .i64 1] ∧ Below w.heap.size w W) ⟨Blk.new _ _ _, by go_grown⟩ fun w4 hF => ?_
  obtain ⟨HX4', hA4⟩ := hF
  have HX4 := Lib.hid HX4'
  clear HX4'
  have hs4 := hA4.size
  have hl4 := HX4.out.lt
  go_wp2_with (first
    | (go_at_call 8; refine (of_any _ 2 2 (g4 nStatus ⟨#[50, 48, 48, 48]⟩ nStatus nStatus) _ (by decide) (rowy2 w6 _ _ (by first | rfl | go_size) _ _ _ _)).mono ?_; rintro e w7 ⟨⟨v7, rfl, hR7⟩, hB7⟩; have hR7 : Rowy w7 v7 1 2 (FV (twos (g4 nStatus ⟨#[50, 48, 48, 48]⟩ nStatus nStatus))) := hR7; obtain ⟨A7, k7, rfl, _⟩ := id hR7; have HX7 := Lib.hid ((HX6.out.alloc _).below hB7 (by simp only [World.size_alloc]; omega)); have hA7 : Below w.heap.size w w7 := Below.trans (hA6.alloc (by omega) _) (hB7.mono (by simp only [World.size_alloc]; omega)); have hs7 := hA7.size; have hl7 := HX7.out.lt)
    | (go_at_call 8; refine (of_any _ 2 2 (g4 nStatus (b3 50 48 48) nStatus nStatus) _ (by decide) (rowy2 w4 _ _ (by first | rfl | go_size) _ _ _ _)).mono ?_; rintro e w5 ⟨⟨v5, rfl, hR5⟩, hB5⟩; have hR5 : Rowy w5 v5 1 2 (FV (twos (g4 nStatus (b3 50 48 48) nStatus nStatus))) := hR5; obtain ⟨A5, k5, rfl, _⟩ := id hR5; have HX5 := Lib.hid ((HX4.out.alloc _).below hB5 (by simp only [World.size_alloc]; omega)); have hA5 : Below w.heap.size w w5 := Below.trans (hA4.alloc (by omega) _) (hB5.mono (by simp only [World.size_alloc]; omega)); have hs5 := hA5.size; have hl5 := HX5.out.lt)
    | (go_at_call 9; refine (status_any ⟨0, 0, 0, none, 0, 0, ⟨#[]⟩, false, false, 0, 0⟩ (twos (g4 nStatus ⟨#[50, 48, 48, 48]⟩ nStatus nStatus)) w8 (Tok.nil _ _ _ rfl rfl rfl)).mono ?_; rintro e w9 ⟨rfl, hB9⟩; rw [show stF (fst (fv (twos (g4 nStatus ⟨#[50, 48, 48, 48]⟩ nStatus nStatus)) nStatus 0 0)) = 0 from st_nil]; have HX9 := Lib.hid (HX8.out.below hB9 (by first | omega | (simp only [World.size_alloc]; omega))); have hA9 : Below w.heap.size w w9 := Below.trans (hA8) (hB9.mono (by first | omega | (simp only [World.size_alloc]; omega))); have hs9 := hA9.size; have hl9 := HX9.out.lt; have X0 := HX9.out.cell 0; have X1 := HX9.out.cell 1; have X2 := HX9.out.cell 2; have X3 := HX9.out.cell 3; have X4 := HX9.out.cell 4; have X5 := HX9.out.cell 5; simp at X0 X1 X2 X3 X4 X5)
    | (go_at_call 9; refine (status_any ⟨0, 0, 0, A7, 1, k7, ⟨#[]⟩, false, false, 0, 0⟩ (twos (g4 nStatus ⟨#[50, 48, 48, 48]⟩ nStatus nStatus)) w7 hR7).mono ?_; rintro e w8 ⟨rfl, hB8⟩; rw [show stF (fst (fv (twos (g4 nStatus ⟨#[50, 48, 48, 48]⟩ nStatus nStatus)) nStatus 1 0)) = 0 from st_2000 _ _]; have HX8 := Lib.hid (HX7.out.below hB8 (by first | omega | (simp only [World.size_alloc]; omega))); have hA8 : Below w.heap.size w w8 := Below.trans (hA7) (hB8.mono (by first | omega | (simp only [World.size_alloc]; omega))); have hs8 := hA8.size; have hl8 := HX8.out.lt)
    | (go_at_call 9; refine (status_any ⟨0, 0, 0, A5, 1, k5, ⟨#[]⟩, false, false, 0, 0⟩ (twos (g4 nStatus (b3 50 48 48) nStatus nStatus)) w5 hR5).mono ?_; rintro e w6 ⟨rfl, hB6⟩; rw [show stF (fst (fv (twos (g4 nStatus (b3 50 48 48) nStatus nStatus)) nStatus 1 0)) = 200 from st_200 _ _]; have HX6 := Lib.hid (HX5.out.below hB6 (by first | omega | (simp only [World.size_alloc]; omega))); have hA6 : Below w.heap.size w w6 := Below.trans (hA5) (hB6.mono (by first | omega | (simp only [World.size_alloc]; omega))); have hs6 := hA6.size; have hl6 := HX6.out.lt))
  go_ret
  exact ⟨rfl, hA9⟩
end Go.Proofs.Ytdfaaihoklefmaa
