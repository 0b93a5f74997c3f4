/- WindowBounded. -/
import Derived.Test.YthkkdhjippnkfaaRuns
import Derived.Test.YthkkdhjippnkfaaOpen
import Derived.Deep.Cut
import Derived.Deep.RegionHeld3
namespace Go.Proofs.Ythkkdhjippnkfaa
open Go.ChangeShapes Go.WideShapes Go.ChangeAt Go.RowKit
set_option linter.unusedVariables false

set_option maxHeartbeats 20000000 in
set_option maxRecDepth 100000 in
theorem bounded_any (n : Int) (v : Value) (len : Nat) (Z : Nat → Nat → Int) (w : World) (hn0 : -9223372036854775808 ≤ n) (hn1 : n ≤ 9223372036854775807) (hR : Rowy w v len 3 (fun i j => .int .i64 (Z i j))) (hZ : ∀ i j, i < len → j < 3 → -9223372036854775808 ≤ Z i j ∧ Z i j ≤ 9223372036854775807) :
    Calls Try.prog 5 #[.int .i64 n, v] w fun e w' => e = .returned (.bool true) ∧ Below w.heap.size w w' := by
  obtain ⟨A, cap, rfl, hlc, hcm, hcell⟩ := hR
  unfold maxLen at hcm
  have HC := Lib.hid hcell
  have HZ := Lib.hid hZ
  clear hcell hZ
  have hlen : len ≤ 9223372036854775807 := by omega
  go_enter Try.func5, Try.ntmps5
  go_wp2_with fail
  refine (wit_ex _ _ _ _ (by omega) (by omega) (by omega) hn0 hn1).mono ?_
  rintro e w1 ⟨l0, h0, h1, rfl, rfl⟩
  go_wp2_with (go_at_call 9; refine (of_yes _ _ (by omega) (by omega)).mono ?_; rintro e w1 ⟨rfl, rfl⟩)
  refine wp_forget (fun W => W.cell? ⟨w.heap.size + 1 + 1 + 1, 0, none⟩ = some (.int .i64 l0) ∧ W.frozen? ⟨w.heap.size + 1 + 1 + 1, 0, none⟩ = false ∧ w.heap.size + 1 + 1 + 1 < W.heap.size ∧ Below w.heap.size w W) ⟨by go_simp, by go_simp, by go_size, by go_grown⟩ ?_
  rintro W ⟨g1, g2, g3, g4⟩
  have hbw : w.heap.size ≤ w.heap.size + 1 + 1 + 1 := by omega
  generalize w.heap.size + 1 + 1 + 1 = bw at *
  go_loopw [6] (fun i wr => ∃ (k : Nat) (l : Int), k ≤ len ∧ k ≤ 100 ∧ i = .int .i64 k ∧ -2147483647 ≤ l ∧ l ≤ 2147483647 ∧ wr.cell? ⟨bw, 0, none⟩ = some (.int .i64 l) ∧ wr.frozen? ⟨bw, 0, none⟩ = false ∧ bw < wr.heap.size ∧ Below w.heap.size w wr) (fun i _ => 100 - (intOf i).toNat)
  case atStart => exact ⟨0, l0, Nat.zero_le _, Nat.zero_le _, rfl, by omega, h1, g1, g2, g3, g4⟩
  case round =>
    obtain ⟨k, l, hk, hk2, rfl, hl0, hl1, hcl, hfr, hbs, hB⟩ := hrel
    have hBs : w.heap.size ≤ wr.heap.size := hB.size
    by_cases hlt : k < len ∧ k < 100
    · obtain ⟨hlt1, hlt2⟩ := hlt
      obtain ⟨b, off, rfl, hb, hcell⟩ := HC.out (by omega)
      have hcc : ∀ j, j < 3 → wr.cell? ⟨b, off + (k * 3 + j), none⟩ = some (.int .i64 (Z k j)) := fun j hj => by
        rw [hB.cell (p := ⟨b, _, none⟩) hb]; exact hcell k j hlt1 hj
      have hc0 := hcc 0 (by omega)
      have hc1 := hcc 1 (by omega)
      have hc2 := hcc 2 (by omega)
      obtain ⟨p0, q0⟩ := HZ.out k 0 hlt1 (by omega)
      obtain ⟨p1, q1⟩ := HZ.out k 1 hlt1 (by omega)
      obtain ⟨p2, q2⟩ := HZ.out k 2 hlt1 (by omega)
      have hki : (k : Int) < (len : Int) := by omega
      have hki0 : 0 ≤ (k : Int) := by omega
      have hne : b ≠ bw := by omega
      clear hcell hcc
      generalize Z k 0 = z0 at *
      generalize Z k 1 = z1 at *
      generalize Z k 2 = z2 at *
      simp only [Nat.add_zero, ← Nat.add_assoc] at hc0 hc1 hc2
      have s1 : bw < wr.heap.size + 1 := by omega
      have s2 : bw < wr.heap.size + 1 + 1 := by omega
      have s3 : bw < wr.heap.size + 1 + 1 + 1 := by omega
      have s4 : bw < wr.heap.size + 1 + 1 + 1 + 1 := by omega
      have s5 : bw < wr.heap.size + 1 + 1 + 1 + 1 + 1 := by omega
      have s6 : bw < wr.heap.size + 1 + 1 + 1 + 1 + 1 + 1 := by omega
      have s7 : bw < wr.heap.size + 1 + 1 + 1 + 1 + 1 + 1 + 1 := by omega
      have s8 : bw < wr.heap.size + 1 + 1 + 1 + 1 + 1 + 1 + 1 + 1 := by omega
      have s9 : bw < wr.heap.size + 1 + 1 + 1 + 1 + 1 + 1 + 1 + 1 + 1 := by omega
      have s10 : bw < wr.heap.size + 1 + 1 + 1 + 1 + 1 + 1 + 1 + 1 + 1 + 1 := by omega
      have s11 : bw < wr.heap.size + 1 + 1 + 1 + 1 + 1 + 1 + 1 + 1 + 1 + 1 + 1 := by omega
      have t0 : b < wr.heap.size := by omega
      have t1 : b < wr.heap.size + 1 := by omega
      have t2 : b < wr.heap.size + 1 + 1 := by omega
      have t3 : b < wr.heap.size + 1 + 1 + 1 := by omega
      have t4 : b < wr.heap.size + 1 + 1 + 1 + 1 := by omega
      have t5 : b < wr.heap.size + 1 + 1 + 1 + 1 + 1 := by omega
      have t6 : b < wr.heap.size + 1 + 1 + 1 + 1 + 1 + 1 := by omega
      have t7 : b < wr.heap.size + 1 + 1 + 1 + 1 + 1 + 1 + 1 := by omega
      have t8 : b < wr.heap.size + 1 + 1 + 1 + 1 + 1 + 1 + 1 + 1 := by omega
      have t9 : b < wr.heap.size + 1 + 1 + 1 + 1 + 1 + 1 + 1 + 1 + 1 := by omega
      have t10 : b < wr.heap.size + 1 + 1 + 1 + 1 + 1 + 1 + 1 + 1 + 1 + 1 := by omega
      have t11 : b < wr.heap.size + 1 + 1 + 1 + 1 + 1 + 1 + 1 + 1 + 1 + 1 + 1 := by omega
      by_cases hk1 : z0 = 1
      · subst hk1
        by_cases d0 : z1 < 0
        · go_wp2_with (first
            | (go_at_call 11; refine (credit_yes _ _ _ (by omega) (by omega) (by omega) (by omega) (by omega)).mono ?_; rintro e w1 ⟨rfl, rfl⟩)
            | (go_at_call 11; refine (credit_no _ _ _ (by omega) (by omega) (by omega)).mono ?_; rintro e w1 ⟨rfl, rfl⟩)
            | (go_at_call 10; refine (take_yes _ _ _ (by omega) (by omega) (by omega)).mono ?_; rintro e w1 ⟨rfl, rfl⟩)
            | (go_at_call 10; refine (take_no _ _ _ (by omega)).mono ?_; rintro e w1 ⟨rfl, rfl⟩)
            | (go_at_call 12; refine (shift_yes _ _ _ _ (by omega) (by omega) (by omega) (by omega) (by omega) (by omega) (by omega) (by omega)).mono ?_; rintro e w1 ⟨rfl, rfl⟩)
            | (go_at_call 12; refine (shift_no _ _ _ _ (by omega) (by omega) (by omega)).mono ?_; rintro e w1 ⟨rfl, rfl⟩)
            | (go_at_call 14; refine (left_any _ _).mono ?_; rintro e w1 ⟨rfl, rfl⟩))
          go_region_held3 (fun w' => w'.cell? ⟨bw, 0, none⟩ = some (.int .i64 l) ∧ w'.cell? ⟨b, off + k * 3 + 1, none⟩ = some (.int .i64 z1)) ((refine ⟨?_, ?_⟩ <;> go_simp)) (first
            | (go_at_call 11; refine (credit_yes _ _ _ (by omega) (by omega) (by omega) (by omega) (by omega)).mono ?_; rintro e w1 ⟨rfl, rfl⟩)
            | (go_at_call 11; refine (credit_no _ _ _ (by omega) (by omega) (by omega)).mono ?_; rintro e w1 ⟨rfl, rfl⟩)
            | (go_at_call 10; refine (take_yes _ _ _ (by omega) (by omega) (by omega)).mono ?_; rintro e w1 ⟨rfl, rfl⟩)
            | (go_at_call 10; refine (take_no _ _ _ (by omega)).mono ?_; rintro e w1 ⟨rfl, rfl⟩)
            | (go_at_call 12; refine (shift_yes _ _ _ _ (by omega) (by omega) (by omega) (by omega) (by omega) (by omega) (by omega) (by omega)).mono ?_; rintro e w1 ⟨rfl, rfl⟩)
            | (go_at_call 12; refine (shift_no _ _ _ _ (by omega) (by omega) (by omega)).mono ?_; rintro e w1 ⟨rfl, rfl⟩)
            | (go_at_call 14; refine (left_any _ _).mono ?_; rintro e w1 ⟨rfl, rfl⟩))
          go_wp2_with (first
            | (go_at_call 11; refine (credit_yes _ _ _ (by omega) (by omega) (by omega) (by omega) (by omega)).mono ?_; rintro e w1 ⟨rfl, rfl⟩)
            | (go_at_call 11; refine (credit_no _ _ _ (by omega) (by omega) (by omega)).mono ?_; rintro e w1 ⟨rfl, rfl⟩)
            | (go_at_call 10; refine (take_yes _ _ _ (by omega) (by omega) (by omega)).mono ?_; rintro e w1 ⟨rfl, rfl⟩)
            | (go_at_call 10; refine (take_no _ _ _ (by omega)).mono ?_; rintro e w1 ⟨rfl, rfl⟩)
            | (go_at_call 12; refine (shift_yes _ _ _ _ (by omega) (by omega) (by omega) (by omega) (by omega) (by omega) (by omega) (by omega)).mono ?_; rintro e w1 ⟨rfl, rfl⟩)
            | (go_at_call 12; refine (shift_no _ _ _ _ (by omega) (by omega) (by omega)).mono ?_; rintro e w1 ⟨rfl, rfl⟩)
            | (go_at_call 14; refine (left_any _ _).mono ?_; rintro e w1 ⟨rfl, rfl⟩))
          all_goals
            go_roundw
            case rel => exact ⟨k + 1, l, by omega, by omega, by go_num, by omega, by omega, by go_simp, by go_simp, by go_size, by go_grown⟩
            case measure => simp [intOf]; omega
        by_cases d1 : 2147483647 < z1
        · go_wp2_with (first
            | (go_at_call 11; refine (credit_yes _ _ _ (by omega) (by omega) (by omega) (by omega) (by omega)).mono ?_; rintro e w1 ⟨rfl, rfl⟩)
            | (go_at_call 11; refine (credit_no _ _ _ (by omega) (by omega) (by omega)).mono ?_; rintro e w1 ⟨rfl, rfl⟩)
            | (go_at_call 10; refine (take_yes _ _ _ (by omega) (by omega) (by omega)).mono ?_; rintro e w1 ⟨rfl, rfl⟩)
            | (go_at_call 10; refine (take_no _ _ _ (by omega)).mono ?_; rintro e w1 ⟨rfl, rfl⟩)
            | (go_at_call 12; refine (shift_yes _ _ _ _ (by omega) (by omega) (by omega) (by omega) (by omega) (by omega) (by omega) (by omega)).mono ?_; rintro e w1 ⟨rfl, rfl⟩)
            | (go_at_call 12; refine (shift_no _ _ _ _ (by omega) (by omega) (by omega)).mono ?_; rintro e w1 ⟨rfl, rfl⟩)
            | (go_at_call 14; refine (left_any _ _).mono ?_; rintro e w1 ⟨rfl, rfl⟩))
          go_region_held3 (fun w' => w'.cell? ⟨bw, 0, none⟩ = some (.int .i64 l) ∧ w'.cell? ⟨b, off + k * 3 + 1, none⟩ = some (.int .i64 z1)) ((refine ⟨?_, ?_⟩ <;> go_simp)) (first
            | (go_at_call 11; refine (credit_yes _ _ _ (by omega) (by omega) (by omega) (by omega) (by omega)).mono ?_; rintro e w1 ⟨rfl, rfl⟩)
            | (go_at_call 11; refine (credit_no _ _ _ (by omega) (by omega) (by omega)).mono ?_; rintro e w1 ⟨rfl, rfl⟩)
            | (go_at_call 10; refine (take_yes _ _ _ (by omega) (by omega) (by omega)).mono ?_; rintro e w1 ⟨rfl, rfl⟩)
            | (go_at_call 10; refine (take_no _ _ _ (by omega)).mono ?_; rintro e w1 ⟨rfl, rfl⟩)
            | (go_at_call 12; refine (shift_yes _ _ _ _ (by omega) (by omega) (by omega) (by omega) (by omega) (by omega) (by omega) (by omega)).mono ?_; rintro e w1 ⟨rfl, rfl⟩)
            | (go_at_call 12; refine (shift_no _ _ _ _ (by omega) (by omega) (by omega)).mono ?_; rintro e w1 ⟨rfl, rfl⟩)
            | (go_at_call 14; refine (left_any _ _).mono ?_; rintro e w1 ⟨rfl, rfl⟩))
          go_wp2_with (first
            | (go_at_call 11; refine (credit_yes _ _ _ (by omega) (by omega) (by omega) (by omega) (by omega)).mono ?_; rintro e w1 ⟨rfl, rfl⟩)
            | (go_at_call 11; refine (credit_no _ _ _ (by omega) (by omega) (by omega)).mono ?_; rintro e w1 ⟨rfl, rfl⟩)
            | (go_at_call 10; refine (take_yes _ _ _ (by omega) (by omega) (by omega)).mono ?_; rintro e w1 ⟨rfl, rfl⟩)
            | (go_at_call 10; refine (take_no _ _ _ (by omega)).mono ?_; rintro e w1 ⟨rfl, rfl⟩)
            | (go_at_call 12; refine (shift_yes _ _ _ _ (by omega) (by omega) (by omega) (by omega) (by omega) (by omega) (by omega) (by omega)).mono ?_; rintro e w1 ⟨rfl, rfl⟩)
            | (go_at_call 12; refine (shift_no _ _ _ _ (by omega) (by omega) (by omega)).mono ?_; rintro e w1 ⟨rfl, rfl⟩)
            | (go_at_call 14; refine (left_any _ _).mono ?_; rintro e w1 ⟨rfl, rfl⟩))
          all_goals
            go_roundw
            case rel => exact ⟨k + 1, l, by omega, by omega, by go_num, by omega, by omega, by go_simp, by go_simp, by go_size, by go_grown⟩
            case measure => simp [intOf]; omega
        by_cases d2 : 2147483647 < l + z1
        · go_wp2_with (first
            | (go_at_call 11; refine (credit_yes _ _ _ (by omega) (by omega) (by omega) (by omega) (by omega)).mono ?_; rintro e w1 ⟨rfl, rfl⟩)
            | (go_at_call 11; refine (credit_no _ _ _ (by omega) (by omega) (by omega)).mono ?_; rintro e w1 ⟨rfl, rfl⟩)
            | (go_at_call 10; refine (take_yes _ _ _ (by omega) (by omega) (by omega)).mono ?_; rintro e w1 ⟨rfl, rfl⟩)
            | (go_at_call 10; refine (take_no _ _ _ (by omega)).mono ?_; rintro e w1 ⟨rfl, rfl⟩)
            | (go_at_call 12; refine (shift_yes _ _ _ _ (by omega) (by omega) (by omega) (by omega) (by omega) (by omega) (by omega) (by omega)).mono ?_; rintro e w1 ⟨rfl, rfl⟩)
            | (go_at_call 12; refine (shift_no _ _ _ _ (by omega) (by omega) (by omega)).mono ?_; rintro e w1 ⟨rfl, rfl⟩)
            | (go_at_call 14; refine (left_any _ _).mono ?_; rintro e w1 ⟨rfl, rfl⟩))
          go_region_held3 (fun w' => w'.cell? ⟨bw, 0, none⟩ = some (.int .i64 l) ∧ w'.cell? ⟨b, off + k * 3 + 1, none⟩ = some (.int .i64 z1)) ((refine ⟨?_, ?_⟩ <;> go_simp)) (first
            | (go_at_call 11; refine (credit_yes _ _ _ (by omega) (by omega) (by omega) (by omega) (by omega)).mono ?_; rintro e w1 ⟨rfl, rfl⟩)
            | (go_at_call 11; refine (credit_no _ _ _ (by omega) (by omega) (by omega)).mono ?_; rintro e w1 ⟨rfl, rfl⟩)
            | (go_at_call 10; refine (take_yes _ _ _ (by omega) (by omega) (by omega)).mono ?_; rintro e w1 ⟨rfl, rfl⟩)
            | (go_at_call 10; refine (take_no _ _ _ (by omega)).mono ?_; rintro e w1 ⟨rfl, rfl⟩)
            | (go_at_call 12; refine (shift_yes _ _ _ _ (by omega) (by omega) (by omega) (by omega) (by omega) (by omega) (by omega) (by omega)).mono ?_; rintro e w1 ⟨rfl, rfl⟩)
            | (go_at_call 12; refine (shift_no _ _ _ _ (by omega) (by omega) (by omega)).mono ?_; rintro e w1 ⟨rfl, rfl⟩)
            | (go_at_call 14; refine (left_any _ _).mono ?_; rintro e w1 ⟨rfl, rfl⟩))
          go_wp2_with (first
            | (go_at_call 11; refine (credit_yes _ _ _ (by omega) (by omega) (by omega) (by omega) (by omega)).mono ?_; rintro e w1 ⟨rfl, rfl⟩)
            | (go_at_call 11; refine (credit_no _ _ _ (by omega) (by omega) (by omega)).mono ?_; rintro e w1 ⟨rfl, rfl⟩)
            | (go_at_call 10; refine (take_yes _ _ _ (by omega) (by omega) (by omega)).mono ?_; rintro e w1 ⟨rfl, rfl⟩)
            | (go_at_call 10; refine (take_no _ _ _ (by omega)).mono ?_; rintro e w1 ⟨rfl, rfl⟩)
            | (go_at_call 12; refine (shift_yes _ _ _ _ (by omega) (by omega) (by omega) (by omega) (by omega) (by omega) (by omega) (by omega)).mono ?_; rintro e w1 ⟨rfl, rfl⟩)
            | (go_at_call 12; refine (shift_no _ _ _ _ (by omega) (by omega) (by omega)).mono ?_; rintro e w1 ⟨rfl, rfl⟩)
            | (go_at_call 14; refine (left_any _ _).mono ?_; rintro e w1 ⟨rfl, rfl⟩))
          all_goals
            go_roundw
            case rel => exact ⟨k + 1, l, by omega, by omega, by go_num, by omega, by omega, by go_simp, by go_simp, by go_size, by go_grown⟩
            case measure => simp [intOf]; omega
        go_wp2_with (first
          | (go_at_call 11; refine (credit_yes _ _ _ (by omega) (by omega) (by omega) (by omega) (by omega)).mono ?_; rintro e w1 ⟨rfl, rfl⟩)
          | (go_at_call 11; refine (credit_no _ _ _ (by omega) (by omega) (by omega)).mono ?_; rintro e w1 ⟨rfl, rfl⟩)
          | (go_at_call 10; refine (take_yes _ _ _ (by omega) (by omega) (by omega)).mono ?_; rintro e w1 ⟨rfl, rfl⟩)
          | (go_at_call 10; refine (take_no _ _ _ (by omega)).mono ?_; rintro e w1 ⟨rfl, rfl⟩)
          | (go_at_call 12; refine (shift_yes _ _ _ _ (by omega) (by omega) (by omega) (by omega) (by omega) (by omega) (by omega) (by omega)).mono ?_; rintro e w1 ⟨rfl, rfl⟩)
          | (go_at_call 12; refine (shift_no _ _ _ _ (by omega) (by omega) (by omega)).mono ?_; rintro e w1 ⟨rfl, rfl⟩)
          | (go_at_call 14; refine (left_any _ _).mono ?_; rintro e w1 ⟨rfl, rfl⟩))
        go_region_held3 (fun w' => w'.cell? ⟨bw, 0, none⟩ = some (.int .i64 l) ∧ w'.cell? ⟨b, off + k * 3 + 1, none⟩ = some (.int .i64 z1)) ((refine ⟨?_, ?_⟩ <;> go_simp)) (first
          | (go_at_call 11; refine (credit_yes _ _ _ (by omega) (by omega) (by omega) (by omega) (by omega)).mono ?_; rintro e w1 ⟨rfl, rfl⟩)
          | (go_at_call 11; refine (credit_no _ _ _ (by omega) (by omega) (by omega)).mono ?_; rintro e w1 ⟨rfl, rfl⟩)
          | (go_at_call 10; refine (take_yes _ _ _ (by omega) (by omega) (by omega)).mono ?_; rintro e w1 ⟨rfl, rfl⟩)
          | (go_at_call 10; refine (take_no _ _ _ (by omega)).mono ?_; rintro e w1 ⟨rfl, rfl⟩)
          | (go_at_call 12; refine (shift_yes _ _ _ _ (by omega) (by omega) (by omega) (by omega) (by omega) (by omega) (by omega) (by omega)).mono ?_; rintro e w1 ⟨rfl, rfl⟩)
          | (go_at_call 12; refine (shift_no _ _ _ _ (by omega) (by omega) (by omega)).mono ?_; rintro e w1 ⟨rfl, rfl⟩)
          | (go_at_call 14; refine (left_any _ _).mono ?_; rintro e w1 ⟨rfl, rfl⟩))
        go_wp2_with (first
          | (go_at_call 11; refine (credit_yes _ _ _ (by omega) (by omega) (by omega) (by omega) (by omega)).mono ?_; rintro e w1 ⟨rfl, rfl⟩)
          | (go_at_call 11; refine (credit_no _ _ _ (by omega) (by omega) (by omega)).mono ?_; rintro e w1 ⟨rfl, rfl⟩)
          | (go_at_call 10; refine (take_yes _ _ _ (by omega) (by omega) (by omega)).mono ?_; rintro e w1 ⟨rfl, rfl⟩)
          | (go_at_call 10; refine (take_no _ _ _ (by omega)).mono ?_; rintro e w1 ⟨rfl, rfl⟩)
          | (go_at_call 12; refine (shift_yes _ _ _ _ (by omega) (by omega) (by omega) (by omega) (by omega) (by omega) (by omega) (by omega)).mono ?_; rintro e w1 ⟨rfl, rfl⟩)
          | (go_at_call 12; refine (shift_no _ _ _ _ (by omega) (by omega) (by omega)).mono ?_; rintro e w1 ⟨rfl, rfl⟩)
          | (go_at_call 14; refine (left_any _ _).mono ?_; rintro e w1 ⟨rfl, rfl⟩))
        all_goals
          go_roundw
          case rel => exact ⟨k + 1, l + z1, by omega, by omega, by go_num, by omega, by omega, by go_simp, by go_simp, by go_size, by go_grown⟩
          case measure => simp [intOf]; omega
      by_cases hk2' : z0 = 2
      · subst hk2'
        by_cases d0 : z1 < 0
        · go_wp2_with (first
            | (go_at_call 11; refine (credit_yes _ _ _ (by omega) (by omega) (by omega) (by omega) (by omega)).mono ?_; rintro e w1 ⟨rfl, rfl⟩)
            | (go_at_call 11; refine (credit_no _ _ _ (by omega) (by omega) (by omega)).mono ?_; rintro e w1 ⟨rfl, rfl⟩)
            | (go_at_call 10; refine (take_yes _ _ _ (by omega) (by omega) (by omega)).mono ?_; rintro e w1 ⟨rfl, rfl⟩)
            | (go_at_call 10; refine (take_no _ _ _ (by omega)).mono ?_; rintro e w1 ⟨rfl, rfl⟩)
            | (go_at_call 12; refine (shift_yes _ _ _ _ (by omega) (by omega) (by omega) (by omega) (by omega) (by omega) (by omega) (by omega)).mono ?_; rintro e w1 ⟨rfl, rfl⟩)
            | (go_at_call 12; refine (shift_no _ _ _ _ (by omega) (by omega) (by omega)).mono ?_; rintro e w1 ⟨rfl, rfl⟩)
            | (go_at_call 14; refine (left_any _ _).mono ?_; rintro e w1 ⟨rfl, rfl⟩))
          go_region_held3 (fun w' => w'.cell? ⟨bw, 0, none⟩ = some (.int .i64 l) ∧ w'.cell? ⟨b, off + k * 3 + 1, none⟩ = some (.int .i64 z1)) ((refine ⟨?_, ?_⟩ <;> go_simp)) (first
            | (go_at_call 11; refine (credit_yes _ _ _ (by omega) (by omega) (by omega) (by omega) (by omega)).mono ?_; rintro e w1 ⟨rfl, rfl⟩)
            | (go_at_call 11; refine (credit_no _ _ _ (by omega) (by omega) (by omega)).mono ?_; rintro e w1 ⟨rfl, rfl⟩)
            | (go_at_call 10; refine (take_yes _ _ _ (by omega) (by omega) (by omega)).mono ?_; rintro e w1 ⟨rfl, rfl⟩)
            | (go_at_call 10; refine (take_no _ _ _ (by omega)).mono ?_; rintro e w1 ⟨rfl, rfl⟩)
            | (go_at_call 12; refine (shift_yes _ _ _ _ (by omega) (by omega) (by omega) (by omega) (by omega) (by omega) (by omega) (by omega)).mono ?_; rintro e w1 ⟨rfl, rfl⟩)
            | (go_at_call 12; refine (shift_no _ _ _ _ (by omega) (by omega) (by omega)).mono ?_; rintro e w1 ⟨rfl, rfl⟩)
            | (go_at_call 14; refine (left_any _ _).mono ?_; rintro e w1 ⟨rfl, rfl⟩))
          go_wp2_with (first
            | (go_at_call 11; refine (credit_yes _ _ _ (by omega) (by omega) (by omega) (by omega) (by omega)).mono ?_; rintro e w1 ⟨rfl, rfl⟩)
            | (go_at_call 11; refine (credit_no _ _ _ (by omega) (by omega) (by omega)).mono ?_; rintro e w1 ⟨rfl, rfl⟩)
            | (go_at_call 10; refine (take_yes _ _ _ (by omega) (by omega) (by omega)).mono ?_; rintro e w1 ⟨rfl, rfl⟩)
            | (go_at_call 10; refine (take_no _ _ _ (by omega)).mono ?_; rintro e w1 ⟨rfl, rfl⟩)
            | (go_at_call 12; refine (shift_yes _ _ _ _ (by omega) (by omega) (by omega) (by omega) (by omega) (by omega) (by omega) (by omega)).mono ?_; rintro e w1 ⟨rfl, rfl⟩)
            | (go_at_call 12; refine (shift_no _ _ _ _ (by omega) (by omega) (by omega)).mono ?_; rintro e w1 ⟨rfl, rfl⟩)
            | (go_at_call 14; refine (left_any _ _).mono ?_; rintro e w1 ⟨rfl, rfl⟩))
          all_goals
            go_roundw
            case rel => exact ⟨k + 1, l, by omega, by omega, by go_num, by omega, by omega, by go_simp, by go_simp, by go_size, by go_grown⟩
            case measure => simp [intOf]; omega
        by_cases d1 : l < z1
        · go_wp2_with (first
            | (go_at_call 11; refine (credit_yes _ _ _ (by omega) (by omega) (by omega) (by omega) (by omega)).mono ?_; rintro e w1 ⟨rfl, rfl⟩)
            | (go_at_call 11; refine (credit_no _ _ _ (by omega) (by omega) (by omega)).mono ?_; rintro e w1 ⟨rfl, rfl⟩)
            | (go_at_call 10; refine (take_yes _ _ _ (by omega) (by omega) (by omega)).mono ?_; rintro e w1 ⟨rfl, rfl⟩)
            | (go_at_call 10; refine (take_no _ _ _ (by omega)).mono ?_; rintro e w1 ⟨rfl, rfl⟩)
            | (go_at_call 12; refine (shift_yes _ _ _ _ (by omega) (by omega) (by omega) (by omega) (by omega) (by omega) (by omega) (by omega)).mono ?_; rintro e w1 ⟨rfl, rfl⟩)
            | (go_at_call 12; refine (shift_no _ _ _ _ (by omega) (by omega) (by omega)).mono ?_; rintro e w1 ⟨rfl, rfl⟩)
            | (go_at_call 14; refine (left_any _ _).mono ?_; rintro e w1 ⟨rfl, rfl⟩))
          go_region_held3 (fun w' => w'.cell? ⟨bw, 0, none⟩ = some (.int .i64 l) ∧ w'.cell? ⟨b, off + k * 3 + 1, none⟩ = some (.int .i64 z1)) ((refine ⟨?_, ?_⟩ <;> go_simp)) (first
            | (go_at_call 11; refine (credit_yes _ _ _ (by omega) (by omega) (by omega) (by omega) (by omega)).mono ?_; rintro e w1 ⟨rfl, rfl⟩)
            | (go_at_call 11; refine (credit_no _ _ _ (by omega) (by omega) (by omega)).mono ?_; rintro e w1 ⟨rfl, rfl⟩)
            | (go_at_call 10; refine (take_yes _ _ _ (by omega) (by omega) (by omega)).mono ?_; rintro e w1 ⟨rfl, rfl⟩)
            | (go_at_call 10; refine (take_no _ _ _ (by omega)).mono ?_; rintro e w1 ⟨rfl, rfl⟩)
            | (go_at_call 12; refine (shift_yes _ _ _ _ (by omega) (by omega) (by omega) (by omega) (by omega) (by omega) (by omega) (by omega)).mono ?_; rintro e w1 ⟨rfl, rfl⟩)
            | (go_at_call 12; refine (shift_no _ _ _ _ (by omega) (by omega) (by omega)).mono ?_; rintro e w1 ⟨rfl, rfl⟩)
            | (go_at_call 14; refine (left_any _ _).mono ?_; rintro e w1 ⟨rfl, rfl⟩))
          go_wp2_with (first
            | (go_at_call 11; refine (credit_yes _ _ _ (by omega) (by omega) (by omega) (by omega) (by omega)).mono ?_; rintro e w1 ⟨rfl, rfl⟩)
            | (go_at_call 11; refine (credit_no _ _ _ (by omega) (by omega) (by omega)).mono ?_; rintro e w1 ⟨rfl, rfl⟩)
            | (go_at_call 10; refine (take_yes _ _ _ (by omega) (by omega) (by omega)).mono ?_; rintro e w1 ⟨rfl, rfl⟩)
            | (go_at_call 10; refine (take_no _ _ _ (by omega)).mono ?_; rintro e w1 ⟨rfl, rfl⟩)
            | (go_at_call 12; refine (shift_yes _ _ _ _ (by omega) (by omega) (by omega) (by omega) (by omega) (by omega) (by omega) (by omega)).mono ?_; rintro e w1 ⟨rfl, rfl⟩)
            | (go_at_call 12; refine (shift_no _ _ _ _ (by omega) (by omega) (by omega)).mono ?_; rintro e w1 ⟨rfl, rfl⟩)
            | (go_at_call 14; refine (left_any _ _).mono ?_; rintro e w1 ⟨rfl, rfl⟩))
          all_goals
            go_roundw
            case rel => exact ⟨k + 1, l, by omega, by omega, by go_num, by omega, by omega, by go_simp, by go_simp, by go_size, by go_grown⟩
            case measure => simp [intOf]; omega
        go_wp2_with (first
          | (go_at_call 11; refine (credit_yes _ _ _ (by omega) (by omega) (by omega) (by omega) (by omega)).mono ?_; rintro e w1 ⟨rfl, rfl⟩)
          | (go_at_call 11; refine (credit_no _ _ _ (by omega) (by omega) (by omega)).mono ?_; rintro e w1 ⟨rfl, rfl⟩)
          | (go_at_call 10; refine (take_yes _ _ _ (by omega) (by omega) (by omega)).mono ?_; rintro e w1 ⟨rfl, rfl⟩)
          | (go_at_call 10; refine (take_no _ _ _ (by omega)).mono ?_; rintro e w1 ⟨rfl, rfl⟩)
          | (go_at_call 12; refine (shift_yes _ _ _ _ (by omega) (by omega) (by omega) (by omega) (by omega) (by omega) (by omega) (by omega)).mono ?_; rintro e w1 ⟨rfl, rfl⟩)
          | (go_at_call 12; refine (shift_no _ _ _ _ (by omega) (by omega) (by omega)).mono ?_; rintro e w1 ⟨rfl, rfl⟩)
          | (go_at_call 14; refine (left_any _ _).mono ?_; rintro e w1 ⟨rfl, rfl⟩))
        go_region_held3 (fun w' => w'.cell? ⟨bw, 0, none⟩ = some (.int .i64 l) ∧ w'.cell? ⟨b, off + k * 3 + 1, none⟩ = some (.int .i64 z1)) ((refine ⟨?_, ?_⟩ <;> go_simp)) (first
          | (go_at_call 11; refine (credit_yes _ _ _ (by omega) (by omega) (by omega) (by omega) (by omega)).mono ?_; rintro e w1 ⟨rfl, rfl⟩)
          | (go_at_call 11; refine (credit_no _ _ _ (by omega) (by omega) (by omega)).mono ?_; rintro e w1 ⟨rfl, rfl⟩)
          | (go_at_call 10; refine (take_yes _ _ _ (by omega) (by omega) (by omega)).mono ?_; rintro e w1 ⟨rfl, rfl⟩)
          | (go_at_call 10; refine (take_no _ _ _ (by omega)).mono ?_; rintro e w1 ⟨rfl, rfl⟩)
          | (go_at_call 12; refine (shift_yes _ _ _ _ (by omega) (by omega) (by omega) (by omega) (by omega) (by omega) (by omega) (by omega)).mono ?_; rintro e w1 ⟨rfl, rfl⟩)
          | (go_at_call 12; refine (shift_no _ _ _ _ (by omega) (by omega) (by omega)).mono ?_; rintro e w1 ⟨rfl, rfl⟩)
          | (go_at_call 14; refine (left_any _ _).mono ?_; rintro e w1 ⟨rfl, rfl⟩))
        go_wp2_with (first
          | (go_at_call 11; refine (credit_yes _ _ _ (by omega) (by omega) (by omega) (by omega) (by omega)).mono ?_; rintro e w1 ⟨rfl, rfl⟩)
          | (go_at_call 11; refine (credit_no _ _ _ (by omega) (by omega) (by omega)).mono ?_; rintro e w1 ⟨rfl, rfl⟩)
          | (go_at_call 10; refine (take_yes _ _ _ (by omega) (by omega) (by omega)).mono ?_; rintro e w1 ⟨rfl, rfl⟩)
          | (go_at_call 10; refine (take_no _ _ _ (by omega)).mono ?_; rintro e w1 ⟨rfl, rfl⟩)
          | (go_at_call 12; refine (shift_yes _ _ _ _ (by omega) (by omega) (by omega) (by omega) (by omega) (by omega) (by omega) (by omega)).mono ?_; rintro e w1 ⟨rfl, rfl⟩)
          | (go_at_call 12; refine (shift_no _ _ _ _ (by omega) (by omega) (by omega)).mono ?_; rintro e w1 ⟨rfl, rfl⟩)
          | (go_at_call 14; refine (left_any _ _).mono ?_; rintro e w1 ⟨rfl, rfl⟩))
        all_goals
          go_roundw
          case rel => exact ⟨k + 1, l - z1, by omega, by omega, by go_num, by omega, by omega, by go_simp, by go_simp, by go_size, by go_grown⟩
          case measure => simp [intOf]; omega
      · have hb1 : (z0 == 1) = false := by simp; exact hk1
        have hb2 : (z0 == 2) = false := by simp; exact hk2'
        clear hk1 hk2'
        by_cases d0 : z2 < 0
        · go_wp2_with (first
            | (go_at_call 11; refine (credit_yes _ _ _ (by omega) (by omega) (by omega) (by omega) (by omega)).mono ?_; rintro e w1 ⟨rfl, rfl⟩)
            | (go_at_call 11; refine (credit_no _ _ _ (by omega) (by omega) (by omega)).mono ?_; rintro e w1 ⟨rfl, rfl⟩)
            | (go_at_call 10; refine (take_yes _ _ _ (by omega) (by omega) (by omega)).mono ?_; rintro e w1 ⟨rfl, rfl⟩)
            | (go_at_call 10; refine (take_no _ _ _ (by omega)).mono ?_; rintro e w1 ⟨rfl, rfl⟩)
            | (go_at_call 12; refine (shift_yes _ _ _ _ (by omega) (by omega) (by omega) (by omega) (by omega) (by omega) (by omega) (by omega)).mono ?_; rintro e w1 ⟨rfl, rfl⟩)
            | (go_at_call 12; refine (shift_no _ _ _ _ (by omega) (by omega) (by omega)).mono ?_; rintro e w1 ⟨rfl, rfl⟩)
            | (go_at_call 14; refine (left_any _ _).mono ?_; rintro e w1 ⟨rfl, rfl⟩))
          go_region_held3 (fun w' => w'.cell? ⟨bw, 0, none⟩ = some (.int .i64 l) ∧ w'.cell? ⟨b, off + k * 3 + 1, none⟩ = some (.int .i64 z1) ∧ w'.cell? ⟨b, off + k * 3 + 2, none⟩ = some (.int .i64 z2)) ((refine ⟨?_, ?_, ?_⟩ <;> go_simp)) (first
            | (go_at_call 11; refine (credit_yes _ _ _ (by omega) (by omega) (by omega) (by omega) (by omega)).mono ?_; rintro e w1 ⟨rfl, rfl⟩)
            | (go_at_call 11; refine (credit_no _ _ _ (by omega) (by omega) (by omega)).mono ?_; rintro e w1 ⟨rfl, rfl⟩)
            | (go_at_call 10; refine (take_yes _ _ _ (by omega) (by omega) (by omega)).mono ?_; rintro e w1 ⟨rfl, rfl⟩)
            | (go_at_call 10; refine (take_no _ _ _ (by omega)).mono ?_; rintro e w1 ⟨rfl, rfl⟩)
            | (go_at_call 12; refine (shift_yes _ _ _ _ (by omega) (by omega) (by omega) (by omega) (by omega) (by omega) (by omega) (by omega)).mono ?_; rintro e w1 ⟨rfl, rfl⟩)
            | (go_at_call 12; refine (shift_no _ _ _ _ (by omega) (by omega) (by omega)).mono ?_; rintro e w1 ⟨rfl, rfl⟩)
            | (go_at_call 14; refine (left_any _ _).mono ?_; rintro e w1 ⟨rfl, rfl⟩))
          go_wp2_with (first
            | (go_at_call 11; refine (credit_yes _ _ _ (by omega) (by omega) (by omega) (by omega) (by omega)).mono ?_; rintro e w1 ⟨rfl, rfl⟩)
            | (go_at_call 11; refine (credit_no _ _ _ (by omega) (by omega) (by omega)).mono ?_; rintro e w1 ⟨rfl, rfl⟩)
            | (go_at_call 10; refine (take_yes _ _ _ (by omega) (by omega) (by omega)).mono ?_; rintro e w1 ⟨rfl, rfl⟩)
            | (go_at_call 10; refine (take_no _ _ _ (by omega)).mono ?_; rintro e w1 ⟨rfl, rfl⟩)
            | (go_at_call 12; refine (shift_yes _ _ _ _ (by omega) (by omega) (by omega) (by omega) (by omega) (by omega) (by omega) (by omega)).mono ?_; rintro e w1 ⟨rfl, rfl⟩)
            | (go_at_call 12; refine (shift_no _ _ _ _ (by omega) (by omega) (by omega)).mono ?_; rintro e w1 ⟨rfl, rfl⟩)
            | (go_at_call 14; refine (left_any _ _).mono ?_; rintro e w1 ⟨rfl, rfl⟩))
          all_goals
            go_roundw
            case rel => exact ⟨k + 1, l, by omega, by omega, by go_num, by omega, by omega, by go_simp, by go_simp, by go_size, by go_grown⟩
            case measure => simp [intOf]; omega
        by_cases d1 : 2147483647 < z2
        · go_wp2_with (first
            | (go_at_call 11; refine (credit_yes _ _ _ (by omega) (by omega) (by omega) (by omega) (by omega)).mono ?_; rintro e w1 ⟨rfl, rfl⟩)
            | (go_at_call 11; refine (credit_no _ _ _ (by omega) (by omega) (by omega)).mono ?_; rintro e w1 ⟨rfl, rfl⟩)
            | (go_at_call 10; refine (take_yes _ _ _ (by omega) (by omega) (by omega)).mono ?_; rintro e w1 ⟨rfl, rfl⟩)
            | (go_at_call 10; refine (take_no _ _ _ (by omega)).mono ?_; rintro e w1 ⟨rfl, rfl⟩)
            | (go_at_call 12; refine (shift_yes _ _ _ _ (by omega) (by omega) (by omega) (by omega) (by omega) (by omega) (by omega) (by omega)).mono ?_; rintro e w1 ⟨rfl, rfl⟩)
            | (go_at_call 12; refine (shift_no _ _ _ _ (by omega) (by omega) (by omega)).mono ?_; rintro e w1 ⟨rfl, rfl⟩)
            | (go_at_call 14; refine (left_any _ _).mono ?_; rintro e w1 ⟨rfl, rfl⟩))
          go_region_held3 (fun w' => w'.cell? ⟨bw, 0, none⟩ = some (.int .i64 l) ∧ w'.cell? ⟨b, off + k * 3 + 1, none⟩ = some (.int .i64 z1) ∧ w'.cell? ⟨b, off + k * 3 + 2, none⟩ = some (.int .i64 z2)) ((refine ⟨?_, ?_, ?_⟩ <;> go_simp)) (first
            | (go_at_call 11; refine (credit_yes _ _ _ (by omega) (by omega) (by omega) (by omega) (by omega)).mono ?_; rintro e w1 ⟨rfl, rfl⟩)
            | (go_at_call 11; refine (credit_no _ _ _ (by omega) (by omega) (by omega)).mono ?_; rintro e w1 ⟨rfl, rfl⟩)
            | (go_at_call 10; refine (take_yes _ _ _ (by omega) (by omega) (by omega)).mono ?_; rintro e w1 ⟨rfl, rfl⟩)
            | (go_at_call 10; refine (take_no _ _ _ (by omega)).mono ?_; rintro e w1 ⟨rfl, rfl⟩)
            | (go_at_call 12; refine (shift_yes _ _ _ _ (by omega) (by omega) (by omega) (by omega) (by omega) (by omega) (by omega) (by omega)).mono ?_; rintro e w1 ⟨rfl, rfl⟩)
            | (go_at_call 12; refine (shift_no _ _ _ _ (by omega) (by omega) (by omega)).mono ?_; rintro e w1 ⟨rfl, rfl⟩)
            | (go_at_call 14; refine (left_any _ _).mono ?_; rintro e w1 ⟨rfl, rfl⟩))
          go_wp2_with (first
            | (go_at_call 11; refine (credit_yes _ _ _ (by omega) (by omega) (by omega) (by omega) (by omega)).mono ?_; rintro e w1 ⟨rfl, rfl⟩)
            | (go_at_call 11; refine (credit_no _ _ _ (by omega) (by omega) (by omega)).mono ?_; rintro e w1 ⟨rfl, rfl⟩)
            | (go_at_call 10; refine (take_yes _ _ _ (by omega) (by omega) (by omega)).mono ?_; rintro e w1 ⟨rfl, rfl⟩)
            | (go_at_call 10; refine (take_no _ _ _ (by omega)).mono ?_; rintro e w1 ⟨rfl, rfl⟩)
            | (go_at_call 12; refine (shift_yes _ _ _ _ (by omega) (by omega) (by omega) (by omega) (by omega) (by omega) (by omega) (by omega)).mono ?_; rintro e w1 ⟨rfl, rfl⟩)
            | (go_at_call 12; refine (shift_no _ _ _ _ (by omega) (by omega) (by omega)).mono ?_; rintro e w1 ⟨rfl, rfl⟩)
            | (go_at_call 14; refine (left_any _ _).mono ?_; rintro e w1 ⟨rfl, rfl⟩))
          all_goals
            go_roundw
            case rel => exact ⟨k + 1, l, by omega, by omega, by go_num, by omega, by omega, by go_simp, by go_simp, by go_size, by go_grown⟩
            case measure => simp [intOf]; omega
        by_cases d2 : z1 < 0
        · go_wp2_with (first
            | (go_at_call 11; refine (credit_yes _ _ _ (by omega) (by omega) (by omega) (by omega) (by omega)).mono ?_; rintro e w1 ⟨rfl, rfl⟩)
            | (go_at_call 11; refine (credit_no _ _ _ (by omega) (by omega) (by omega)).mono ?_; rintro e w1 ⟨rfl, rfl⟩)
            | (go_at_call 10; refine (take_yes _ _ _ (by omega) (by omega) (by omega)).mono ?_; rintro e w1 ⟨rfl, rfl⟩)
            | (go_at_call 10; refine (take_no _ _ _ (by omega)).mono ?_; rintro e w1 ⟨rfl, rfl⟩)
            | (go_at_call 12; refine (shift_yes _ _ _ _ (by omega) (by omega) (by omega) (by omega) (by omega) (by omega) (by omega) (by omega)).mono ?_; rintro e w1 ⟨rfl, rfl⟩)
            | (go_at_call 12; refine (shift_no _ _ _ _ (by omega) (by omega) (by omega)).mono ?_; rintro e w1 ⟨rfl, rfl⟩)
            | (go_at_call 14; refine (left_any _ _).mono ?_; rintro e w1 ⟨rfl, rfl⟩))
          go_region_held3 (fun w' => w'.cell? ⟨bw, 0, none⟩ = some (.int .i64 l) ∧ w'.cell? ⟨b, off + k * 3 + 1, none⟩ = some (.int .i64 z1) ∧ w'.cell? ⟨b, off + k * 3 + 2, none⟩ = some (.int .i64 z2)) ((refine ⟨?_, ?_, ?_⟩ <;> go_simp)) (first
            | (go_at_call 11; refine (credit_yes _ _ _ (by omega) (by omega) (by omega) (by omega) (by omega)).mono ?_; rintro e w1 ⟨rfl, rfl⟩)
            | (go_at_call 11; refine (credit_no _ _ _ (by omega) (by omega) (by omega)).mono ?_; rintro e w1 ⟨rfl, rfl⟩)
            | (go_at_call 10; refine (take_yes _ _ _ (by omega) (by omega) (by omega)).mono ?_; rintro e w1 ⟨rfl, rfl⟩)
            | (go_at_call 10; refine (take_no _ _ _ (by omega)).mono ?_; rintro e w1 ⟨rfl, rfl⟩)
            | (go_at_call 12; refine (shift_yes _ _ _ _ (by omega) (by omega) (by omega) (by omega) (by omega) (by omega) (by omega) (by omega)).mono ?_; rintro e w1 ⟨rfl, rfl⟩)
            | (go_at_call 12; refine (shift_no _ _ _ _ (by omega) (by omega) (by omega)).mono ?_; rintro e w1 ⟨rfl, rfl⟩)
            | (go_at_call 14; refine (left_any _ _).mono ?_; rintro e w1 ⟨rfl, rfl⟩))
          go_wp2_with (first
            | (go_at_call 11; refine (credit_yes _ _ _ (by omega) (by omega) (by omega) (by omega) (by omega)).mono ?_; rintro e w1 ⟨rfl, rfl⟩)
            | (go_at_call 11; refine (credit_no _ _ _ (by omega) (by omega) (by omega)).mono ?_; rintro e w1 ⟨rfl, rfl⟩)
            | (go_at_call 10; refine (take_yes _ _ _ (by omega) (by omega) (by omega)).mono ?_; rintro e w1 ⟨rfl, rfl⟩)
            | (go_at_call 10; refine (take_no _ _ _ (by omega)).mono ?_; rintro e w1 ⟨rfl, rfl⟩)
            | (go_at_call 12; refine (shift_yes _ _ _ _ (by omega) (by omega) (by omega) (by omega) (by omega) (by omega) (by omega) (by omega)).mono ?_; rintro e w1 ⟨rfl, rfl⟩)
            | (go_at_call 12; refine (shift_no _ _ _ _ (by omega) (by omega) (by omega)).mono ?_; rintro e w1 ⟨rfl, rfl⟩)
            | (go_at_call 14; refine (left_any _ _).mono ?_; rintro e w1 ⟨rfl, rfl⟩))
          all_goals
            go_roundw
            case rel => exact ⟨k + 1, l, by omega, by omega, by go_num, by omega, by omega, by go_simp, by go_simp, by go_size, by go_grown⟩
            case measure => simp [intOf]; omega
        by_cases d3 : 2147483647 < z1
        · go_wp2_with (first
            | (go_at_call 11; refine (credit_yes _ _ _ (by omega) (by omega) (by omega) (by omega) (by omega)).mono ?_; rintro e w1 ⟨rfl, rfl⟩)
            | (go_at_call 11; refine (credit_no _ _ _ (by omega) (by omega) (by omega)).mono ?_; rintro e w1 ⟨rfl, rfl⟩)
            | (go_at_call 10; refine (take_yes _ _ _ (by omega) (by omega) (by omega)).mono ?_; rintro e w1 ⟨rfl, rfl⟩)
            | (go_at_call 10; refine (take_no _ _ _ (by omega)).mono ?_; rintro e w1 ⟨rfl, rfl⟩)
            | (go_at_call 12; refine (shift_yes _ _ _ _ (by omega) (by omega) (by omega) (by omega) (by omega) (by omega) (by omega) (by omega)).mono ?_; rintro e w1 ⟨rfl, rfl⟩)
            | (go_at_call 12; refine (shift_no _ _ _ _ (by omega) (by omega) (by omega)).mono ?_; rintro e w1 ⟨rfl, rfl⟩)
            | (go_at_call 14; refine (left_any _ _).mono ?_; rintro e w1 ⟨rfl, rfl⟩))
          go_region_held3 (fun w' => w'.cell? ⟨bw, 0, none⟩ = some (.int .i64 l) ∧ w'.cell? ⟨b, off + k * 3 + 1, none⟩ = some (.int .i64 z1) ∧ w'.cell? ⟨b, off + k * 3 + 2, none⟩ = some (.int .i64 z2)) ((refine ⟨?_, ?_, ?_⟩ <;> go_simp)) (first
            | (go_at_call 11; refine (credit_yes _ _ _ (by omega) (by omega) (by omega) (by omega) (by omega)).mono ?_; rintro e w1 ⟨rfl, rfl⟩)
            | (go_at_call 11; refine (credit_no _ _ _ (by omega) (by omega) (by omega)).mono ?_; rintro e w1 ⟨rfl, rfl⟩)
            | (go_at_call 10; refine (take_yes _ _ _ (by omega) (by omega) (by omega)).mono ?_; rintro e w1 ⟨rfl, rfl⟩)
            | (go_at_call 10; refine (take_no _ _ _ (by omega)).mono ?_; rintro e w1 ⟨rfl, rfl⟩)
            | (go_at_call 12; refine (shift_yes _ _ _ _ (by omega) (by omega) (by omega) (by omega) (by omega) (by omega) (by omega) (by omega)).mono ?_; rintro e w1 ⟨rfl, rfl⟩)
            | (go_at_call 12; refine (shift_no _ _ _ _ (by omega) (by omega) (by omega)).mono ?_; rintro e w1 ⟨rfl, rfl⟩)
            | (go_at_call 14; refine (left_any _ _).mono ?_; rintro e w1 ⟨rfl, rfl⟩))
          go_wp2_with (first
            | (go_at_call 11; refine (credit_yes _ _ _ (by omega) (by omega) (by omega) (by omega) (by omega)).mono ?_; rintro e w1 ⟨rfl, rfl⟩)
            | (go_at_call 11; refine (credit_no _ _ _ (by omega) (by omega) (by omega)).mono ?_; rintro e w1 ⟨rfl, rfl⟩)
            | (go_at_call 10; refine (take_yes _ _ _ (by omega) (by omega) (by omega)).mono ?_; rintro e w1 ⟨rfl, rfl⟩)
            | (go_at_call 10; refine (take_no _ _ _ (by omega)).mono ?_; rintro e w1 ⟨rfl, rfl⟩)
            | (go_at_call 12; refine (shift_yes _ _ _ _ (by omega) (by omega) (by omega) (by omega) (by omega) (by omega) (by omega) (by omega)).mono ?_; rintro e w1 ⟨rfl, rfl⟩)
            | (go_at_call 12; refine (shift_no _ _ _ _ (by omega) (by omega) (by omega)).mono ?_; rintro e w1 ⟨rfl, rfl⟩)
            | (go_at_call 14; refine (left_any _ _).mono ?_; rintro e w1 ⟨rfl, rfl⟩))
          all_goals
            go_roundw
            case rel => exact ⟨k + 1, l, by omega, by omega, by go_num, by omega, by omega, by go_simp, by go_simp, by go_size, by go_grown⟩
            case measure => simp [intOf]; omega
        by_cases d4 : 2147483647 < l + z1 - z2
        · go_wp2_with (first
            | (go_at_call 11; refine (credit_yes _ _ _ (by omega) (by omega) (by omega) (by omega) (by omega)).mono ?_; rintro e w1 ⟨rfl, rfl⟩)
            | (go_at_call 11; refine (credit_no _ _ _ (by omega) (by omega) (by omega)).mono ?_; rintro e w1 ⟨rfl, rfl⟩)
            | (go_at_call 10; refine (take_yes _ _ _ (by omega) (by omega) (by omega)).mono ?_; rintro e w1 ⟨rfl, rfl⟩)
            | (go_at_call 10; refine (take_no _ _ _ (by omega)).mono ?_; rintro e w1 ⟨rfl, rfl⟩)
            | (go_at_call 12; refine (shift_yes _ _ _ _ (by omega) (by omega) (by omega) (by omega) (by omega) (by omega) (by omega) (by omega)).mono ?_; rintro e w1 ⟨rfl, rfl⟩)
            | (go_at_call 12; refine (shift_no _ _ _ _ (by omega) (by omega) (by omega)).mono ?_; rintro e w1 ⟨rfl, rfl⟩)
            | (go_at_call 14; refine (left_any _ _).mono ?_; rintro e w1 ⟨rfl, rfl⟩))
          go_region_held3 (fun w' => w'.cell? ⟨bw, 0, none⟩ = some (.int .i64 l) ∧ w'.cell? ⟨b, off + k * 3 + 1, none⟩ = some (.int .i64 z1) ∧ w'.cell? ⟨b, off + k * 3 + 2, none⟩ = some (.int .i64 z2)) ((refine ⟨?_, ?_, ?_⟩ <;> go_simp)) (first
            | (go_at_call 11; refine (credit_yes _ _ _ (by omega) (by omega) (by omega) (by omega) (by omega)).mono ?_; rintro e w1 ⟨rfl, rfl⟩)
            | (go_at_call 11; refine (credit_no _ _ _ (by omega) (by omega) (by omega)).mono ?_; rintro e w1 ⟨rfl, rfl⟩)
            | (go_at_call 10; refine (take_yes _ _ _ (by omega) (by omega) (by omega)).mono ?_; rintro e w1 ⟨rfl, rfl⟩)
            | (go_at_call 10; refine (take_no _ _ _ (by omega)).mono ?_; rintro e w1 ⟨rfl, rfl⟩)
            | (go_at_call 12; refine (shift_yes _ _ _ _ (by omega) (by omega) (by omega) (by omega) (by omega) (by omega) (by omega) (by omega)).mono ?_; rintro e w1 ⟨rfl, rfl⟩)
            | (go_at_call 12; refine (shift_no _ _ _ _ (by omega) (by omega) (by omega)).mono ?_; rintro e w1 ⟨rfl, rfl⟩)
            | (go_at_call 14; refine (left_any _ _).mono ?_; rintro e w1 ⟨rfl, rfl⟩))
          go_wp2_with (first
            | (go_at_call 11; refine (credit_yes _ _ _ (by omega) (by omega) (by omega) (by omega) (by omega)).mono ?_; rintro e w1 ⟨rfl, rfl⟩)
            | (go_at_call 11; refine (credit_no _ _ _ (by omega) (by omega) (by omega)).mono ?_; rintro e w1 ⟨rfl, rfl⟩)
            | (go_at_call 10; refine (take_yes _ _ _ (by omega) (by omega) (by omega)).mono ?_; rintro e w1 ⟨rfl, rfl⟩)
            | (go_at_call 10; refine (take_no _ _ _ (by omega)).mono ?_; rintro e w1 ⟨rfl, rfl⟩)
            | (go_at_call 12; refine (shift_yes _ _ _ _ (by omega) (by omega) (by omega) (by omega) (by omega) (by omega) (by omega) (by omega)).mono ?_; rintro e w1 ⟨rfl, rfl⟩)
            | (go_at_call 12; refine (shift_no _ _ _ _ (by omega) (by omega) (by omega)).mono ?_; rintro e w1 ⟨rfl, rfl⟩)
            | (go_at_call 14; refine (left_any _ _).mono ?_; rintro e w1 ⟨rfl, rfl⟩))
          all_goals
            go_roundw
            case rel => exact ⟨k + 1, l, by omega, by omega, by go_num, by omega, by omega, by go_simp, by go_simp, by go_size, by go_grown⟩
            case measure => simp [intOf]; omega
        by_cases d5 : l + z1 - z2 < -2147483647
        · go_wp2_with (first
            | (go_at_call 11; refine (credit_yes _ _ _ (by omega) (by omega) (by omega) (by omega) (by omega)).mono ?_; rintro e w1 ⟨rfl, rfl⟩)
            | (go_at_call 11; refine (credit_no _ _ _ (by omega) (by omega) (by omega)).mono ?_; rintro e w1 ⟨rfl, rfl⟩)
            | (go_at_call 10; refine (take_yes _ _ _ (by omega) (by omega) (by omega)).mono ?_; rintro e w1 ⟨rfl, rfl⟩)
            | (go_at_call 10; refine (take_no _ _ _ (by omega)).mono ?_; rintro e w1 ⟨rfl, rfl⟩)
            | (go_at_call 12; refine (shift_yes _ _ _ _ (by omega) (by omega) (by omega) (by omega) (by omega) (by omega) (by omega) (by omega)).mono ?_; rintro e w1 ⟨rfl, rfl⟩)
            | (go_at_call 12; refine (shift_no _ _ _ _ (by omega) (by omega) (by omega)).mono ?_; rintro e w1 ⟨rfl, rfl⟩)
            | (go_at_call 14; refine (left_any _ _).mono ?_; rintro e w1 ⟨rfl, rfl⟩))
          go_region_held3 (fun w' => w'.cell? ⟨bw, 0, none⟩ = some (.int .i64 l) ∧ w'.cell? ⟨b, off + k * 3 + 1, none⟩ = some (.int .i64 z1) ∧ w'.cell? ⟨b, off + k * 3 + 2, none⟩ = some (.int .i64 z2)) ((refine ⟨?_, ?_, ?_⟩ <;> go_simp)) (first
            | (go_at_call 11; refine (credit_yes _ _ _ (by omega) (by omega) (by omega) (by omega) (by omega)).mono ?_; rintro e w1 ⟨rfl, rfl⟩)
            | (go_at_call 11; refine (credit_no _ _ _ (by omega) (by omega) (by omega)).mono ?_; rintro e w1 ⟨rfl, rfl⟩)
            | (go_at_call 10; refine (take_yes _ _ _ (by omega) (by omega) (by omega)).mono ?_; rintro e w1 ⟨rfl, rfl⟩)
            | (go_at_call 10; refine (take_no _ _ _ (by omega)).mono ?_; rintro e w1 ⟨rfl, rfl⟩)
            | (go_at_call 12; refine (shift_yes _ _ _ _ (by omega) (by omega) (by omega) (by omega) (by omega) (by omega) (by omega) (by omega)).mono ?_; rintro e w1 ⟨rfl, rfl⟩)
            | (go_at_call 12; refine (shift_no _ _ _ _ (by omega) (by omega) (by omega)).mono ?_; rintro e w1 ⟨rfl, rfl⟩)
            | (go_at_call 14; refine (left_any _ _).mono ?_; rintro e w1 ⟨rfl, rfl⟩))
          go_wp2_with (first
            | (go_at_call 11; refine (credit_yes _ _ _ (by omega) (by omega) (by omega) (by omega) (by omega)).mono ?_; rintro e w1 ⟨rfl, rfl⟩)
            | (go_at_call 11; refine (credit_no _ _ _ (by omega) (by omega) (by omega)).mono ?_; rintro e w1 ⟨rfl, rfl⟩)
            | (go_at_call 10; refine (take_yes _ _ _ (by omega) (by omega) (by omega)).mono ?_; rintro e w1 ⟨rfl, rfl⟩)
            | (go_at_call 10; refine (take_no _ _ _ (by omega)).mono ?_; rintro e w1 ⟨rfl, rfl⟩)
            | (go_at_call 12; refine (shift_yes _ _ _ _ (by omega) (by omega) (by omega) (by omega) (by omega) (by omega) (by omega) (by omega)).mono ?_; rintro e w1 ⟨rfl, rfl⟩)
            | (go_at_call 12; refine (shift_no _ _ _ _ (by omega) (by omega) (by omega)).mono ?_; rintro e w1 ⟨rfl, rfl⟩)
            | (go_at_call 14; refine (left_any _ _).mono ?_; rintro e w1 ⟨rfl, rfl⟩))
          all_goals
            go_roundw
            case rel => exact ⟨k + 1, l, by omega, by omega, by go_num, by omega, by omega, by go_simp, by go_simp, by go_size, by go_grown⟩
            case measure => simp [intOf]; omega
        go_wp2_with (first
          | (go_at_call 11; refine (credit_yes _ _ _ (by omega) (by omega) (by omega) (by omega) (by omega)).mono ?_; rintro e w1 ⟨rfl, rfl⟩)
          | (go_at_call 11; refine (credit_no _ _ _ (by omega) (by omega) (by omega)).mono ?_; rintro e w1 ⟨rfl, rfl⟩)
          | (go_at_call 10; refine (take_yes _ _ _ (by omega) (by omega) (by omega)).mono ?_; rintro e w1 ⟨rfl, rfl⟩)
          | (go_at_call 10; refine (take_no _ _ _ (by omega)).mono ?_; rintro e w1 ⟨rfl, rfl⟩)
          | (go_at_call 12; refine (shift_yes _ _ _ _ (by omega) (by omega) (by omega) (by omega) (by omega) (by omega) (by omega) (by omega)).mono ?_; rintro e w1 ⟨rfl, rfl⟩)
          | (go_at_call 12; refine (shift_no _ _ _ _ (by omega) (by omega) (by omega)).mono ?_; rintro e w1 ⟨rfl, rfl⟩)
          | (go_at_call 14; refine (left_any _ _).mono ?_; rintro e w1 ⟨rfl, rfl⟩))
        go_region_held3 (fun w' => w'.cell? ⟨bw, 0, none⟩ = some (.int .i64 l) ∧ w'.cell? ⟨b, off + k * 3 + 1, none⟩ = some (.int .i64 z1) ∧ w'.cell? ⟨b, off + k * 3 + 2, none⟩ = some (.int .i64 z2)) ((refine ⟨?_, ?_, ?_⟩ <;> go_simp)) (first
          | (go_at_call 11; refine (credit_yes _ _ _ (by omega) (by omega) (by omega) (by omega) (by omega)).mono ?_; rintro e w1 ⟨rfl, rfl⟩)
          | (go_at_call 11; refine (credit_no _ _ _ (by omega) (by omega) (by omega)).mono ?_; rintro e w1 ⟨rfl, rfl⟩)
          | (go_at_call 10; refine (take_yes _ _ _ (by omega) (by omega) (by omega)).mono ?_; rintro e w1 ⟨rfl, rfl⟩)
          | (go_at_call 10; refine (take_no _ _ _ (by omega)).mono ?_; rintro e w1 ⟨rfl, rfl⟩)
          | (go_at_call 12; refine (shift_yes _ _ _ _ (by omega) (by omega) (by omega) (by omega) (by omega) (by omega) (by omega) (by omega)).mono ?_; rintro e w1 ⟨rfl, rfl⟩)
          | (go_at_call 12; refine (shift_no _ _ _ _ (by omega) (by omega) (by omega)).mono ?_; rintro e w1 ⟨rfl, rfl⟩)
          | (go_at_call 14; refine (left_any _ _).mono ?_; rintro e w1 ⟨rfl, rfl⟩))
        go_wp2_with (first
          | (go_at_call 11; refine (credit_yes _ _ _ (by omega) (by omega) (by omega) (by omega) (by omega)).mono ?_; rintro e w1 ⟨rfl, rfl⟩)
          | (go_at_call 11; refine (credit_no _ _ _ (by omega) (by omega) (by omega)).mono ?_; rintro e w1 ⟨rfl, rfl⟩)
          | (go_at_call 10; refine (take_yes _ _ _ (by omega) (by omega) (by omega)).mono ?_; rintro e w1 ⟨rfl, rfl⟩)
          | (go_at_call 10; refine (take_no _ _ _ (by omega)).mono ?_; rintro e w1 ⟨rfl, rfl⟩)
          | (go_at_call 12; refine (shift_yes _ _ _ _ (by omega) (by omega) (by omega) (by omega) (by omega) (by omega) (by omega) (by omega)).mono ?_; rintro e w1 ⟨rfl, rfl⟩)
          | (go_at_call 12; refine (shift_no _ _ _ _ (by omega) (by omega) (by omega)).mono ?_; rintro e w1 ⟨rfl, rfl⟩)
          | (go_at_call 14; refine (left_any _ _).mono ?_; rintro e w1 ⟨rfl, rfl⟩))
        all_goals
          go_roundw
          case rel => exact ⟨k + 1, l + z1 - z2, by omega, by omega, by go_num, by omega, by omega, by go_simp, by go_simp, by go_size, by go_grown⟩
          case measure => simp [intOf]; omega
    · have hd : len ≤ k ∨ (k < len ∧ 100 ≤ k ∧ decide ((k : Int) < 100) = false) := by
        by_cases h : len ≤ k
        · exact .inl h
        · exact .inr ⟨by omega, by omega, by simp; omega⟩
      clear hlt
      rcases hd with e1 | ⟨e1, e2, e3⟩
      all_goals
        go_wp2_with (go_at_call 3; refine (runs_any _).mono ?_; rintro e w2 ⟨rfl, hB2⟩)
        go_ret
        exact ⟨rfl, hB.trans (hB2.mono hBs)⟩
end Go.Proofs.Ythkkdhjippnkfaa
