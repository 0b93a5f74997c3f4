/- The contract of setting.Apply. -/
import Derived.Test.YtdlmocjkhkopgaaKit
import Derived.Test.YtdlmocjkhkopgaaOpen
namespace Go.Proofs.Ytdlmocjkhkopgaa
open Go.ChangeShapes Go.WideShapes Go.ChangeAt Go.RowKit
set_option linter.unusedVariables false

/-- The cells of a set. -/
def cs5 (x : S5) : Array Value := #[.int .i64 x.t, .int .i64 x.s, .int .i64 x.w, .int .i64 x.f, .int .i64 x.l]
def ApplyPost (Z : Nat → Nat → Int) (x : S5) (n : Nat) (w : World) (e : Ending) (w' : World) : Prop :=
  ∃ (r : S5) (c : Int), Ans Z x n r c ∧ e = .returned (.tuple #[agg5 r, .int .i64 c]) ∧ Below w.heap.size w w'
theorem AllFine.succ {Z : Nat → Nat → Int} {k : Nat} (h : AllFine Z k) (hc : cv (Z k 0) (Z k 1) = 0) : AllFine Z (k + 1) := fun j hj => by
  by_cases hjk : j < k
  · exact h j hjk
  · obtain rfl : j = k := by omega
    exact hc
theorem clamp_lo (v : Int) (h : v < 0) : clamp v = 0 := by unfold clamp; omega
theorem clamp_in (v : Int) (h0 : 0 ≤ v) (h1 : v ≤ 2147483647) : clamp v = v := by unfold clamp; omega
theorem clamp_hi (v : Int) (h : 2147483647 < v) : clamp v = 2147483647 := by unfold clamp; omega

set_option maxHeartbeats 20000000 in
set_option maxRecDepth 100000 in
theorem apply_any (x : S5) (v : Value) (n : Nat) (Z : Nat → Nat → Int) (w : World) (hR : Rowy w v n 2 (fun i j => .int .i64 (Z i j))) (hZ : ∀ i j, i < n → j < 2 → -9223372036854775808 ≤ Z i j ∧ Z i j ≤ 9223372036854775807) :
    Calls Try.prog 9 #[agg5 x, v] w (ApplyPost Z x n w) := by
  obtain ⟨A, cap, rfl, hlc, hcm, hcell⟩ := hR
  unfold maxLen at hcm
  have HC := Lib.hid hcell
  have HZ := Lib.hid hZ
  clear hcell hZ
  have hlen : n ≤ 9223372036854775807 := by omega
  unfold agg5
  go_enter Try.func9, Try.ntmps9
  go_wp2
  refine wp_forget (fun W => Below w.heap.size w W ∧ Blk W w.heap.size 23 (cs5 x) ∧ Blk W (w.heap.size + 1) 23 (cs5 ⟨0, 0, 0, 0, 0⟩) ∧ Blk W (w.heap.size + 1 + 1) 23 (cs5 x))
    ⟨by go_grown, ((Blk.new_at rfl).alloc _).alloc _, (Blk.new_at (by simp)).alloc _, Blk.new_at (by simp)⟩ ?_
  rintro W ⟨hBW, hS2, hS4, hS6⟩
  have b24 : w.heap.size < w.heap.size + 1 + 1 := by omega
  have b46 : w.heap.size + 1 < w.heap.size + 1 + 1 := by omega
  have b40 : w.heap.size ≤ w.heap.size + 1 := by omega
  have b60 : w.heap.size ≤ w.heap.size + 1 + 1 := by omega
  generalize hb6 : w.heap.size + 1 + 1 = b6 at *
  clear hb6
  generalize hb4 : w.heap.size + 1 = b4 at *
  clear hb4
  have b20 : w.heap.size ≤ w.heap.size := Nat.le_refl _
  generalize hb2 : w.heap.size = b2 at hS2 b24 ⊢
  clear hb2 b20
  go_loopw [14] (fun i wr => ∃ k : Nat, k ≤ n ∧ i = .int .i64 k ∧ Hid (AllFine Z k) ∧ Blk wr b6 23 (cs5 (ap Z x k)) ∧ Below b6 W wr) (fun i _ => n - (intOf i).toNat)
  case atStart => exact ⟨0, Nat.zero_le _, rfl, Lib.hid (fun j hj => absurd hj (Nat.not_lt_zero _)), hS6, Below.refl _ _⟩
  case round =>
    obtain ⟨k, hk, rfl, hfine, hS, hB⟩ := hrel
    have hBs := hB.size
    have h6 := hS.lt
    have HU := Lib.hid (show ap Z x (k + 1) = upd (ap Z x k) (Z k 0) (Z k 1) from rfl)
    have HBW : Below w.heap.size w wr := hBW.trans (hB.mono (by omega))
    have HBWs := HBW.size
    have h2 := hS2.below hB (by omega)
    have h4 := hS4.below hB (by omega)
    clear hS2 hS4 hS6
    by_cases hlt : k < n
    · obtain ⟨b, off, rfl, hb, hcell⟩ := HC.out (by omega)
      have hcc : ∀ j, j < 2 → wr.cell? ⟨b, off + (k * 2 + j), none⟩ = some (.int .i64 (Z k j)) := fun j hj => by
        rw [HBW.cell (p := ⟨b, _, none⟩) hb]; exact hcell k j hlt hj
      have hc0 := hcc 0 (by omega)
      have hc1 := hcc 1 (by omega)
      obtain ⟨r0, r1⟩ := HZ.out k 0 hlt (by omega)
      obtain ⟨t0, t1⟩ := HZ.out k 1 hlt (by omega)
      clear hcell hcc HC HZ
      simp only [Nat.add_zero, ← Nat.add_assoc] at hc0 hc1
      by_cases hcv : cv (Z k 0) (Z k 1) = 0
      · have hfine' := Lib.hid (hfine.out.succ hcv)
        have HCV := Lib.hid hcv
        clear hcv hfine h2 h4
        generalize ap Z x k = y at *
        generalize Z k 0 = i at *
        generalize Z k 1 = v at *
        have s60 : b6 < wr.heap.size + 1 := by omega
        have s61 : b6 < wr.heap.size + 1 + 1 := by omega
        by_cases e1 : i = 1
        · subst e1
          rcases Int.lt_trichotomy v 0 with d | d | d
          · have HUP := Lib.hid (show upd y 1 v = { y with t := 0 } from by simp [upd, clamp_lo v d])
            have cj := hS.cell 0
            have fj := hS.frozen 0
            simp only [cs5] at cj
            simp at cj
            go_wp2_with (go_at_call 11; refine (value_any _ _ _).mono ?_; rintro e w1 ⟨he, rfl⟩; rw [HCV.out] at he; subst he)
            all_goals
              go_roundw
              case rel => exact ⟨k + 1, by omega, by go_num, hfine', by rw [HU.out, HUP.out]; exact ((hS.put 0 _).alloc _).alloc _, by go_grown⟩
              case measure => simp [intOf]; omega
          · subst d
            have HUP := Lib.hid (show upd y 1 0 = { y with t := 0 } from by simp [upd, clamp_in 0 (by omega) (by omega)])
            have cj := hS.cell 0
            have fj := hS.frozen 0
            simp only [cs5] at cj
            simp at cj
            go_wp2_with (go_at_call 11; refine (value_any _ _ _).mono ?_; rintro e w1 ⟨he, rfl⟩; rw [HCV.out] at he; subst he)
            all_goals
              go_roundw
              case rel => exact ⟨k + 1, by omega, by go_num, hfine', by rw [HU.out, HUP.out]; exact ((hS.put 0 _).alloc _).alloc _, by go_grown⟩
              case measure => simp [intOf]; omega
          · rcases Int.lt_trichotomy v 2147483647 with d2 | d2 | d2
            · have HUP := Lib.hid (show upd y 1 v = { y with t := v } from by simp [upd, clamp_in v (by omega) (by omega)])
              have cj := hS.cell 0
              have fj := hS.frozen 0
              simp only [cs5] at cj
              simp at cj
              go_wp2_with (go_at_call 11; refine (value_any _ _ _).mono ?_; rintro e w1 ⟨he, rfl⟩; rw [HCV.out] at he; subst he)
              all_goals
                go_roundw
                case rel => exact ⟨k + 1, by omega, by go_num, hfine', by rw [HU.out, HUP.out]; exact ((hS.put 0 _).alloc _).alloc _, by go_grown⟩
                case measure => simp [intOf]; omega
            · subst d2
              have HUP := Lib.hid (show upd y 1 2147483647 = { y with t := 2147483647 } from by simp [upd, clamp_in 2147483647 (by omega) (by omega)])
              have cj := hS.cell 0
              have fj := hS.frozen 0
              simp only [cs5] at cj
              simp at cj
              go_wp2_with (go_at_call 11; refine (value_any _ _ _).mono ?_; rintro e w1 ⟨he, rfl⟩; rw [HCV.out] at he; subst he)
              all_goals
                go_roundw
                case rel => exact ⟨k + 1, by omega, by go_num, hfine', by rw [HU.out, HUP.out]; exact ((hS.put 0 _).alloc _).alloc _, by go_grown⟩
                case measure => simp [intOf]; omega
            · have HUP := Lib.hid (show upd y 1 v = { y with t := 2147483647 } from by simp [upd, clamp_hi v d2])
              have cj := hS.cell 0
              have fj := hS.frozen 0
              simp only [cs5] at cj
              simp at cj
              go_wp2_with (go_at_call 11; refine (value_any _ _ _).mono ?_; rintro e w1 ⟨he, rfl⟩; rw [HCV.out] at he; subst he)
              all_goals
                go_roundw
                case rel => exact ⟨k + 1, by omega, by go_num, hfine', by rw [HU.out, HUP.out]; exact ((hS.put 0 _).alloc _).alloc _, by go_grown⟩
                case measure => simp [intOf]; omega
        by_cases e3 : i = 3
        · subst e3
          rcases Int.lt_trichotomy v 0 with d | d | d
          · have HUP := Lib.hid (show upd y 3 v = { y with s := 0 } from by simp [upd, clamp_lo v d])
            have cj := hS.cell 1
            have fj := hS.frozen 1
            simp only [cs5] at cj
            simp at cj
            go_wp2_with (go_at_call 11; refine (value_any _ _ _).mono ?_; rintro e w1 ⟨he, rfl⟩; rw [HCV.out] at he; subst he)
            all_goals
              go_roundw
              case rel => exact ⟨k + 1, by omega, by go_num, hfine', by rw [HU.out, HUP.out]; exact ((hS.put 1 _).alloc _).alloc _, by go_grown⟩
              case measure => simp [intOf]; omega
          · subst d
            have HUP := Lib.hid (show upd y 3 0 = { y with s := 0 } from by simp [upd, clamp_in 0 (by omega) (by omega)])
            have cj := hS.cell 1
            have fj := hS.frozen 1
            simp only [cs5] at cj
            simp at cj
            go_wp2_with (go_at_call 11; refine (value_any _ _ _).mono ?_; rintro e w1 ⟨he, rfl⟩; rw [HCV.out] at he; subst he)
            all_goals
              go_roundw
              case rel => exact ⟨k + 1, by omega, by go_num, hfine', by rw [HU.out, HUP.out]; exact ((hS.put 1 _).alloc _).alloc _, by go_grown⟩
              case measure => simp [intOf]; omega
          · rcases Int.lt_trichotomy v 2147483647 with d2 | d2 | d2
            · have HUP := Lib.hid (show upd y 3 v = { y with s := v } from by simp [upd, clamp_in v (by omega) (by omega)])
              have cj := hS.cell 1
              have fj := hS.frozen 1
              simp only [cs5] at cj
              simp at cj
              go_wp2_with (go_at_call 11; refine (value_any _ _ _).mono ?_; rintro e w1 ⟨he, rfl⟩; rw [HCV.out] at he; subst he)
              all_goals
                go_roundw
                case rel => exact ⟨k + 1, by omega, by go_num, hfine', by rw [HU.out, HUP.out]; exact ((hS.put 1 _).alloc _).alloc _, by go_grown⟩
                case measure => simp [intOf]; omega
            · subst d2
              have HUP := Lib.hid (show upd y 3 2147483647 = { y with s := 2147483647 } from by simp [upd, clamp_in 2147483647 (by omega) (by omega)])
              have cj := hS.cell 1
              have fj := hS.frozen 1
              simp only [cs5] at cj
              simp at cj
              go_wp2_with (go_at_call 11; refine (value_any _ _ _).mono ?_; rintro e w1 ⟨he, rfl⟩; rw [HCV.out] at he; subst he)
              all_goals
                go_roundw
                case rel => exact ⟨k + 1, by omega, by go_num, hfine', by rw [HU.out, HUP.out]; exact ((hS.put 1 _).alloc _).alloc _, by go_grown⟩
                case measure => simp [intOf]; omega
            · have HUP := Lib.hid (show upd y 3 v = { y with s := 2147483647 } from by simp [upd, clamp_hi v d2])
              have cj := hS.cell 1
              have fj := hS.frozen 1
              simp only [cs5] at cj
              simp at cj
              go_wp2_with (go_at_call 11; refine (value_any _ _ _).mono ?_; rintro e w1 ⟨he, rfl⟩; rw [HCV.out] at he; subst he)
              all_goals
                go_roundw
                case rel => exact ⟨k + 1, by omega, by go_num, hfine', by rw [HU.out, HUP.out]; exact ((hS.put 1 _).alloc _).alloc _, by go_grown⟩
                case measure => simp [intOf]; omega
        by_cases e4 : i = 4
        · subst e4
          rcases Int.lt_trichotomy v 0 with d | d | d
          · have HUP := Lib.hid (show upd y 4 v = { y with w := 0 } from by simp [upd, clamp_lo v d])
            have cj := hS.cell 2
            have fj := hS.frozen 2
            simp only [cs5] at cj
            simp at cj
            go_wp2_with (go_at_call 11; refine (value_any _ _ _).mono ?_; rintro e w1 ⟨he, rfl⟩; rw [HCV.out] at he; subst he)
            all_goals
              go_roundw
              case rel => exact ⟨k + 1, by omega, by go_num, hfine', by rw [HU.out, HUP.out]; exact ((hS.put 2 _).alloc _).alloc _, by go_grown⟩
              case measure => simp [intOf]; omega
          · subst d
            have HUP := Lib.hid (show upd y 4 0 = { y with w := 0 } from by simp [upd, clamp_in 0 (by omega) (by omega)])
            have cj := hS.cell 2
            have fj := hS.frozen 2
            simp only [cs5] at cj
            simp at cj
            go_wp2_with (go_at_call 11; refine (value_any _ _ _).mono ?_; rintro e w1 ⟨he, rfl⟩; rw [HCV.out] at he; subst he)
            all_goals
              go_roundw
              case rel => exact ⟨k + 1, by omega, by go_num, hfine', by rw [HU.out, HUP.out]; exact ((hS.put 2 _).alloc _).alloc _, by go_grown⟩
              case measure => simp [intOf]; omega
          · rcases Int.lt_trichotomy v 2147483647 with d2 | d2 | d2
            · have HUP := Lib.hid (show upd y 4 v = { y with w := v } from by simp [upd, clamp_in v (by omega) (by omega)])
              have cj := hS.cell 2
              have fj := hS.frozen 2
              simp only [cs5] at cj
              simp at cj
              go_wp2_with (go_at_call 11; refine (value_any _ _ _).mono ?_; rintro e w1 ⟨he, rfl⟩; rw [HCV.out] at he; subst he)
              all_goals
                go_roundw
                case rel => exact ⟨k + 1, by omega, by go_num, hfine', by rw [HU.out, HUP.out]; exact ((hS.put 2 _).alloc _).alloc _, by go_grown⟩
                case measure => simp [intOf]; omega
            · subst d2
              have HUP := Lib.hid (show upd y 4 2147483647 = { y with w := 2147483647 } from by simp [upd, clamp_in 2147483647 (by omega) (by omega)])
              have cj := hS.cell 2
              have fj := hS.frozen 2
              simp only [cs5] at cj
              simp at cj
              go_wp2_with (go_at_call 11; refine (value_any _ _ _).mono ?_; rintro e w1 ⟨he, rfl⟩; rw [HCV.out] at he; subst he)
              all_goals
                go_roundw
                case rel => exact ⟨k + 1, by omega, by go_num, hfine', by rw [HU.out, HUP.out]; exact ((hS.put 2 _).alloc _).alloc _, by go_grown⟩
                case measure => simp [intOf]; omega
            · have HUP := Lib.hid (show upd y 4 v = { y with w := 2147483647 } from by simp [upd, clamp_hi v d2])
              have cj := hS.cell 2
              have fj := hS.frozen 2
              simp only [cs5] at cj
              simp at cj
              go_wp2_with (go_at_call 11; refine (value_any _ _ _).mono ?_; rintro e w1 ⟨he, rfl⟩; rw [HCV.out] at he; subst he)
              all_goals
                go_roundw
                case rel => exact ⟨k + 1, by omega, by go_num, hfine', by rw [HU.out, HUP.out]; exact ((hS.put 2 _).alloc _).alloc _, by go_grown⟩
                case measure => simp [intOf]; omega
        by_cases e5 : i = 5
        · subst e5
          rcases Int.lt_trichotomy v 0 with d | d | d
          · have HUP := Lib.hid (show upd y 5 v = { y with f := 0 } from by simp [upd, clamp_lo v d])
            have cj := hS.cell 3
            have fj := hS.frozen 3
            simp only [cs5] at cj
            simp at cj
            go_wp2_with (go_at_call 11; refine (value_any _ _ _).mono ?_; rintro e w1 ⟨he, rfl⟩; rw [HCV.out] at he; subst he)
            all_goals
              go_roundw
              case rel => exact ⟨k + 1, by omega, by go_num, hfine', by rw [HU.out, HUP.out]; exact ((hS.put 3 _).alloc _).alloc _, by go_grown⟩
              case measure => simp [intOf]; omega
          · subst d
            have HUP := Lib.hid (show upd y 5 0 = { y with f := 0 } from by simp [upd, clamp_in 0 (by omega) (by omega)])
            have cj := hS.cell 3
            have fj := hS.frozen 3
            simp only [cs5] at cj
            simp at cj
            go_wp2_with (go_at_call 11; refine (value_any _ _ _).mono ?_; rintro e w1 ⟨he, rfl⟩; rw [HCV.out] at he; subst he)
            all_goals
              go_roundw
              case rel => exact ⟨k + 1, by omega, by go_num, hfine', by rw [HU.out, HUP.out]; exact ((hS.put 3 _).alloc _).alloc _, by go_grown⟩
              case measure => simp [intOf]; omega
          · rcases Int.lt_trichotomy v 2147483647 with d2 | d2 | d2
            · have HUP := Lib.hid (show upd y 5 v = { y with f := v } from by simp [upd, clamp_in v (by omega) (by omega)])
              have cj := hS.cell 3
              have fj := hS.frozen 3
              simp only [cs5] at cj
              simp at cj
              go_wp2_with (go_at_call 11; refine (value_any _ _ _).mono ?_; rintro e w1 ⟨he, rfl⟩; rw [HCV.out] at he; subst he)
              all_goals
                go_roundw
                case rel => exact ⟨k + 1, by omega, by go_num, hfine', by rw [HU.out, HUP.out]; exact ((hS.put 3 _).alloc _).alloc _, by go_grown⟩
                case measure => simp [intOf]; omega
            · subst d2
              have HUP := Lib.hid (show upd y 5 2147483647 = { y with f := 2147483647 } from by simp [upd, clamp_in 2147483647 (by omega) (by omega)])
              have cj := hS.cell 3
              have fj := hS.frozen 3
              simp only [cs5] at cj
              simp at cj
              go_wp2_with (go_at_call 11; refine (value_any _ _ _).mono ?_; rintro e w1 ⟨he, rfl⟩; rw [HCV.out] at he; subst he)
              all_goals
                go_roundw
                case rel => exact ⟨k + 1, by omega, by go_num, hfine', by rw [HU.out, HUP.out]; exact ((hS.put 3 _).alloc _).alloc _, by go_grown⟩
                case measure => simp [intOf]; omega
            · have HUP := Lib.hid (show upd y 5 v = { y with f := 2147483647 } from by simp [upd, clamp_hi v d2])
              have cj := hS.cell 3
              have fj := hS.frozen 3
              simp only [cs5] at cj
              simp at cj
              go_wp2_with (go_at_call 11; refine (value_any _ _ _).mono ?_; rintro e w1 ⟨he, rfl⟩; rw [HCV.out] at he; subst he)
              all_goals
                go_roundw
                case rel => exact ⟨k + 1, by omega, by go_num, hfine', by rw [HU.out, HUP.out]; exact ((hS.put 3 _).alloc _).alloc _, by go_grown⟩
                case measure => simp [intOf]; omega
        by_cases e6 : i = 6
        · subst e6
          rcases Int.lt_trichotomy v 0 with d | d | d
          · have HUP := Lib.hid (show upd y 6 v = { y with l := 0 } from by simp [upd, clamp_lo v d])
            have cj := hS.cell 4
            have fj := hS.frozen 4
            simp only [cs5] at cj
            simp at cj
            go_wp2_with (go_at_call 11; refine (value_any _ _ _).mono ?_; rintro e w1 ⟨he, rfl⟩; rw [HCV.out] at he; subst he)
            all_goals
              go_roundw
              case rel => exact ⟨k + 1, by omega, by go_num, hfine', by rw [HU.out, HUP.out]; exact ((hS.put 4 _).alloc _).alloc _, by go_grown⟩
              case measure => simp [intOf]; omega
          · subst d
            have HUP := Lib.hid (show upd y 6 0 = { y with l := 0 } from by simp [upd, clamp_in 0 (by omega) (by omega)])
            have cj := hS.cell 4
            have fj := hS.frozen 4
            simp only [cs5] at cj
            simp at cj
            go_wp2_with (go_at_call 11; refine (value_any _ _ _).mono ?_; rintro e w1 ⟨he, rfl⟩; rw [HCV.out] at he; subst he)
            all_goals
              go_roundw
              case rel => exact ⟨k + 1, by omega, by go_num, hfine', by rw [HU.out, HUP.out]; exact ((hS.put 4 _).alloc _).alloc _, by go_grown⟩
              case measure => simp [intOf]; omega
          · rcases Int.lt_trichotomy v 2147483647 with d2 | d2 | d2
            · have HUP := Lib.hid (show upd y 6 v = { y with l := v } from by simp [upd, clamp_in v (by omega) (by omega)])
              have cj := hS.cell 4
              have fj := hS.frozen 4
              simp only [cs5] at cj
              simp at cj
              go_wp2_with (go_at_call 11; refine (value_any _ _ _).mono ?_; rintro e w1 ⟨he, rfl⟩; rw [HCV.out] at he; subst he)
              all_goals
                go_roundw
                case rel => exact ⟨k + 1, by omega, by go_num, hfine', by rw [HU.out, HUP.out]; exact ((hS.put 4 _).alloc _).alloc _, by go_grown⟩
                case measure => simp [intOf]; omega
            · subst d2
              have HUP := Lib.hid (show upd y 6 2147483647 = { y with l := 2147483647 } from by simp [upd, clamp_in 2147483647 (by omega) (by omega)])
              have cj := hS.cell 4
              have fj := hS.frozen 4
              simp only [cs5] at cj
              simp at cj
              go_wp2_with (go_at_call 11; refine (value_any _ _ _).mono ?_; rintro e w1 ⟨he, rfl⟩; rw [HCV.out] at he; subst he)
              all_goals
                go_roundw
                case rel => exact ⟨k + 1, by omega, by go_num, hfine', by rw [HU.out, HUP.out]; exact ((hS.put 4 _).alloc _).alloc _, by go_grown⟩
                case measure => simp [intOf]; omega
            · have HUP := Lib.hid (show upd y 6 v = { y with l := 2147483647 } from by simp [upd, clamp_hi v d2])
              have cj := hS.cell 4
              have fj := hS.frozen 4
              simp only [cs5] at cj
              simp at cj
              go_wp2_with (go_at_call 11; refine (value_any _ _ _).mono ?_; rintro e w1 ⟨he, rfl⟩; rw [HCV.out] at he; subst he)
              all_goals
                go_roundw
                case rel => exact ⟨k + 1, by omega, by go_num, hfine', by rw [HU.out, HUP.out]; exact ((hS.put 4 _).alloc _).alloc _, by go_grown⟩
                case measure => simp [intOf]; omega
        · have HUP := Lib.hid (show upd y i v = y from by simp [upd, e1, e3, e4, e5, e6])
          have z1 : (i == 1) = false := by simpa using e1
          have z3 : (i == 3) = false := by simpa using e3
          have z4 : (i == 4) = false := by simpa using e4
          have z5 : (i == 5) = false := by simpa using e5
          have z6 : (i == 6) = false := by simpa using e6
          clear e1 e3 e4 e5 e6
          rcases Int.lt_trichotomy v 0 with d | d | d
          · go_wp2_with (go_at_call 11; refine (value_any _ _ _).mono ?_; rintro e w1 ⟨he, rfl⟩; rw [HCV.out] at he; subst he)
            all_goals
              go_roundw
              case rel => exact ⟨k + 1, by omega, by go_num, hfine', by rw [HU.out, HUP.out]; exact (hS.alloc _).alloc _, by go_grown⟩
              case measure => simp [intOf]; omega
          · subst d
            go_wp2_with (go_at_call 11; refine (value_any _ _ _).mono ?_; rintro e w1 ⟨he, rfl⟩; rw [HCV.out] at he; subst he)
            all_goals
              go_roundw
              case rel => exact ⟨k + 1, by omega, by go_num, hfine', by rw [HU.out, HUP.out]; exact (hS.alloc _).alloc _, by go_grown⟩
              case measure => simp [intOf]; omega
          · rcases Int.lt_trichotomy v 2147483647 with d2 | d2 | d2
            · go_wp2_with (go_at_call 11; refine (value_any _ _ _).mono ?_; rintro e w1 ⟨he, rfl⟩; rw [HCV.out] at he; subst he)
              all_goals
                go_roundw
                case rel => exact ⟨k + 1, by omega, by go_num, hfine', by rw [HU.out, HUP.out]; exact (hS.alloc _).alloc _, by go_grown⟩
                case measure => simp [intOf]; omega
            · subst d2
              go_wp2_with (go_at_call 11; refine (value_any _ _ _).mono ?_; rintro e w1 ⟨he, rfl⟩; rw [HCV.out] at he; subst he)
              all_goals
                go_roundw
                case rel => exact ⟨k + 1, by omega, by go_num, hfine', by rw [HU.out, HUP.out]; exact (hS.alloc _).alloc _, by go_grown⟩
                case measure => simp [intOf]; omega
            · go_wp2_with (go_at_call 11; refine (value_any _ _ _).mono ?_; rintro e w1 ⟨he, rfl⟩; rw [HCV.out] at he; subst he)
              all_goals
                go_roundw
                case rel => exact ⟨k + 1, by omega, by go_num, hfine', by rw [HU.out, HUP.out]; exact (hS.alloc _).alloc _, by go_grown⟩
                case measure => simp [intOf]; omega
      · have HA := Lib.hid (show Ans Z x n x (cv (Z k 0) (Z k 1)) from .inr ⟨k, hlt, hfine.out, rfl, hcv, rfl⟩)
        obtain ⟨c, hc⟩ : ∃ c, cv (Z k 0) (Z k 1) = c := ⟨_, rfl⟩
        rw [hc] at HA hcv
        have hne : (c != 0) = true := by simpa using hcv
        have HCV := Lib.hid hc
        clear hcv hfine hc hS HU
        go_upto_region 7 with (go_at_call 11; refine (value_any _ _ _).mono ?_; rintro e w1 ⟨he, rfl⟩; rw [HCV.out] at he; subst he)
        refine wp_forget (fun X => Below w.heap.size w X ∧ Blk X b2 23 (cs5 x) ∧ Blk X b4 23 (cs5 ⟨0, 0, 0, 0, 0⟩)) ⟨by go_grown, (h2.alloc _).alloc _, (h4.alloc _).alloc _⟩ ?_
        rintro X ⟨hX, hX2, hX4⟩
        clear hB hBs h6 HBW HBWs h2 h4 hc0 hc1
        go_wp2_with (first | (refine wpList_load_row rfl 23 (.tmp 2) rfl b2 rfl 23 _ _ _ hX2 Try.underlying23 rfl (by kernel_rfl) ?_) | (refine wpList_store_row rfl 23 (.tmp 4) (.tmp 22) rfl b4 rfl (cs5 x) rfl 23 _ hX4 rfl (by kernel_rfl) (by simp [cs5, Value.oneCell']) ?_; intro X2 hX5 hgr hsz))
        refine bodyPost_ret (results_cell_tmp rfl _ b4 23 _ _ rfl hX5 Try.underlying23 rfl (by kernel_rfl)) rfl ⟨x, c, HA.out, rfl, hX.grown hgr hX.size (fun g hg => by cases hg; omega)⟩
    · obtain rfl : k = n := by omega
      have HA := Lib.hid (show Ans Z x k (ap Z x k) 0 from .inl ⟨hfine.out, rfl, rfl⟩)
      clear hfine HU
      generalize ap Z x k = y at *
      go_upto_region 21 with fail
      refine wp_forget (fun X => Below w.heap.size w X ∧ Blk X b6 23 (cs5 y) ∧ Blk X b4 23 (cs5 ⟨0, 0, 0, 0, 0⟩)) ⟨by go_grown, hS, h4⟩ ?_
      rintro X ⟨hX, hX2, hX4⟩
      clear hB hBs h6 HBW HBWs h2 h4 hS
      go_wp2_with (first | (refine wpList_load_row rfl 23 (.tmp 6) rfl b6 rfl 23 _ _ _ hX2 Try.underlying23 rfl (by kernel_rfl) ?_) | (refine wpList_store_row rfl 23 (.tmp 4) (.tmp 51) rfl b4 rfl (cs5 y) rfl 23 _ hX4 rfl (by kernel_rfl) (by simp [cs5, Value.oneCell']) ?_; intro X2 hX5 hgr hsz))
      refine bodyPost_ret (results_cell_tmp rfl _ b4 23 _ _ rfl hX5 Try.underlying23 rfl (by kernel_rfl)) rfl ⟨y, 0, HA.out, rfl, hX.grown hgr hX.size (fun g hg => by cases hg; omega)⟩
end Go.Proofs.Ytdlmocjkhkopgaa
