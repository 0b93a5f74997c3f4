/- The contract of the law's own apply. -/
import Derived.Test.YtdlmocjkhkopgaaApply
namespace Go.Proofs.Ytdlmocjkhkopgaa
open Go.ChangeShapes Go.WideShapes Go.ChangeAt Go.RowKit
set_option linter.unusedVariables false

set_option maxHeartbeats 20000000 in
set_option maxRecDepth 100000 in
theorem lapply_any (x : S5) (v : Value) (n : Nat) (Z : Nat → Nat → Int) (w : World) (hR : Rowy w v n 2 (fun i j => .int .i64 (Z i j))) (hZ : ∀ i j, i < n → j < 2 → -9223372036854775808 ≤ Z i j ∧ Z i j ≤ 9223372036854775807) :
    Calls Try.prog 15 #[agg5 x, v] w (ApplyPost Z x n w) := by
  obtain ⟨A, cap, rfl, hlc, hcm, hcell⟩ := hR
  unfold maxLen at hcm
  have HC := Lib.hid hcell
  have HZ := Lib.hid hZ
  clear hcell hZ
  have hlen : n ≤ 9223372036854775807 := by omega
  unfold agg5
  go_enter Try.func15, Try.ntmps15
  go_wp2
  refine wp_forget (fun W => Below w.heap.size w W ∧ Blk W w.heap.size 23 (cs5 x) ∧ Blk W (w.heap.size + 1) 23 (cs5 ⟨0, 0, 0, 0, 0⟩))
    ⟨by go_grown, (Blk.new_at rfl).alloc _, Blk.new_at (by simp)⟩ ?_
  rintro W ⟨hBW, hS2, hS4⟩
  have b40 : w.heap.size ≤ w.heap.size + 1 := by omega
  have n24 : ¬ w.heap.size = w.heap.size + 1 := by omega
  generalize hb4 : w.heap.size + 1 = b4 at *
  clear hb4
  obtain ⟨b2, hb2⟩ : ∃ b2, b2 = w.heap.size := ⟨_, rfl⟩
  have b20 : w.heap.size ≤ b2 := by omega
  rw [← hb2] at hS2 n24 ⊢
  clear hb2
  go_loopw [6] (fun i wr => ∃ k : Nat, k ≤ n ∧ i = .int .i64 k ∧ Hid (AllFine Z k) ∧ Blk wr b2 23 (cs5 x) ∧ Blk wr b4 23 (cs5 ⟨0, 0, 0, 0, 0⟩) ∧ Below w.heap.size w wr) (fun i _ => n - (intOf i).toNat)
  case atStart => exact ⟨0, Nat.zero_le _, rfl, Lib.hid (fun j hj => absurd hj (Nat.not_lt_zero _)), hS2, hS4, hBW⟩
  case round =>
    obtain ⟨k, hk, rfl, hfine, h2, h4, hB⟩ := hrel
    clear hS2 hS4 hBW
    have hBs := hB.size
    by_cases hlt : k < n
    · obtain ⟨b, off, rfl, hb, hcell⟩ := HC.out (by omega)
      have hcc : ∀ j, j < 2 → wr.cell? ⟨b, off + (k * 2 + j), none⟩ = some (.int .i64 (Z k j)) := fun j hj => by
        rw [hB.cell (p := ⟨b, _, none⟩) hb]; exact hcell k j hlt hj
      have hc0 := hcc 0 (by omega)
      have hc1 := hcc 1 (by omega)
      clear hcell hcc HC HZ
      simp only [Nat.add_zero, ← Nat.add_assoc] at hc0 hc1
      by_cases hcv : cv (Z k 0) (Z k 1) = 0
      · have hfine' := Lib.hid (hfine.out.succ hcv)
        have HCV := Lib.hid hcv
        clear hcv hfine
        generalize Z k 0 = i at *
        generalize Z k 1 = v at *
        go_wp2_with (go_at_call 16; refine (rvalue_any _ _ _).mono ?_; rintro e w1 ⟨he, rfl⟩; rw [HCV.out] at he; subst he)
        go_roundw
        case rel => exact ⟨k + 1, by omega, by go_num, hfine', h2.alloc _, h4.alloc _, by go_grown⟩
        case measure => simp [intOf]; omega
      · have HA := Lib.hid (show Ans Z x n x (cv (Z k 0) (Z k 1)) from .inr ⟨k, hlt, hfine.out, rfl, hcv, rfl⟩)
        obtain ⟨c, hc⟩ : ∃ c, cv (Z k 0) (Z k 1) = c := ⟨_, rfl⟩
        rw [hc] at HA hcv
        have hne : (c != 0) = true := by simpa using hcv
        have HCV := Lib.hid hc
        clear hcv hfine hc
        go_upto_region 6 with (go_at_call 16; refine (rvalue_any _ _ _).mono ?_; rintro e w1 ⟨he, rfl⟩; rw [HCV.out] at he; subst he)
        have h2' := h2.alloc (.cells #[.int .i64 (Z k 0), .int .i64 (Z k 1)] 29)
        have h4' := h4.alloc (.cells #[.int .i64 (Z k 0), .int .i64 (Z k 1)] 29)
        go_wp2_with (first | (refine wpList_load_row rfl 23 (.tmp 2) rfl b2 rfl 23 _ _ _ h2' Try.underlying23 rfl (by kernel_rfl) ?_) | (refine wpList_store_row rfl 23 (.tmp 4) (.tmp 23) rfl b4 rfl (cs5 x) rfl 23 _ h4' rfl (by kernel_rfl) (by simp [cs5, Value.oneCell']) ?_; intro X2 hX5 hgr hsz))
        refine bodyPost_ret (results_cell_tmp rfl _ b4 23 _ _ rfl hX5 Try.underlying23 rfl (by kernel_rfl)) rfl ⟨x, c, HA.out, rfl, (hB.alloc hBs _).grown hgr (by simp only [World.size_alloc]; omega) (fun g hg => by cases hg; omega)⟩
    · obtain rfl : k = n := by omega
      have hfineN := hfine
      clear hfine
      go_wp2_with fail
      go_loopw [8] (fun i wq => ∃ q : Nat, q ≤ k ∧ i = .int .i64 q ∧ Blk wq b2 23 (cs5 (ap Z x q)) ∧ Blk wq b4 23 (cs5 ⟨0, 0, 0, 0, 0⟩) ∧ Below w.heap.size w wq) (fun i _ => k - (intOf i).toNat)
      case atStart => exact ⟨0, Nat.zero_le _, rfl, h2, h4, hB⟩
      case round =>
        obtain ⟨q, hq, rfl, g2, g4, hB'⟩ := hrel
        clear h2 h4 hB
        have hBs' := hB'.size
        have HU := Lib.hid (show ap Z x (q + 1) = upd (ap Z x q) (Z q 0) (Z q 1) from rfl)
        by_cases hlt2 : q < k
        · obtain ⟨b, off, rfl, hb, hcell⟩ := HC.out (by omega)
          have hcc : ∀ j, j < 2 → wr.cell? ⟨b, off + (q * 2 + j), none⟩ = some (.int .i64 (Z q j)) := fun j hj => by
            rw [hB'.cell (p := ⟨b, _, none⟩) hb]; exact hcell q j hlt2 hj
          have hc0 := hcc 0 (by omega)
          have hc1 := hcc 1 (by omega)
          clear hcell hcc HC HZ
          simp only [Nat.add_zero, ← Nat.add_assoc] at hc0 hc1
          generalize ap Z x q = y at *
          generalize Z q 0 = i at *
          generalize Z q 1 = v at *
          have s2 := g2.lt
          by_cases e1 : i = 1
          · subst e1
            rcases Int.lt_trichotomy v 0 with d | d | d
            · have HUP := Lib.hid (show upd y 1 v = { y with t := 0 } from by simp [upd, clamp_lo v d])
              have cj := g2.cell 0
              have fj := g2.frozen 0
              simp only [cs5] at cj
              simp at cj
              go_wp2_with fail
              all_goals
                go_roundw
                case rel => exact ⟨q + 1, by omega, by go_num, by rw [HU.out, HUP.out]; exact g2.put 0 _, g4.far (by intro e; exact n24 e.symm) _, by go_grown⟩
                case measure => simp [intOf]; omega
            · subst d
              have HUP := Lib.hid (show upd y 1 0 = { y with t := 0 } from by simp [upd, clamp_in 0 (by omega) (by omega)])
              have cj := g2.cell 0
              have fj := g2.frozen 0
              simp only [cs5] at cj
              simp at cj
              go_wp2_with fail
              all_goals
                go_roundw
                case rel => exact ⟨q + 1, by omega, by go_num, by rw [HU.out, HUP.out]; exact g2.put 0 _, g4.far (by intro e; exact n24 e.symm) _, by go_grown⟩
                case measure => simp [intOf]; omega
            · rcases Int.lt_trichotomy v 2147483647 with d2 | d2 | d2
              · have HUP := Lib.hid (show upd y 1 v = { y with t := v } from by simp [upd, clamp_in v (by omega) (by omega)])
                have cj := g2.cell 0
                have fj := g2.frozen 0
                simp only [cs5] at cj
                simp at cj
                go_wp2_with fail
                all_goals
                  go_roundw
                  case rel => exact ⟨q + 1, by omega, by go_num, by rw [HU.out, HUP.out]; exact g2.put 0 _, g4.far (by intro e; exact n24 e.symm) _, by go_grown⟩
                  case measure => simp [intOf]; omega
              · subst d2
                have HUP := Lib.hid (show upd y 1 2147483647 = { y with t := 2147483647 } from by simp [upd, clamp_in 2147483647 (by omega) (by omega)])
                have cj := g2.cell 0
                have fj := g2.frozen 0
                simp only [cs5] at cj
                simp at cj
                go_wp2_with fail
                all_goals
                  go_roundw
                  case rel => exact ⟨q + 1, by omega, by go_num, by rw [HU.out, HUP.out]; exact g2.put 0 _, g4.far (by intro e; exact n24 e.symm) _, by go_grown⟩
                  case measure => simp [intOf]; omega
              · have HUP := Lib.hid (show upd y 1 v = { y with t := 2147483647 } from by simp [upd, clamp_hi v d2])
                have cj := g2.cell 0
                have fj := g2.frozen 0
                simp only [cs5] at cj
                simp at cj
                go_wp2_with fail
                all_goals
                  go_roundw
                  case rel => exact ⟨q + 1, by omega, by go_num, by rw [HU.out, HUP.out]; exact g2.put 0 _, g4.far (by intro e; exact n24 e.symm) _, by go_grown⟩
                  case measure => simp [intOf]; omega
          by_cases e3 : i = 3
          · subst e3
            rcases Int.lt_trichotomy v 0 with d | d | d
            · have HUP := Lib.hid (show upd y 3 v = { y with s := 0 } from by simp [upd, clamp_lo v d])
              have cj := g2.cell 1
              have fj := g2.frozen 1
              simp only [cs5] at cj
              simp at cj
              go_wp2_with fail
              all_goals
                go_roundw
                case rel => exact ⟨q + 1, by omega, by go_num, by rw [HU.out, HUP.out]; exact g2.put 1 _, g4.far (by intro e; exact n24 e.symm) _, by go_grown⟩
                case measure => simp [intOf]; omega
            · subst d
              have HUP := Lib.hid (show upd y 3 0 = { y with s := 0 } from by simp [upd, clamp_in 0 (by omega) (by omega)])
              have cj := g2.cell 1
              have fj := g2.frozen 1
              simp only [cs5] at cj
              simp at cj
              go_wp2_with fail
              all_goals
                go_roundw
                case rel => exact ⟨q + 1, by omega, by go_num, by rw [HU.out, HUP.out]; exact g2.put 1 _, g4.far (by intro e; exact n24 e.symm) _, by go_grown⟩
                case measure => simp [intOf]; omega
            · rcases Int.lt_trichotomy v 2147483647 with d2 | d2 | d2
              · have HUP := Lib.hid (show upd y 3 v = { y with s := v } from by simp [upd, clamp_in v (by omega) (by omega)])
                have cj := g2.cell 1
                have fj := g2.frozen 1
                simp only [cs5] at cj
                simp at cj
                go_wp2_with fail
                all_goals
                  go_roundw
                  case rel => exact ⟨q + 1, by omega, by go_num, by rw [HU.out, HUP.out]; exact g2.put 1 _, g4.far (by intro e; exact n24 e.symm) _, by go_grown⟩
                  case measure => simp [intOf]; omega
              · subst d2
                have HUP := Lib.hid (show upd y 3 2147483647 = { y with s := 2147483647 } from by simp [upd, clamp_in 2147483647 (by omega) (by omega)])
                have cj := g2.cell 1
                have fj := g2.frozen 1
                simp only [cs5] at cj
                simp at cj
                go_wp2_with fail
                all_goals
                  go_roundw
                  case rel => exact ⟨q + 1, by omega, by go_num, by rw [HU.out, HUP.out]; exact g2.put 1 _, g4.far (by intro e; exact n24 e.symm) _, by go_grown⟩
                  case measure => simp [intOf]; omega
              · have HUP := Lib.hid (show upd y 3 v = { y with s := 2147483647 } from by simp [upd, clamp_hi v d2])
                have cj := g2.cell 1
                have fj := g2.frozen 1
                simp only [cs5] at cj
                simp at cj
                go_wp2_with fail
                all_goals
                  go_roundw
                  case rel => exact ⟨q + 1, by omega, by go_num, by rw [HU.out, HUP.out]; exact g2.put 1 _, g4.far (by intro e; exact n24 e.symm) _, by go_grown⟩
                  case measure => simp [intOf]; omega
          by_cases e4 : i = 4
          · subst e4
            rcases Int.lt_trichotomy v 0 with d | d | d
            · have HUP := Lib.hid (show upd y 4 v = { y with w := 0 } from by simp [upd, clamp_lo v d])
              have cj := g2.cell 2
              have fj := g2.frozen 2
              simp only [cs5] at cj
              simp at cj
              go_wp2_with fail
              all_goals
                go_roundw
                case rel => exact ⟨q + 1, by omega, by go_num, by rw [HU.out, HUP.out]; exact g2.put 2 _, g4.far (by intro e; exact n24 e.symm) _, by go_grown⟩
                case measure => simp [intOf]; omega
            · subst d
              have HUP := Lib.hid (show upd y 4 0 = { y with w := 0 } from by simp [upd, clamp_in 0 (by omega) (by omega)])
              have cj := g2.cell 2
              have fj := g2.frozen 2
              simp only [cs5] at cj
              simp at cj
              go_wp2_with fail
              all_goals
                go_roundw
                case rel => exact ⟨q + 1, by omega, by go_num, by rw [HU.out, HUP.out]; exact g2.put 2 _, g4.far (by intro e; exact n24 e.symm) _, by go_grown⟩
                case measure => simp [intOf]; omega
            · rcases Int.lt_trichotomy v 2147483647 with d2 | d2 | d2
              · have HUP := Lib.hid (show upd y 4 v = { y with w := v } from by simp [upd, clamp_in v (by omega) (by omega)])
                have cj := g2.cell 2
                have fj := g2.frozen 2
                simp only [cs5] at cj
                simp at cj
                go_wp2_with fail
                all_goals
                  go_roundw
                  case rel => exact ⟨q + 1, by omega, by go_num, by rw [HU.out, HUP.out]; exact g2.put 2 _, g4.far (by intro e; exact n24 e.symm) _, by go_grown⟩
                  case measure => simp [intOf]; omega
              · subst d2
                have HUP := Lib.hid (show upd y 4 2147483647 = { y with w := 2147483647 } from by simp [upd, clamp_in 2147483647 (by omega) (by omega)])
                have cj := g2.cell 2
                have fj := g2.frozen 2
                simp only [cs5] at cj
                simp at cj
                go_wp2_with fail
                all_goals
                  go_roundw
                  case rel => exact ⟨q + 1, by omega, by go_num, by rw [HU.out, HUP.out]; exact g2.put 2 _, g4.far (by intro e; exact n24 e.symm) _, by go_grown⟩
                  case measure => simp [intOf]; omega
              · have HUP := Lib.hid (show upd y 4 v = { y with w := 2147483647 } from by simp [upd, clamp_hi v d2])
                have cj := g2.cell 2
                have fj := g2.frozen 2
                simp only [cs5] at cj
                simp at cj
                go_wp2_with fail
                all_goals
                  go_roundw
                  case rel => exact ⟨q + 1, by omega, by go_num, by rw [HU.out, HUP.out]; exact g2.put 2 _, g4.far (by intro e; exact n24 e.symm) _, by go_grown⟩
                  case measure => simp [intOf]; omega
          by_cases e5 : i = 5
          · subst e5
            rcases Int.lt_trichotomy v 0 with d | d | d
            · have HUP := Lib.hid (show upd y 5 v = { y with f := 0 } from by simp [upd, clamp_lo v d])
              have cj := g2.cell 3
              have fj := g2.frozen 3
              simp only [cs5] at cj
              simp at cj
              go_wp2_with fail
              all_goals
                go_roundw
                case rel => exact ⟨q + 1, by omega, by go_num, by rw [HU.out, HUP.out]; exact g2.put 3 _, g4.far (by intro e; exact n24 e.symm) _, by go_grown⟩
                case measure => simp [intOf]; omega
            · subst d
              have HUP := Lib.hid (show upd y 5 0 = { y with f := 0 } from by simp [upd, clamp_in 0 (by omega) (by omega)])
              have cj := g2.cell 3
              have fj := g2.frozen 3
              simp only [cs5] at cj
              simp at cj
              go_wp2_with fail
              all_goals
                go_roundw
                case rel => exact ⟨q + 1, by omega, by go_num, by rw [HU.out, HUP.out]; exact g2.put 3 _, g4.far (by intro e; exact n24 e.symm) _, by go_grown⟩
                case measure => simp [intOf]; omega
            · rcases Int.lt_trichotomy v 2147483647 with d2 | d2 | d2
              · have HUP := Lib.hid (show upd y 5 v = { y with f := v } from by simp [upd, clamp_in v (by omega) (by omega)])
                have cj := g2.cell 3
                have fj := g2.frozen 3
                simp only [cs5] at cj
                simp at cj
                go_wp2_with fail
                all_goals
                  go_roundw
                  case rel => exact ⟨q + 1, by omega, by go_num, by rw [HU.out, HUP.out]; exact g2.put 3 _, g4.far (by intro e; exact n24 e.symm) _, by go_grown⟩
                  case measure => simp [intOf]; omega
              · subst d2
                have HUP := Lib.hid (show upd y 5 2147483647 = { y with f := 2147483647 } from by simp [upd, clamp_in 2147483647 (by omega) (by omega)])
                have cj := g2.cell 3
                have fj := g2.frozen 3
                simp only [cs5] at cj
                simp at cj
                go_wp2_with fail
                all_goals
                  go_roundw
                  case rel => exact ⟨q + 1, by omega, by go_num, by rw [HU.out, HUP.out]; exact g2.put 3 _, g4.far (by intro e; exact n24 e.symm) _, by go_grown⟩
                  case measure => simp [intOf]; omega
              · have HUP := Lib.hid (show upd y 5 v = { y with f := 2147483647 } from by simp [upd, clamp_hi v d2])
                have cj := g2.cell 3
                have fj := g2.frozen 3
                simp only [cs5] at cj
                simp at cj
                go_wp2_with fail
                all_goals
                  go_roundw
                  case rel => exact ⟨q + 1, by omega, by go_num, by rw [HU.out, HUP.out]; exact g2.put 3 _, g4.far (by intro e; exact n24 e.symm) _, by go_grown⟩
                  case measure => simp [intOf]; omega
          by_cases e6 : i = 6
          · subst e6
            rcases Int.lt_trichotomy v 0 with d | d | d
            · have HUP := Lib.hid (show upd y 6 v = { y with l := 0 } from by simp [upd, clamp_lo v d])
              have cj := g2.cell 4
              have fj := g2.frozen 4
              simp only [cs5] at cj
              simp at cj
              go_wp2_with fail
              all_goals
                go_roundw
                case rel => exact ⟨q + 1, by omega, by go_num, by rw [HU.out, HUP.out]; exact g2.put 4 _, g4.far (by intro e; exact n24 e.symm) _, by go_grown⟩
                case measure => simp [intOf]; omega
            · subst d
              have HUP := Lib.hid (show upd y 6 0 = { y with l := 0 } from by simp [upd, clamp_in 0 (by omega) (by omega)])
              have cj := g2.cell 4
              have fj := g2.frozen 4
              simp only [cs5] at cj
              simp at cj
              go_wp2_with fail
              all_goals
                go_roundw
                case rel => exact ⟨q + 1, by omega, by go_num, by rw [HU.out, HUP.out]; exact g2.put 4 _, g4.far (by intro e; exact n24 e.symm) _, by go_grown⟩
                case measure => simp [intOf]; omega
            · rcases Int.lt_trichotomy v 2147483647 with d2 | d2 | d2
              · have HUP := Lib.hid (show upd y 6 v = { y with l := v } from by simp [upd, clamp_in v (by omega) (by omega)])
                have cj := g2.cell 4
                have fj := g2.frozen 4
                simp only [cs5] at cj
                simp at cj
                go_wp2_with fail
                all_goals
                  go_roundw
                  case rel => exact ⟨q + 1, by omega, by go_num, by rw [HU.out, HUP.out]; exact g2.put 4 _, g4.far (by intro e; exact n24 e.symm) _, by go_grown⟩
                  case measure => simp [intOf]; omega
              · subst d2
                have HUP := Lib.hid (show upd y 6 2147483647 = { y with l := 2147483647 } from by simp [upd, clamp_in 2147483647 (by omega) (by omega)])
                have cj := g2.cell 4
                have fj := g2.frozen 4
                simp only [cs5] at cj
                simp at cj
                go_wp2_with fail
                all_goals
                  go_roundw
                  case rel => exact ⟨q + 1, by omega, by go_num, by rw [HU.out, HUP.out]; exact g2.put 4 _, g4.far (by intro e; exact n24 e.symm) _, by go_grown⟩
                  case measure => simp [intOf]; omega
              · have HUP := Lib.hid (show upd y 6 v = { y with l := 2147483647 } from by simp [upd, clamp_hi v d2])
                have cj := g2.cell 4
                have fj := g2.frozen 4
                simp only [cs5] at cj
                simp at cj
                go_wp2_with fail
                all_goals
                  go_roundw
                  case rel => exact ⟨q + 1, by omega, by go_num, by rw [HU.out, HUP.out]; exact g2.put 4 _, g4.far (by intro e; exact n24 e.symm) _, by go_grown⟩
                  case measure => simp [intOf]; omega
          · have HUP := Lib.hid (show upd y i v = y from by simp [upd, e1, e3, e4, e5, e6])
            have z1 : (i == 1) = false := by simpa using e1
            have z3 : (i == 3) = false := by simpa using e3
            have z4 : (i == 4) = false := by simpa using e4
            have z5 : (i == 5) = false := by simpa using e5
            have z6 : (i == 6) = false := by simpa using e6
            clear e1 e3 e4 e5 e6
            rcases Int.lt_trichotomy v 0 with d | d | d
            · go_wp2_with fail
              all_goals
                go_roundw
                case rel => exact ⟨q + 1, by omega, by go_num, by rw [HU.out, HUP.out]; exact g2, g4, by go_grown⟩
                case measure => simp [intOf]; omega
            · subst d
              go_wp2_with fail
              all_goals
                go_roundw
                case rel => exact ⟨q + 1, by omega, by go_num, by rw [HU.out, HUP.out]; exact g2, g4, by go_grown⟩
                case measure => simp [intOf]; omega
            · rcases Int.lt_trichotomy v 2147483647 with d2 | d2 | d2
              · go_wp2_with fail
                all_goals
                  go_roundw
                  case rel => exact ⟨q + 1, by omega, by go_num, by rw [HU.out, HUP.out]; exact g2, g4, by go_grown⟩
                  case measure => simp [intOf]; omega
              · subst d2
                go_wp2_with fail
                all_goals
                  go_roundw
                  case rel => exact ⟨q + 1, by omega, by go_num, by rw [HU.out, HUP.out]; exact g2, g4, by go_grown⟩
                  case measure => simp [intOf]; omega
              · go_wp2_with fail
                all_goals
                  go_roundw
                  case rel => exact ⟨q + 1, by omega, by go_num, by rw [HU.out, HUP.out]; exact g2, g4, by go_grown⟩
                  case measure => simp [intOf]; omega
        · obtain rfl : q = k := by omega
          have HA := Lib.hid (show Ans Z x q (ap Z x q) 0 from .inl ⟨hfineN.out, rfl, rfl⟩)
          clear hfineN HU
          generalize ap Z x q = y at *
          go_wp2_with (first | (refine wpList_load_row rfl 23 (.tmp 2) rfl b2 rfl 23 _ _ _ g2 Try.underlying23 rfl (by kernel_rfl) ?_) | (refine wpList_store_row rfl 23 (.tmp 4) (.tmp 63) rfl b4 rfl (cs5 y) rfl 23 _ g4 rfl (by kernel_rfl) (by simp [cs5, Value.oneCell']) ?_; intro X2 hX5 hgr hsz))
          refine bodyPost_ret (results_cell_tmp rfl _ b4 23 _ _ rfl hX5 Try.underlying23 rfl (by kernel_rfl)) rfl ⟨y, 0, HA.out, rfl, hB'.grown hgr hBs' (fun g hg => by cases hg; omega)⟩
end Go.Proofs.Ytdlmocjkhkopgaa
