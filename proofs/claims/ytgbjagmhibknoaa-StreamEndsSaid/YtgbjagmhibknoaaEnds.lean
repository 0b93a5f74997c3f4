/- StreamEnds. -/
import Derived.Test.YtgbjagmhibknoaaRuns
import Derived.Test.YtgbjagmhibknoaaBlk
namespace Go.Proofs.Ytgbjagmhibknoaa
open Go.ChangeShapes Go.WideShapes Go.ChangeAt Go.RowKit
set_option linter.unusedVariables false
set_option linter.unusedSimpArgs false

/-- What holds of the state, of the two ends and of the reset. -/
def EI (s : Int) (r b0 b1 : Bool) : Prop :=
  (s = 0 ∧ r = false ∧ b0 = false ∧ b1 = false) ∨ (s = 1 ∧ r = false ∧ b0 = false ∧ b1 = false) ∨ (s = 2 ∧ r = false ∧ b0 = false ∧ b1 = true) ∨ (s = 3 ∧ r = false ∧ b0 = true ∧ b1 = false) ∨
  (s = 4 ∧ (r = true ∨ (r = false ∧ b0 = true ∧ b1 = true)))
theorem nB_false (s e : Int) (h : nB s e = false) : nS s e = s := by
  unfold nB nS nx at *
  split at h
  · rename_i hb; rw [if_pos hb]
  · rename_i hb
    rw [if_neg hb]
    split at h
    · rename_i h0
      rw [if_pos h0]
      split at h
      · cases h
      · split at h
        · cases h
        · rename_i h1 h2; rw [if_neg h1, if_neg h2]; exact h0.symm
    · rename_i h0
      rw [if_neg h0]
      split at h
      · rename_i h1
        rw [if_pos h1]
        split at h
        · cases h
        · rename_i h2
          rw [if_neg h2]
          split at h
          · rename_i h3; rw [if_pos h3]
          · rename_i h3
            rw [if_neg h3]
            split at h
            · split at h <;> cases h
            · cases h
      · rename_i h1; rw [if_neg h1]
def okPairs : List (Int × Int) := [(0, 1), (0, 2), (0, 11), (0, 12), (1, 1), (1, 2), (1, 3), (1, 4), (1, 5), (1, 11), (1, 12), (1, 13), (1, 14), (1, 15), (2, 1), (2, 2), (2, 3), (2, 4), (2, 5), (2, 15), (3, 5), (3, 11), (3, 12), (3, 13), (3, 14), (3, 15)]
theorem ok_pairs (s e : Int) (hs0 : 0 ≤ s) (hs1 : s ≤ 4) (h : nB s e = true) : (s, e) ∈ okPairs := by
  by_cases he : e < 1 ∨ 15 < e ∨ (5 < e ∧ e < 11)
  · rw [(nx_bad s e he).2] at h; cases h
  have hs : s = 0 ∨ s = 1 ∨ s = 2 ∨ s = 3 ∨ s = 4 := by omega
  have he : e = 1 ∨ e = 2 ∨ e = 3 ∨ e = 4 ∨ e = 5 ∨ e = 11 ∨ e = 12 ∨ e = 13 ∨ e = 14 ∨ e = 15 := by omega
  rcases hs with rfl | rfl | rfl | rfl | rfl <;> rcases he with rfl | rfl | rfl | rfl | rfl | rfl | rfl | rfl | rfl | rfl <;> first | decide | (exact absurd h (by decide))

set_option maxHeartbeats 20000000 in
set_option maxRecDepth 100000 in
theorem ends_any (v : Value) (n : Nat) (Z : Nat → Int) (w : World) (hR : Row1 w v n Z) :
    Calls Try.prog 5 #[v] w fun e w' => e = .returned (.bool true) ∧ Below w.heap.size w w' := by
  obtain ⟨A, cap, rfl, hn, hZ, hcell⟩ := hR
  have HC := Lib.hid hcell
  have HZ := Lib.hid hZ
  clear hcell hZ
  go_enter Try.func5, Try.ntmps5
  go_wp2_with fail
  refine wp_forget (fun W => Below w.heap.size w W ∧ Blk W w.heap.size 30 #[.bool false, .bool false]) ⟨by go_grown, Blk.new_at rfl⟩ ?_
  rintro W ⟨hBW, hS⟩
  obtain ⟨b4, hb4⟩ : ∃ b4, b4 = w.heap.size := ⟨_, rfl⟩
  have b40 : w.heap.size ≤ b4 := by omega
  rw [← hb4] at hS ⊢
  clear hb4
  go_loopw [3, 5, 6] (fun ts tr i wr => ∃ (k : Nat) (s : Int) (r c0 c1 : Bool), k ≤ n ∧ k ≤ 100 ∧ i = .int .i64 k ∧ ts = .int .i64 s ∧ tr = .bool r ∧ Hid (EI s r c0 c1) ∧ Blk wr b4 30 #[.bool c0, .bool c1] ∧ Below w.heap.size w wr) (fun _ _ i _ => 100 - (intOf i).toNat)
  case atStart => exact ⟨0, 0, false, false, false, Nat.zero_le _, Nat.zero_le _, rfl, rfl, rfl, Lib.hid (.inl ⟨rfl, rfl, rfl, rfl⟩), hS, hBW⟩
  case round =>
    obtain ⟨k, s, r, c0, c1, hk, hk2, rfl, rfl, rfl, hE, hS', hB⟩ := hrel
    clear hS hBW
    have hBs := hB.size
    have hc0 := hS'.cell 0
    have hc1 := hS'.cell 1
    have hf0 := hS'.frozen 0
    have hf1 := hS'.frozen 1
    simp at hc0 hc1
    by_cases hlt : k < n ∧ k < 100
    · obtain ⟨hlt1, hlt2⟩ := hlt
      obtain ⟨bb, off, rfl, hb0, hcell⟩ := HC.out (by omega)
      have hc : wr.cell? ⟨bb, off + k, none⟩ = some (.int .i64 (Z k)) := by rw [hB.cell (p := ⟨bb, _, none⟩) hb0]; exact hcell k hlt1
      obtain ⟨z0, z1⟩ := HZ.out k hlt1
      clear hcell
      generalize Z k = e at *
      by_cases hq : nB s e = true
      · have hs0 : 0 ≤ s ∧ s ≤ 4 := by have := hE.out; unfold EI at this; omega
        have hp := ok_pairs s e hs0.1 hs0.2 hq
        clear hs0 hq
        simp only [okPairs, List.mem_cons, Prod.mk.injEq, List.not_mem_nil, or_false] at hp
        have hE' := hE.out
        clear hE
        unfold EI at hE'
        rcases hp with ⟨rfl, rfl⟩ | ⟨rfl, rfl⟩ | ⟨rfl, rfl⟩ | ⟨rfl, rfl⟩ | ⟨rfl, rfl⟩ | ⟨rfl, rfl⟩ | ⟨rfl, rfl⟩ | ⟨rfl, rfl⟩ | ⟨rfl, rfl⟩ | ⟨rfl, rfl⟩ | ⟨rfl, rfl⟩ | ⟨rfl, rfl⟩ | ⟨rfl, rfl⟩ | ⟨rfl, rfl⟩ | ⟨rfl, rfl⟩ | ⟨rfl, rfl⟩ | ⟨rfl, rfl⟩ | ⟨rfl, rfl⟩ | ⟨rfl, rfl⟩ | ⟨rfl, rfl⟩ | ⟨rfl, rfl⟩ | ⟨rfl, rfl⟩ | ⟨rfl, rfl⟩ | ⟨rfl, rfl⟩ | ⟨rfl, rfl⟩ | ⟨rfl, rfl⟩
        · simp only [Int.reduceEq, false_and, false_or, or_false, true_and] at hE'
          obtain ⟨rfl, rfl, rfl⟩ := hE'
          have HN := Lib.hid (show nS 0 1 = 3 ∧ nB 0 1 = true by decide)
          go_wp2_with fail
          refine (next_any _ _ _ z0 z1).mono ?_
          rintro en w1 ⟨he, rfl⟩
          rw [HN.out.1, HN.out.2] at he
          subst he
          go_wp2_with fail
          go_roundw
          case rel => exact ⟨k + 1, 3, false, true, false, by omega, by omega, by go_num, rfl, rfl, Lib.hid (.inr (.inr (.inr (.inl ⟨rfl, rfl, rfl, rfl⟩)))), hS'.put 0 _, by go_grown⟩
          case measure => simp [intOf]; omega
        · simp only [Int.reduceEq, false_and, false_or, or_false, true_and] at hE'
          obtain ⟨rfl, rfl, rfl⟩ := hE'
          have HN := Lib.hid (show nS 0 2 = 1 ∧ nB 0 2 = true by decide)
          go_wp2_with fail
          refine (next_any _ _ _ z0 z1).mono ?_
          rintro en w1 ⟨he, rfl⟩
          rw [HN.out.1, HN.out.2] at he
          subst he
          go_wp2_with fail
          go_roundw
          case rel => exact ⟨k + 1, 1, false, false, false, by omega, by omega, by go_num, rfl, rfl, Lib.hid (.inr (.inl ⟨rfl, rfl, rfl, rfl⟩)), hS', by go_grown⟩
          case measure => simp [intOf]; omega
        · simp only [Int.reduceEq, false_and, false_or, or_false, true_and] at hE'
          obtain ⟨rfl, rfl, rfl⟩ := hE'
          have HN := Lib.hid (show nS 0 11 = 2 ∧ nB 0 11 = true by decide)
          go_wp2_with fail
          refine (next_any _ _ _ z0 z1).mono ?_
          rintro en w1 ⟨he, rfl⟩
          rw [HN.out.1, HN.out.2] at he
          subst he
          go_wp2_with fail
          go_roundw
          case rel => exact ⟨k + 1, 2, false, false, true, by omega, by omega, by go_num, rfl, rfl, Lib.hid (.inr (.inr (.inl ⟨rfl, rfl, rfl, rfl⟩))), hS'.put 1 _, by go_grown⟩
          case measure => simp [intOf]; omega
        · simp only [Int.reduceEq, false_and, false_or, or_false, true_and] at hE'
          obtain ⟨rfl, rfl, rfl⟩ := hE'
          have HN := Lib.hid (show nS 0 12 = 1 ∧ nB 0 12 = true by decide)
          go_wp2_with fail
          refine (next_any _ _ _ z0 z1).mono ?_
          rintro en w1 ⟨he, rfl⟩
          rw [HN.out.1, HN.out.2] at he
          subst he
          go_wp2_with fail
          go_roundw
          case rel => exact ⟨k + 1, 1, false, false, false, by omega, by omega, by go_num, rfl, rfl, Lib.hid (.inr (.inl ⟨rfl, rfl, rfl, rfl⟩)), hS', by go_grown⟩
          case measure => simp [intOf]; omega
        · simp only [Int.reduceEq, false_and, false_or, or_false, true_and] at hE'
          obtain ⟨rfl, rfl, rfl⟩ := hE'
          have HN := Lib.hid (show nS 1 1 = 3 ∧ nB 1 1 = true by decide)
          go_wp2_with fail
          refine (next_any _ _ _ z0 z1).mono ?_
          rintro en w1 ⟨he, rfl⟩
          rw [HN.out.1, HN.out.2] at he
          subst he
          go_wp2_with fail
          go_roundw
          case rel => exact ⟨k + 1, 3, false, true, false, by omega, by omega, by go_num, rfl, rfl, Lib.hid (.inr (.inr (.inr (.inl ⟨rfl, rfl, rfl, rfl⟩)))), hS'.put 0 _, by go_grown⟩
          case measure => simp [intOf]; omega
        · simp only [Int.reduceEq, false_and, false_or, or_false, true_and] at hE'
          obtain ⟨rfl, rfl, rfl⟩ := hE'
          have HN := Lib.hid (show nS 1 2 = 1 ∧ nB 1 2 = true by decide)
          go_wp2_with fail
          refine (next_any _ _ _ z0 z1).mono ?_
          rintro en w1 ⟨he, rfl⟩
          rw [HN.out.1, HN.out.2] at he
          subst he
          go_wp2_with fail
          go_roundw
          case rel => exact ⟨k + 1, 1, false, false, false, by omega, by omega, by go_num, rfl, rfl, Lib.hid (.inr (.inl ⟨rfl, rfl, rfl, rfl⟩)), hS', by go_grown⟩
          case measure => simp [intOf]; omega
        · simp only [Int.reduceEq, false_and, false_or, or_false, true_and] at hE'
          obtain ⟨rfl, rfl, rfl⟩ := hE'
          have HN := Lib.hid (show nS 1 3 = 3 ∧ nB 1 3 = true by decide)
          go_wp2_with fail
          refine (next_any _ _ _ z0 z1).mono ?_
          rintro en w1 ⟨he, rfl⟩
          rw [HN.out.1, HN.out.2] at he
          subst he
          go_wp2_with fail
          go_roundw
          case rel => exact ⟨k + 1, 3, false, true, false, by omega, by omega, by go_num, rfl, rfl, Lib.hid (.inr (.inr (.inr (.inl ⟨rfl, rfl, rfl, rfl⟩)))), hS'.put 0 _, by go_grown⟩
          case measure => simp [intOf]; omega
        · simp only [Int.reduceEq, false_and, false_or, or_false, true_and] at hE'
          obtain ⟨rfl, rfl, rfl⟩ := hE'
          have HN := Lib.hid (show nS 1 4 = 1 ∧ nB 1 4 = true by decide)
          go_wp2_with fail
          refine (next_any _ _ _ z0 z1).mono ?_
          rintro en w1 ⟨he, rfl⟩
          rw [HN.out.1, HN.out.2] at he
          subst he
          go_wp2_with fail
          go_roundw
          case rel => exact ⟨k + 1, 1, false, false, false, by omega, by omega, by go_num, rfl, rfl, Lib.hid (.inr (.inl ⟨rfl, rfl, rfl, rfl⟩)), hS', by go_grown⟩
          case measure => simp [intOf]; omega
        · simp only [Int.reduceEq, false_and, false_or, or_false, true_and] at hE'
          obtain ⟨rfl, rfl, rfl⟩ := hE'
          have HN := Lib.hid (show nS 1 5 = 4 ∧ nB 1 5 = true by decide)
          go_wp2_with fail
          refine (next_any _ _ _ z0 z1).mono ?_
          rintro en w1 ⟨he, rfl⟩
          rw [HN.out.1, HN.out.2] at he
          subst he
          go_wp2_with fail
          go_roundw
          case rel => exact ⟨k + 1, 4, true, false, false, by omega, by omega, by go_num, rfl, rfl, Lib.hid (.inr (.inr (.inr (.inr ⟨rfl, .inl rfl⟩)))), hS', by go_grown⟩
          case measure => simp [intOf]; omega
        · simp only [Int.reduceEq, false_and, false_or, or_false, true_and] at hE'
          obtain ⟨rfl, rfl, rfl⟩ := hE'
          have HN := Lib.hid (show nS 1 11 = 2 ∧ nB 1 11 = true by decide)
          go_wp2_with fail
          refine (next_any _ _ _ z0 z1).mono ?_
          rintro en w1 ⟨he, rfl⟩
          rw [HN.out.1, HN.out.2] at he
          subst he
          go_wp2_with fail
          go_roundw
          case rel => exact ⟨k + 1, 2, false, false, true, by omega, by omega, by go_num, rfl, rfl, Lib.hid (.inr (.inr (.inl ⟨rfl, rfl, rfl, rfl⟩))), hS'.put 1 _, by go_grown⟩
          case measure => simp [intOf]; omega
        · simp only [Int.reduceEq, false_and, false_or, or_false, true_and] at hE'
          obtain ⟨rfl, rfl, rfl⟩ := hE'
          have HN := Lib.hid (show nS 1 12 = 1 ∧ nB 1 12 = true by decide)
          go_wp2_with fail
          refine (next_any _ _ _ z0 z1).mono ?_
          rintro en w1 ⟨he, rfl⟩
          rw [HN.out.1, HN.out.2] at he
          subst he
          go_wp2_with fail
          go_roundw
          case rel => exact ⟨k + 1, 1, false, false, false, by omega, by omega, by go_num, rfl, rfl, Lib.hid (.inr (.inl ⟨rfl, rfl, rfl, rfl⟩)), hS', by go_grown⟩
          case measure => simp [intOf]; omega
        · simp only [Int.reduceEq, false_and, false_or, or_false, true_and] at hE'
          obtain ⟨rfl, rfl, rfl⟩ := hE'
          have HN := Lib.hid (show nS 1 13 = 2 ∧ nB 1 13 = true by decide)
          go_wp2_with fail
          refine (next_any _ _ _ z0 z1).mono ?_
          rintro en w1 ⟨he, rfl⟩
          rw [HN.out.1, HN.out.2] at he
          subst he
          go_wp2_with fail
          go_roundw
          case rel => exact ⟨k + 1, 2, false, false, true, by omega, by omega, by go_num, rfl, rfl, Lib.hid (.inr (.inr (.inl ⟨rfl, rfl, rfl, rfl⟩))), hS'.put 1 _, by go_grown⟩
          case measure => simp [intOf]; omega
        · simp only [Int.reduceEq, false_and, false_or, or_false, true_and] at hE'
          obtain ⟨rfl, rfl, rfl⟩ := hE'
          have HN := Lib.hid (show nS 1 14 = 1 ∧ nB 1 14 = true by decide)
          go_wp2_with fail
          refine (next_any _ _ _ z0 z1).mono ?_
          rintro en w1 ⟨he, rfl⟩
          rw [HN.out.1, HN.out.2] at he
          subst he
          go_wp2_with fail
          go_roundw
          case rel => exact ⟨k + 1, 1, false, false, false, by omega, by omega, by go_num, rfl, rfl, Lib.hid (.inr (.inl ⟨rfl, rfl, rfl, rfl⟩)), hS', by go_grown⟩
          case measure => simp [intOf]; omega
        · simp only [Int.reduceEq, false_and, false_or, or_false, true_and] at hE'
          obtain ⟨rfl, rfl, rfl⟩ := hE'
          have HN := Lib.hid (show nS 1 15 = 4 ∧ nB 1 15 = true by decide)
          go_wp2_with fail
          refine (next_any _ _ _ z0 z1).mono ?_
          rintro en w1 ⟨he, rfl⟩
          rw [HN.out.1, HN.out.2] at he
          subst he
          go_wp2_with fail
          go_roundw
          case rel => exact ⟨k + 1, 4, true, false, false, by omega, by omega, by go_num, rfl, rfl, Lib.hid (.inr (.inr (.inr (.inr ⟨rfl, .inl rfl⟩)))), hS', by go_grown⟩
          case measure => simp [intOf]; omega
        · simp only [Int.reduceEq, false_and, false_or, or_false, true_and] at hE'
          obtain ⟨rfl, rfl, rfl⟩ := hE'
          have HN := Lib.hid (show nS 2 1 = 4 ∧ nB 2 1 = true by decide)
          go_wp2_with fail
          refine (next_any _ _ _ z0 z1).mono ?_
          rintro en w1 ⟨he, rfl⟩
          rw [HN.out.1, HN.out.2] at he
          subst he
          go_wp2_with fail
          go_roundw
          case rel => exact ⟨k + 1, 4, false, true, true, by omega, by omega, by go_num, rfl, rfl, Lib.hid (.inr (.inr (.inr (.inr ⟨rfl, .inr ⟨rfl, rfl, rfl⟩⟩)))), hS'.put 0 _, by go_grown⟩
          case measure => simp [intOf]; omega
        · simp only [Int.reduceEq, false_and, false_or, or_false, true_and] at hE'
          obtain ⟨rfl, rfl, rfl⟩ := hE'
          have HN := Lib.hid (show nS 2 2 = 2 ∧ nB 2 2 = true by decide)
          go_wp2_with fail
          refine (next_any _ _ _ z0 z1).mono ?_
          rintro en w1 ⟨he, rfl⟩
          rw [HN.out.1, HN.out.2] at he
          subst he
          go_wp2_with fail
          go_roundw
          case rel => exact ⟨k + 1, 2, false, false, true, by omega, by omega, by go_num, rfl, rfl, Lib.hid (.inr (.inr (.inl ⟨rfl, rfl, rfl, rfl⟩))), hS', by go_grown⟩
          case measure => simp [intOf]; omega
        · simp only [Int.reduceEq, false_and, false_or, or_false, true_and] at hE'
          obtain ⟨rfl, rfl, rfl⟩ := hE'
          have HN := Lib.hid (show nS 2 3 = 4 ∧ nB 2 3 = true by decide)
          go_wp2_with fail
          refine (next_any _ _ _ z0 z1).mono ?_
          rintro en w1 ⟨he, rfl⟩
          rw [HN.out.1, HN.out.2] at he
          subst he
          go_wp2_with fail
          go_roundw
          case rel => exact ⟨k + 1, 4, false, true, true, by omega, by omega, by go_num, rfl, rfl, Lib.hid (.inr (.inr (.inr (.inr ⟨rfl, .inr ⟨rfl, rfl, rfl⟩⟩)))), hS'.put 0 _, by go_grown⟩
          case measure => simp [intOf]; omega
        · simp only [Int.reduceEq, false_and, false_or, or_false, true_and] at hE'
          obtain ⟨rfl, rfl, rfl⟩ := hE'
          have HN := Lib.hid (show nS 2 4 = 2 ∧ nB 2 4 = true by decide)
          go_wp2_with fail
          refine (next_any _ _ _ z0 z1).mono ?_
          rintro en w1 ⟨he, rfl⟩
          rw [HN.out.1, HN.out.2] at he
          subst he
          go_wp2_with fail
          go_roundw
          case rel => exact ⟨k + 1, 2, false, false, true, by omega, by omega, by go_num, rfl, rfl, Lib.hid (.inr (.inr (.inl ⟨rfl, rfl, rfl, rfl⟩))), hS', by go_grown⟩
          case measure => simp [intOf]; omega
        · simp only [Int.reduceEq, false_and, false_or, or_false, true_and] at hE'
          obtain ⟨rfl, rfl, rfl⟩ := hE'
          have HN := Lib.hid (show nS 2 5 = 4 ∧ nB 2 5 = true by decide)
          go_wp2_with fail
          refine (next_any _ _ _ z0 z1).mono ?_
          rintro en w1 ⟨he, rfl⟩
          rw [HN.out.1, HN.out.2] at he
          subst he
          go_wp2_with fail
          go_roundw
          case rel => exact ⟨k + 1, 4, true, false, true, by omega, by omega, by go_num, rfl, rfl, Lib.hid (.inr (.inr (.inr (.inr ⟨rfl, .inl rfl⟩)))), hS', by go_grown⟩
          case measure => simp [intOf]; omega
        · simp only [Int.reduceEq, false_and, false_or, or_false, true_and] at hE'
          obtain ⟨rfl, rfl, rfl⟩ := hE'
          have HN := Lib.hid (show nS 2 15 = 4 ∧ nB 2 15 = true by decide)
          go_wp2_with fail
          refine (next_any _ _ _ z0 z1).mono ?_
          rintro en w1 ⟨he, rfl⟩
          rw [HN.out.1, HN.out.2] at he
          subst he
          go_wp2_with fail
          go_roundw
          case rel => exact ⟨k + 1, 4, true, false, true, by omega, by omega, by go_num, rfl, rfl, Lib.hid (.inr (.inr (.inr (.inr ⟨rfl, .inl rfl⟩)))), hS', by go_grown⟩
          case measure => simp [intOf]; omega
        · simp only [Int.reduceEq, false_and, false_or, or_false, true_and] at hE'
          obtain ⟨rfl, rfl, rfl⟩ := hE'
          have HN := Lib.hid (show nS 3 5 = 4 ∧ nB 3 5 = true by decide)
          go_wp2_with fail
          refine (next_any _ _ _ z0 z1).mono ?_
          rintro en w1 ⟨he, rfl⟩
          rw [HN.out.1, HN.out.2] at he
          subst he
          go_wp2_with fail
          go_roundw
          case rel => exact ⟨k + 1, 4, true, true, false, by omega, by omega, by go_num, rfl, rfl, Lib.hid (.inr (.inr (.inr (.inr ⟨rfl, .inl rfl⟩)))), hS', by go_grown⟩
          case measure => simp [intOf]; omega
        · simp only [Int.reduceEq, false_and, false_or, or_false, true_and] at hE'
          obtain ⟨rfl, rfl, rfl⟩ := hE'
          have HN := Lib.hid (show nS 3 11 = 4 ∧ nB 3 11 = true by decide)
          go_wp2_with fail
          refine (next_any _ _ _ z0 z1).mono ?_
          rintro en w1 ⟨he, rfl⟩
          rw [HN.out.1, HN.out.2] at he
          subst he
          go_wp2_with fail
          go_roundw
          case rel => exact ⟨k + 1, 4, false, true, true, by omega, by omega, by go_num, rfl, rfl, Lib.hid (.inr (.inr (.inr (.inr ⟨rfl, .inr ⟨rfl, rfl, rfl⟩⟩)))), hS'.put 1 _, by go_grown⟩
          case measure => simp [intOf]; omega
        · simp only [Int.reduceEq, false_and, false_or, or_false, true_and] at hE'
          obtain ⟨rfl, rfl, rfl⟩ := hE'
          have HN := Lib.hid (show nS 3 12 = 3 ∧ nB 3 12 = true by decide)
          go_wp2_with fail
          refine (next_any _ _ _ z0 z1).mono ?_
          rintro en w1 ⟨he, rfl⟩
          rw [HN.out.1, HN.out.2] at he
          subst he
          go_wp2_with fail
          go_roundw
          case rel => exact ⟨k + 1, 3, false, true, false, by omega, by omega, by go_num, rfl, rfl, Lib.hid (.inr (.inr (.inr (.inl ⟨rfl, rfl, rfl, rfl⟩)))), hS', by go_grown⟩
          case measure => simp [intOf]; omega
        · simp only [Int.reduceEq, false_and, false_or, or_false, true_and] at hE'
          obtain ⟨rfl, rfl, rfl⟩ := hE'
          have HN := Lib.hid (show nS 3 13 = 4 ∧ nB 3 13 = true by decide)
          go_wp2_with fail
          refine (next_any _ _ _ z0 z1).mono ?_
          rintro en w1 ⟨he, rfl⟩
          rw [HN.out.1, HN.out.2] at he
          subst he
          go_wp2_with fail
          go_roundw
          case rel => exact ⟨k + 1, 4, false, true, true, by omega, by omega, by go_num, rfl, rfl, Lib.hid (.inr (.inr (.inr (.inr ⟨rfl, .inr ⟨rfl, rfl, rfl⟩⟩)))), hS'.put 1 _, by go_grown⟩
          case measure => simp [intOf]; omega
        · simp only [Int.reduceEq, false_and, false_or, or_false, true_and] at hE'
          obtain ⟨rfl, rfl, rfl⟩ := hE'
          have HN := Lib.hid (show nS 3 14 = 3 ∧ nB 3 14 = true by decide)
          go_wp2_with fail
          refine (next_any _ _ _ z0 z1).mono ?_
          rintro en w1 ⟨he, rfl⟩
          rw [HN.out.1, HN.out.2] at he
          subst he
          go_wp2_with fail
          go_roundw
          case rel => exact ⟨k + 1, 3, false, true, false, by omega, by omega, by go_num, rfl, rfl, Lib.hid (.inr (.inr (.inr (.inl ⟨rfl, rfl, rfl, rfl⟩)))), hS', by go_grown⟩
          case measure => simp [intOf]; omega
        · simp only [Int.reduceEq, false_and, false_or, or_false, true_and] at hE'
          obtain ⟨rfl, rfl, rfl⟩ := hE'
          have HN := Lib.hid (show nS 3 15 = 4 ∧ nB 3 15 = true by decide)
          go_wp2_with fail
          refine (next_any _ _ _ z0 z1).mono ?_
          rintro en w1 ⟨he, rfl⟩
          rw [HN.out.1, HN.out.2] at he
          subst he
          go_wp2_with fail
          go_roundw
          case rel => exact ⟨k + 1, 4, true, true, false, by omega, by omega, by go_num, rfl, rfl, Lib.hid (.inr (.inr (.inr (.inr ⟨rfl, .inl rfl⟩)))), hS', by go_grown⟩
          case measure => simp [intOf]; omega
      · have HQ := Lib.hid (show nB s e = false by simpa using hq)
        clear hq
        have HX := Lib.hid (nB_false s e HQ.out)
        go_wp2_with fail
        refine (next_any _ _ _ z0 z1).mono ?_
        rintro en w1 ⟨he, rfl⟩
        rw [HX.out, HQ.out] at he
        subst he
        go_wp2_with fail
        go_roundw
        case rel => exact ⟨k + 1, s, r, c0, c1, by omega, by omega, by go_num, rfl, rfl, hE, hS', by go_grown⟩
        case measure => simp [intOf]; omega
    · have hd : n ≤ k ∨ (k < n ∧ 100 ≤ k ∧ decide ((k : Int) < 100) = false) := by
        by_cases h : n ≤ k
        · exact .inl h
        · exact .inr ⟨by omega, by omega, by simp; omega⟩
      clear hlt
      have hE' := hE.out
      clear hE
      unfold EI at hE'
      rcases hE' with ⟨rfl, rfl, rfl, rfl⟩ | ⟨rfl, rfl, rfl, rfl⟩ | ⟨rfl, rfl, rfl, rfl⟩ | ⟨rfl, rfl, rfl, rfl⟩ | ⟨rfl, rfl | ⟨rfl, rfl, rfl⟩⟩
      all_goals
        rcases hd with e1 | ⟨e1, e2, e3⟩
        all_goals
          go_wp2_with (go_at_call 3; refine (runs_any _).mono ?_; rintro e w2 ⟨rfl, hB2⟩)
          go_ret
          exact ⟨rfl, hB.trans (hB2.mono hBs)⟩
end Go.Proofs.Ytgbjagmhibknoaa
