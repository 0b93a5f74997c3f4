import Derived.Test.YtpgfdoakehpnlaaGreatDoorAvM
import Derived.Test.YtpgfdoakehpnlaaGreatDoorAvB
import Derived.Deep.DeepCutAuto
import Derived.Carry
import Derived.Deep.RegionWith
set_option linter.unusedVariables false
set_option linter.unusedSimpArgs false
namespace Go.AM
open Go Go.Proofs Go.ChangeShapes Go.WideShapes Go.ChangeAt Go.RowKit
set_option linter.unusedVariables false
set_option linter.unusedSimpArgs false
/-! # TopVary: token.Value and token.Trim -/
theorem bt_get (s : ByteArray) (i : Nat) (h : i < s.size) : bt s i = ((s[i]'h).toNat : Int) := by unfold bt; rw [dif_pos h]
theorem bt_lo (s : ByteArray) (i : Nat) : 0 ≤ bt s i := by unfold bt; split <;> omega
theorem bt_hi (s : ByteArray) (i : Nat) : bt s i ≤ 255 := by
  unfold bt
  split
  · have := (s[i]).toNat_lt; omega
  · omega
theorem ba_nil (s : ByteArray) (h : s.size = 0) : s = ⟨#[]⟩ := by
  obtain ⟨d⟩ := s
  have : d.size = 0 := h
  rw [Array.eq_empty_of_size_eq_zero this]
theorem plain_any (c : Int) (w : World) : Calls Tryz.prog 98 #[.int .u8 c] w fun e w' => e = .returned (.bool (plainB c)) ∧ w' = w := by
  unfold plainB
  by_cases h1 : 32 ≤ c
  · by_cases h2 : c = 127
    · subst h2
      go_enter Tryz.func98, Tryz.ntmps98
      go_wp2
      go_ret
      exact ⟨rfl, rfl⟩
    · have h3 : (decide (32 ≤ c) && !decide (c = 127) || decide (c = 9)) = true := by simp [h1, h2]
      rw [h3]
      go_enter Tryz.func98, Tryz.ntmps98
      go_wp2
      go_ret
      exact ⟨rfl, rfl⟩
  · by_cases h2 : c = 9
    · subst h2
      go_enter Tryz.func98, Tryz.ntmps98
      go_wp2
      go_ret
      exact ⟨rfl, rfl⟩
    · have h3 : (decide (32 ≤ c) && !decide (c = 127) || decide (c = 9)) = false := by simp [h1, h2]
      have h4 : (c == 9) = false := by simpa using h2
      rw [h3]
      go_enter Tryz.func98, Tryz.ntmps98
      go_wp2
      go_ret
      exact ⟨rfl, rfl⟩
theorem blank_any (c : Int) (w : World) : Calls Tryz.prog 99 #[.int .u8 c] w fun e w' => e = .returned (.bool (blankB c)) ∧ w' = w := by
  unfold blankB
  by_cases h1 : c = 32
  · subst h1
    go_enter Tryz.func99, Tryz.ntmps99
    go_wp2
    go_ret
    exact ⟨rfl, rfl⟩
  · have g1 : (c == 32) = false := by simpa using h1
    by_cases h2 : c = 9
    · subst h2
      go_enter Tryz.func99, Tryz.ntmps99
      go_wp2
      go_ret
      exact ⟨rfl, rfl⟩
    · have g2 : (c == 9) = false := by simpa using h2
      have h3 : (decide (c = 32) || decide (c = 9)) = false := by simp [h1, h2]
      rw [h3]
      go_enter Tryz.func99, Tryz.ntmps99
      go_wp2
      go_ret
      exact ⟨rfl, rfl⟩
theorem allPlain_succ (s : ByteArray) (k : Nat) : allPlain s (k + 1) = (allPlain s k && plainB (bt s k)) := by simp [allPlain, List.range_succ]
theorem allPlain_less {s : ByteArray} {k m : Nat} (h : allPlain s k = false) (hk : k ≤ m) : allPlain s m = false := by
  induction hk with
  | refl => exact h
  | step _ ih => rw [allPlain_succ, ih]; rfl
set_option maxHeartbeats 1000000 in
set_option maxRecDepth 100000 in
theorem value_any (s : ByteArray) (hs : s.size ≤ 9223372036854775807) (w : World) : Calls Tryz.prog 70 #[.string s] w fun e w' => e = .returned (.bool (valueB s)) ∧ w' = w := by
  generalize hres : valueB s = res
  go_enter Tryz.func70, Tryz.ntmps70
  go_wp2
  go_loopw [6] (fun i wr => ∃ k : Nat, k ≤ s.size ∧ i = .int .i64 k ∧ allPlain s k = true ∧ wr = w) (fun i _ => s.size - (intOf i).toNat)
  case atStart => exact ⟨0, Nat.zero_le _, rfl, rfl, rfl⟩
  case round =>
    obtain ⟨k, hk, rfl, hE, rfl⟩ := hrel
    by_cases hlt : k < s.size
    · have hki : (k : Int) < (s.size : Int) := by omega
      have hk0 : 0 ≤ (k : Int) := by omega
      have ek : ((s[k]'hlt).toNat : Int) = bt s k := (bt_get s k hlt).symm
      by_cases hp : plainB (bt s k) = true
      · have hpc : Calls Tryz.prog 98 #[.int .u8 (bt s k)] wr fun e w' => e = .returned (.bool true) ∧ w' = wr := by rw [← hp]; exact plain_any _ _
        go_wp2_with (go_at_call 98; refine hpc.mono ?_; rintro e w1 ⟨rfl, rfl⟩)
        go_roundw
        case rel => exact ⟨k + 1, by omega, by go_num, by rw [allPlain_succ, hE, hp]; rfl, by first | rfl | trivial⟩
        case measure => simp [intOf]; omega
      · have hpf : plainB (bt s k) = false := by simpa using hp
        have hpc : Calls Tryz.prog 98 #[.int .u8 (bt s k)] wr fun e w' => e = .returned (.bool false) ∧ w' = wr := by rw [← hpf]; exact plain_any _ _
        obtain rfl : res = false := by
          rw [← hres]
          unfold valueB
          rw [allPlain_less (k := k + 1) (by rw [allPlain_succ, hpf, Bool.and_false]) (by omega)]; rfl
        go_wp2_with (go_at_call 98; refine hpc.mono ?_; rintro e w1 ⟨rfl, rfl⟩)
        go_ret
        exact ⟨rfl, rfl⟩
    · have hks : k = s.size := by omega
      subst hks
      by_cases h0 : s.size = 0
      · obtain rfl := ba_nil s h0
        obtain rfl : true = res := hres
        go_wp2
        go_ret
        exact ⟨rfl, rfl⟩
      · have z1 : 0 < s.size := by omega
        have z2 : s.size - 1 < s.size := by omega
        have z3 : (0 : Int) < (s.size : Int) := by omega
        have z4 : (s.size : Int) - 1 = ((s.size - 1 : Nat) : Int) := by omega
        have z5 : (s.size : Int) - 1 < (s.size : Int) := by omega
        have z6 : 0 ≤ (s.size : Int) - 1 := by omega
        have e0 : ((s[0]'z1).toNat : Int) = bt s 0 := (bt_get s 0 z1).symm
        have e1 : ((s[s.size - 1]'z2).toNat : Int) = bt s (s.size - 1) := (bt_get s _ z2).symm
        have hne2 : ¬ s.toList = [] := fun h => h0 (by rw [ByteArray.toList_eq] at h; show s.data.size = 0; rw [← Array.length_toList, h]; rfl)
        have hne4 : s.toList.isEmpty = false := by simpa using hne2
        have hc0 := blank_any (bt s 0) wr
        have hc1 := blank_any (bt s (s.size - 1)) wr
        have hres : res = (!blankB (bt s 0) && !blankB (bt s (s.size - 1))) := by
          rw [← hres]
          unfold valueB
          rw [hE]; simp [h0]
        generalize blankB (bt s 0) = b0 at *
        generalize blankB (bt s (s.size - 1)) = b1 at *
        generalize bt s 0 = c0 at *
        generalize bt s (s.size - 1) = c1 at *
        cases b0 <;> cases b1
        all_goals
          subst hres
          go_wp2_with first | (go_at_call_of 99 c0; refine hc0.mono ?_; rintro e w1 ⟨rfl, rfl⟩) | (go_at_call_of 99 c1; refine hc1.mono ?_; rintro e w1 ⟨rfl, rfl⟩)
          go_ret
          first | exact ⟨rfl, rfl⟩ | exact ⟨by show Ending.returned (.bool s.toList.isEmpty) = _; rw [hne4]; rfl, rfl⟩
set_option maxHeartbeats 1000000 in
set_option maxRecDepth 100000 in
theorem trim_any (s : ByteArray) (hs : s.size ≤ 9223372036854775807) (h : valueB s = true) (w : World) : Calls Tryz.prog 253 #[.string s] w fun e w' => e = .returned (.string s) ∧ w' = w := by
  by_cases h0 : s.size = 0
  · obtain rfl := ba_nil s h0
    go_enter Tryz.func253, Tryz.ntmps253
    go_wp2
    go_loopw [0] (fun v wr => v = .string ⟨#[]⟩ ∧ wr = w) (fun i _ => 0)
    case atStart => exact ⟨rfl, rfl⟩
    case round =>
      obtain ⟨rfl, rfl⟩ := hrel
      go_wp2
      go_loopw [0] (fun v wz => v = .string ⟨#[]⟩ ∧ wz = wr) (fun i _ => 0)
      case atStart => exact ⟨rfl, rfl⟩
      case round =>
        obtain ⟨rfl, rfl⟩ := hrel
        go_wp2
        go_ret
        exact ⟨rfl, rfl⟩
  · unfold valueB at h
    simp only [h0, decide_false, Bool.false_or, Bool.and_eq_true, Bool.not_eq_true'] at h
    obtain ⟨-, hb0, hb1⟩ := h
    have z1 : 0 < s.size := by omega
    have z2 : s.size - 1 < s.size := by omega
    have z3 : (0 : Int) < (s.size : Int) := by omega
    have z4 : (s.size : Int) - 1 = ((s.size - 1 : Nat) : Int) := by omega
    have z5 : (s.size : Int) - 1 < (s.size : Int) := by omega
    have z6 : 0 ≤ (s.size : Int) - 1 := by omega
    have e0 : ((s[0]'z1).toNat : Int) = bt s 0 := (bt_get s 0 z1).symm
    have e1 : ((s[s.size - 1]'z2).toNat : Int) = bt s (s.size - 1) := (bt_get s _ z2).symm
    have hne2 : ¬ s.toList = [] := fun h => h0 (by rw [ByteArray.toList_eq] at h; show s.data.size = 0; rw [← Array.length_toList, h]; rfl)
    have hne4 : s.toList.isEmpty = false := by simpa using hne2
    have hc0 : ∀ w, Calls Tryz.prog 99 #[.int .u8 (bt s 0)] w fun e w' => e = .returned (.bool false) ∧ w' = w := fun w => hb0 ▸ blank_any (bt s 0) w
    have hc1 : ∀ w, Calls Tryz.prog 99 #[.int .u8 (bt s (s.size - 1))] w fun e w' => e = .returned (.bool false) ∧ w' = w := fun w => hb1 ▸ blank_any (bt s (s.size - 1)) w
    clear hb0 hb1
    generalize bt s 0 = c0 at *
    generalize bt s (s.size - 1) = c1 at *
    go_enter Tryz.func253, Tryz.ntmps253
    go_wp2
    go_loopw [0] (fun v wr => v = .string s ∧ wr = w) (fun i _ => 0)
    case atStart => exact ⟨rfl, rfl⟩
    case round =>
      obtain ⟨rfl, rfl⟩ := hrel
      go_wp2_with (go_at_call 99; refine (hc0 _).mono ?_; rintro e w1 ⟨rfl, rfl⟩)
      go_loopw [0] (fun v wz => v = .string s ∧ wz = w1) (fun i _ => 0)
      case atStart => exact ⟨rfl, rfl⟩
      case round =>
        obtain ⟨rfl, rfl⟩ := hrel
        go_wp2_with (go_at_call 99; refine (hc1 _).mono ?_; rintro e w2 ⟨rfl, rfl⟩)
        go_ret
        exact ⟨rfl, rfl⟩
end Go.AM
