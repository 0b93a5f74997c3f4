/- The contract of Q. -/
import Derived.Test.YtccjblcfnoelbaaQP
namespace Go.Proofs.Ytccjblcfnoelbaa
open Go.ChangeShapes Go.WideShapes Go.ChangeAt Go.RowKit
set_option linter.unusedVariables false
set_option linter.unusedSimpArgs false
attribute [local go_sem] run_f2i run_i2f run_mul run_quo

set_option maxHeartbeats 1000000 in
set_option maxRecDepth 100000 in
theorem q_any (s : ByteArray) (w : World) : Calls Try.prog 12 #[.string s] w fun e w' => e = .returned (.tuple #[.float .f64 (qv s).1, .bool (qv s).2]) ∧ w = w' := by
  generalize hres : qv s = res
  unfold qv at hres
  by_cases z1 : s.size < 1
  · rw [if_pos (.inl z1)] at hres
    subst hres
    obtain rfl := ba_nil s (by omega)
    go_enter Try.func12, Try.ntmps12
    go_wp2
    go_returns
    exact ⟨rfl, rfl⟩
  have z2 : ¬ (s.size : Int) < 1 := by omega
  have z3 : 0 < s.size := by omega
  have e0 : ((s[0]'z3).toNat : Int) = bt s 0 := (bt_get s 0 z3).symm
  have l0 := bt_lo s 0
  have u0 := bt_hi s 0
  generalize hc0 : bt s 0 = c0 at *
  by_cases z5 : 5 < s.size
  · rw [if_pos (.inr (.inl z5))] at hres
    subst hres
    have z6 : 5 < (s.size : Int) := by omega
    have z7 : 1 < (s.size : Int) := by omega
    have z8 : 1 < s.size := by omega
    go_enter Try.func12, Try.ntmps12
    go_wp2
    all_goals
      go_returns
      exact ⟨rfl, rfl⟩
  have z6 : ¬ 5 < (s.size : Int) := by omega
  by_cases g0 : c0 ≠ 48 ∧ c0 ≠ 49
  · rw [if_pos (.inr (.inr (.inl g0)))] at hres
    subst hres
    obtain ⟨g1, g2⟩ := g0
    go_enter Try.func12, Try.ntmps12
    go_wp2
    all_goals
      go_returns
      exact ⟨rfl, rfl⟩
  by_cases g1 : 1 < s.size ∧ bt s 1 ≠ 46
  · rw [if_pos (.inr (.inr (.inr g1)))] at hres
    subst hres
    obtain ⟨g1, g2⟩ := g1
    have g3 : 1 < (s.size : Int) := by omega
    have e1 : ((s[1]'g1).toNat : Int) = bt s 1 := (bt_get s 1 g1).symm
    generalize bt s 1 = c1 at *
    rcases (show c0 = 48 ∨ c0 = 49 by omega) with rfl | rfl <;>
    · go_enter Try.func12, Try.ntmps12
      go_wp2
      go_returns
      exact ⟨rfl, rfl⟩
  rw [if_neg (by omega)] at hres
  have hc : c0 = 48 ∨ c0 = 49 := by omega
  have hw0 : IntKind.u8.wrap (c0 - 48) = c0 - 48 := by simp [IntKind.wrap, IntKind.bits, IntKind.signed]; omega
  go_enter Try.func12, Try.ntmps12
  go_upto_region 1 with fail
  go_cut [34] (fun s34 wx => s34 = .bool false ∧ w = wx)
  case first =>
    by_cases y1 : 1 < s.size
    · have e1 : ((s[1]'y1).toNat : Int) = 46 := by rw [← bt_get s 1 y1]; omega
      have y2 : 1 < (s.size : Int) := by omega
      rcases hc with rfl | rfl <;>
      · go_wp2_with fail
        go_meet
        exact ⟨rfl, rfl⟩
    · have y2 : ¬ 1 < (s.size : Int) := by omega
      rcases hc with rfl | rfl <;>
      · go_wp2_with fail
        go_meet
        exact ⟨rfl, rfl⟩
  case rest =>
  obtain ⟨rfl, rfl⟩ := hcut
  have hs5 : s.size ≤ 5 := by omega
  clear g0 g1
  go_wp2_with fail
  go_loopw [4, 5, 6] (fun s4 s5 s6 wr => ∃ (i : Nat) (n u : Int), s4 = .int .i64 n ∧ s5 = .int .i64 u ∧ s6 = .int .i64 i ∧ 2 ≤ i ∧ i ≤ 5 ∧ 0 ≤ n ∧ n < 10 ^ (i - 1) ∧ 1 ≤ u ∧ u ≤ 10 ^ (i - 2) ∧ qend (qgo (bt s) s.size (5 - i) i n u) = res ∧ w = wr) (fun _ _ s6 _ => 5 - (intOf s6).toNat)
  case atStart => exact ⟨2, c0 - 48, 1, rfl, rfl, rfl, by omega, by omega, by omega, by simp; omega, by omega, by simp, hres, rfl⟩
  case round =>
    obtain ⟨i, n, u, rfl, rfl, rfl, hi2, hi5, hn0, hn1, hu0, hu1, hg, rfl⟩ := hrel
    by_cases hlt : i < s.size
    · have hlti : (i : Int) < (s.size : Int) := by omega
      have hlt0 : 0 ≤ (i : Int) := by omega
      have ei : ((s[i]'hlt).toNat : Int) = bt s i := (bt_get s i hlt).symm
      have l1 := bt_lo s i
      have l2 := bt_hi s i
      have hk : i = 2 ∨ i = 3 ∨ i = 4 := by omega
      rcases hk with rfl | rfl | rfl
      · have hg2 : qend (if bt s 2 < 48 ∨ 57 < bt s 2 ∨ (bt s 0 = 49 ∧ bt s 2 ≠ 48) then none else qgo (bt s) s.size 2 3 (10 * n + (bt s 2 - 48)) (10 * u)) = res := by
          have hg3 : qend (if 2 < s.size then (if bt s 2 < 48 ∨ 57 < bt s 2 ∨ (bt s 0 = 49 ∧ bt s 2 ≠ 48) then none else qgo (bt s) s.size 2 3 (10 * n + (bt s 2 - 48)) (10 * u)) else some (n, u)) = res := hg
          rwa [if_pos hlt] at hg3
        clear hg
        rw [hc0] at hg2
        generalize bt s 2 = c at *
        simp at hn1 hu1
        by_cases hb : c < 48 ∨ 57 < c ∨ (c0 = 49 ∧ c ≠ 48)
        · rw [if_pos hb] at hg2
          have hg2 : (0, false) = res := hg2
          subst hg2
          rcases hc with rfl | rfl <;> rcases (show c < 48 ∨ (¬ c < 48 ∧ 57 < c) ∨ (¬ c < 48 ∧ ¬ 57 < c ∧ c ≠ 48) by omega) with d1 | ⟨d1, d2⟩ | ⟨d1, d2, d3⟩ <;> first
            | (exfalso; omega)
            | (go_wp2_with fail
               go_returns
               exact ⟨rfl, rfl⟩)
        · rw [if_neg hb] at hg2
          have d1 : ¬ c < 48 := by omega
          have d2 : ¬ 57 < c := by omega
          have hw1 : IntKind.u8.wrap (c - 48) = c - 48 := by simp [IntKind.wrap, IntKind.bits, IntKind.signed]; omega
          rcases hc with rfl | rfl
          · go_wp2_with fail
            go_roundw
            case rel => exact ⟨3, 10 * n + (c - 48), 10 * u, by go_num, by go_num, rfl, by omega, by omega, by omega, by simp; omega, by omega, by simp; omega, hg2, by first | rfl | trivial⟩
            case measure => simp [intOf]
          · obtain rfl : c = 48 := by omega
            go_wp2_with fail
            go_roundw
            case rel => exact ⟨3, 10 * n + (48 - 48), 10 * u, by go_num, by go_num, rfl, by omega, by omega, by omega, by simp; omega, by omega, by simp; omega, hg2, by first | rfl | trivial⟩
            case measure => simp [intOf]
      · have hg2 : qend (if bt s 3 < 48 ∨ 57 < bt s 3 ∨ (bt s 0 = 49 ∧ bt s 3 ≠ 48) then none else qgo (bt s) s.size 1 4 (10 * n + (bt s 3 - 48)) (10 * u)) = res := by
          have hg3 : qend (if 3 < s.size then (if bt s 3 < 48 ∨ 57 < bt s 3 ∨ (bt s 0 = 49 ∧ bt s 3 ≠ 48) then none else qgo (bt s) s.size 1 4 (10 * n + (bt s 3 - 48)) (10 * u)) else some (n, u)) = res := hg
          rwa [if_pos hlt] at hg3
        clear hg
        rw [hc0] at hg2
        generalize bt s 3 = c at *
        simp at hn1 hu1
        by_cases hb : c < 48 ∨ 57 < c ∨ (c0 = 49 ∧ c ≠ 48)
        · rw [if_pos hb] at hg2
          have hg2 : (0, false) = res := hg2
          subst hg2
          rcases hc with rfl | rfl <;> rcases (show c < 48 ∨ (¬ c < 48 ∧ 57 < c) ∨ (¬ c < 48 ∧ ¬ 57 < c ∧ c ≠ 48) by omega) with d1 | ⟨d1, d2⟩ | ⟨d1, d2, d3⟩ <;> first
            | (exfalso; omega)
            | (go_wp2_with fail
               go_returns
               exact ⟨rfl, rfl⟩)
        · rw [if_neg hb] at hg2
          have d1 : ¬ c < 48 := by omega
          have d2 : ¬ 57 < c := by omega
          have hw1 : IntKind.u8.wrap (c - 48) = c - 48 := by simp [IntKind.wrap, IntKind.bits, IntKind.signed]; omega
          rcases hc with rfl | rfl
          · go_wp2_with fail
            go_roundw
            case rel => exact ⟨4, 10 * n + (c - 48), 10 * u, by go_num, by go_num, rfl, by omega, by omega, by omega, by simp; omega, by omega, by simp; omega, hg2, by first | rfl | trivial⟩
            case measure => simp [intOf]
          · obtain rfl : c = 48 := by omega
            go_wp2_with fail
            go_roundw
            case rel => exact ⟨4, 10 * n + (48 - 48), 10 * u, by go_num, by go_num, rfl, by omega, by omega, by omega, by simp; omega, by omega, by simp; omega, hg2, by first | rfl | trivial⟩
            case measure => simp [intOf]
      · have hg2 : qend (if bt s 4 < 48 ∨ 57 < bt s 4 ∨ (bt s 0 = 49 ∧ bt s 4 ≠ 48) then none else qgo (bt s) s.size 0 5 (10 * n + (bt s 4 - 48)) (10 * u)) = res := by
          have hg3 : qend (if 4 < s.size then (if bt s 4 < 48 ∨ 57 < bt s 4 ∨ (bt s 0 = 49 ∧ bt s 4 ≠ 48) then none else qgo (bt s) s.size 0 5 (10 * n + (bt s 4 - 48)) (10 * u)) else some (n, u)) = res := hg
          rwa [if_pos hlt] at hg3
        clear hg
        rw [hc0] at hg2
        generalize bt s 4 = c at *
        simp at hn1 hu1
        by_cases hb : c < 48 ∨ 57 < c ∨ (c0 = 49 ∧ c ≠ 48)
        · rw [if_pos hb] at hg2
          have hg2 : (0, false) = res := hg2
          subst hg2
          rcases hc with rfl | rfl <;> rcases (show c < 48 ∨ (¬ c < 48 ∧ 57 < c) ∨ (¬ c < 48 ∧ ¬ 57 < c ∧ c ≠ 48) by omega) with d1 | ⟨d1, d2⟩ | ⟨d1, d2, d3⟩ <;> first
            | (exfalso; omega)
            | (go_wp2_with fail
               go_returns
               exact ⟨rfl, rfl⟩)
        · rw [if_neg hb] at hg2
          have d1 : ¬ c < 48 := by omega
          have d2 : ¬ 57 < c := by omega
          have hw1 : IntKind.u8.wrap (c - 48) = c - 48 := by simp [IntKind.wrap, IntKind.bits, IntKind.signed]; omega
          rcases hc with rfl | rfl
          · go_wp2_with fail
            go_roundw
            case rel => exact ⟨5, 10 * n + (c - 48), 10 * u, by go_num, by go_num, rfl, by omega, by omega, by omega, by simp; omega, by omega, by simp; omega, hg2, by first | rfl | trivial⟩
            case measure => simp [intOf]
          · obtain rfl : c = 48 := by omega
            go_wp2_with fail
            go_roundw
            case rel => exact ⟨5, 10 * n + (48 - 48), 10 * u, by go_num, by go_num, rfl, by omega, by omega, by omega, by simp; omega, by omega, by simp; omega, hg2, by first | rfl | trivial⟩
            case measure => simp [intOf]
    · have hlti : ¬ (i : Int) < (s.size : Int) := by omega
      have hg2 : qend (some (n, u)) = res := by
        rcases (show i = 2 ∨ i = 3 ∨ i = 4 ∨ i = 5 by omega) with rfl | rfl | rfl | rfl
        · rw [show (5 - 2) = 2 + 1 from rfl, qgo, if_neg hlt] at hg; exact hg
        · rw [show (5 - 3) = 1 + 1 from rfl, qgo, if_neg hlt] at hg; exact hg
        · rw [show (5 - 4) = 0 + 1 from rfl, qgo, if_neg hlt] at hg; exact hg
        · exact hg
      have hn9 : n < 10000 := by
        rcases (show i = 2 ∨ i = 3 ∨ i = 4 ∨ i = 5 by omega) with rfl | rfl | rfl | rfl <;> simp at hn1 <;> omega
      have hu9 : u ≤ 1000 := by
        rcases (show i = 2 ∨ i = 3 ∨ i = 4 ∨ i = 5 by omega) with rfl | rfl | rfl | rfl <;> simp at hu1 <;> omega
      have hd := div_ok n u hn0 (by omega) (by omega) (by omega)
      clear hg hn1 hu1
      have hg2 : (fdiv n u, true) = res := hg2
      subst hg2
      go_wp2_with fail
      go_returns
      exact ⟨rfl, rfl⟩
end Go.Proofs.Ytccjblcfnoelbaa
