/- StreamMirrors. -/
import Derived.Test.YtgbjagmhibknoaaRuns
namespace Go.Proofs.Ytgbjagmhibknoaa
open Go.ChangeShapes Go.WideShapes Go.ChangeAt Go.RowKit
set_option linter.unusedVariables false

def mir (a : Int) : Int := if a = 2 then 3 else if a = 3 then 2 else a
def opp (e : Int) : Int := if 10 < e then e - 10 else e + 10
theorem mirrored (a e : Int) (ha0 : 0 ≤ a) (ha1 : a ≤ 4) (he : (1 ≤ e ∧ e ≤ 5) ∨ (11 ≤ e ∧ e ≤ 15)) :
    nS (mir a) (opp e) = mir (nS a e) ∧ nB (mir a) (opp e) = nB a e ∧ 0 ≤ nS a e ∧ nS a e ≤ 4 := by
  have ha : a = 0 ∨ a = 1 ∨ a = 2 ∨ a = 3 ∨ a = 4 := by omega
  have he : e = 1 ∨ e = 2 ∨ e = 3 ∨ e = 4 ∨ e = 5 ∨ e = 11 ∨ e = 12 ∨ e = 13 ∨ e = 14 ∨ e = 15 := by omega
  rcases ha with rfl | rfl | rfl | rfl | rfl <;> rcases he with rfl | rfl | rfl | rfl | rfl | rfl | rfl | rfl | rfl | rfl <;> decide

set_option maxHeartbeats 4000000 in
set_option maxRecDepth 100000 in
theorem mirrors_any (v : Value) (n : Nat) (Z : Nat → Int) (w : World) (hR : Row1 w v n Z) :
    Calls Try.prog 6 #[v] w fun e w' => e = .returned (.bool true) ∧ Below w.heap.size w w' := by
  obtain ⟨A, cap, rfl, hn, hZ, hcell⟩ := hR
  have HC := Lib.hid hcell
  have HZ := Lib.hid hZ
  clear hcell hZ
  go_enter Try.func6, Try.ntmps6
  go_wp2_with fail
  go_loop [3, 4, 5] (fun ta tb i => ∃ (k : Nat) (a b : Int), k ≤ n ∧ k ≤ 100 ∧ i = .int .i64 k ∧ 0 ≤ a ∧ a ≤ 4 ∧ Hid (mir a = b) ∧ ta = .int .i64 a ∧ tb = .int .i64 b) (fun _ _ i => 100 - (intOf i).toNat)
  case atStart => exact ⟨0, 0, 0, Nat.zero_le _, Nat.zero_le _, rfl, by omega, by omega, Lib.hid rfl, rfl, rfl⟩
  case round =>
    obtain ⟨k, a, b, hk, hk2, rfl, ha0, ha1, hb, rfl, rfl⟩ := hrel
    by_cases hlt : k < n ∧ k < 100
    · obtain ⟨hlt1, hlt2⟩ := hlt
      obtain ⟨bb, off, rfl, hb0, hcell⟩ := HC.out (by omega)
      have hc := hcell k hlt1
      obtain ⟨z0, z1⟩ := HZ.out k hlt1
      clear hcell
      generalize Z k = e at *
      by_cases g1 : e < 1
      · go_wp2_with fail
        all_goals
          go_round
          case rel => exact ⟨k + 1, a, b, by omega, by omega, by go_num, ha0, ha1, hb, rfl, rfl⟩
          case measure => simp [intOf]; omega
      by_cases g2 : 15 < e
      · go_wp2_with fail
        all_goals
          go_round
          case rel => exact ⟨k + 1, a, b, by omega, by omega, by go_num, ha0, ha1, hb, rfl, rfl⟩
          case measure => simp [intOf]; omega
      by_cases g3 : 5 < e ∧ e < 11
      · obtain ⟨g4, g5⟩ := g3
        go_wp2_with fail
        all_goals
          go_round
          case rel => exact ⟨k + 1, a, b, by omega, by omega, by go_num, ha0, ha1, hb, rfl, rfl⟩
          case measure => simp [intOf]; omega
      have hm := mirrored a e ha0 ha1 (by omega)
      obtain ⟨m1, m2, m3, m4⟩ := hm
      rw [hb.out] at m1 m2
      have M1 := Lib.hid m1
      have M2 := Lib.hid m2
      clear m1 m2
      generalize hq : nB a e = q at *
      have HQ := Lib.hid hq
      clear hq
      generalize hx : nS a e = x at *
      have HX := Lib.hid hx
      clear hx
      by_cases g6 : 10 < e
      all_goals
        have HO : Hid (opp e = if 10 < e then e - 10 else e + 10) := Lib.hid rfl
        first
          | (have HO2 := Lib.hid (show opp e = e - 10 from if_pos g6))
          | (have HO2 := Lib.hid (show opp e = e + 10 from if_neg g6))
        clear HO
        rw [HO2.out] at M1 M2
        clear HO2
        have hlo : 11 ≤ e ∨ e ≤ 5 := by omega
        have q1 : 1 ≤ e := by omega
        have q2 : e ≤ 15 := by omega
        first
          | (have q3 : 11 ≤ e := by omega)
          | (have q3 : e ≤ 5 := by omega)
        clear hlo g3 g1 g2
        go_wp2_with fail
        refine (next_any _ _ _ z0 z1).mono ?_
        rintro en w1 ⟨he, rfl⟩
        rw [HX.out, HQ.out] at he
        subst he
        go_wp2_with fail
        refine (next_any _ _ _ (by omega) (by omega)).mono ?_
        rintro en w1 ⟨he, rfl⟩
        rw [M1.out, M2.out] at he
        subst he
        have hxx : x = 0 ∨ x = 1 ∨ x = 2 ∨ x = 3 ∨ x = 4 := by omega
        clear HX M1 HQ M2
        rcases hxx with rfl | rfl | rfl | rfl | rfl
        all_goals
          simp only [mir, Int.reduceEq, ↓reduceIte]
          cases q
          all_goals
            go_wp2_with fail
            go_round
            case rel => exact ⟨k + 1, _, _, by omega, by omega, by go_num, m3, m4, Lib.hid (by decide), rfl, rfl⟩
            case measure => simp [intOf]; omega
    · have hd : n ≤ k ∨ (k < n ∧ 100 ≤ k ∧ decide ((k : Int) < 100) = false) := by
        by_cases h : n ≤ k
        · exact .inl h
        · exact .inr ⟨by omega, by omega, by simp; omega⟩
      clear hlt
      rcases hd with e1 | ⟨e1, e2, e3⟩
      all_goals
        go_wp2_with (go_at_call 3; refine (runs_any _).mono ?_; rintro e w2 ⟨rfl, hB2⟩)
        go_ret
        exact ⟨rfl, hB2⟩
end Go.Proofs.Ytgbjagmhibknoaa
