/- StreamGoes. -/
import Derived.Test.YtgbjagmhibknoaaRuns
namespace Go.Proofs.Ytgbjagmhibknoaa
open Go.ChangeShapes Go.WideShapes Go.ChangeAt Go.RowKit
set_option linter.unusedVariables false

set_option maxHeartbeats 2000000 in
theorem goes_any (s : Int) (v : Value) (n : Nat) (Z : Nat → Int) (w : World) (hR : Row1 w v n Z) (hcap : ∀ A cap, v = .slice A n cap → n ≤ cap ∧ cap ≤ 9223372036854775807) :
    Calls Try.prog 4 #[.int .i64 s, v] w fun e w' => e = .returned (.bool true) ∧ Below w.heap.size w w' := by
  have hR0 := hR
  obtain ⟨A, cap, rfl, hn, hZ, hcell⟩ := hR
  obtain ⟨hc1, hc2⟩ := hcap _ _ rfl
  clear hcap
  have HC := Lib.hid hcell
  have HZ := Lib.hid hZ
  by_cases hn1 : 100 < n
  · have HR := Lib.hid (show Row1 w (.slice A 100 cap) 100 Z from ⟨A, cap, rfl, by omega, fun i hi => hZ i (by omega), fun _ => by
      obtain ⟨b, off, h1, h2, h3⟩ := hcell (by omega)
      exact ⟨b, off, h1, h2, fun i hi => h3 i (by omega)⟩⟩)
    clear hR0 hcell hZ
    go_enter Try.func4, Try.ntmps4
    go_wp2_with fail
    refine (run_any _ _ 100 Z _ HR.out).mono ?_
    rintro e w1 ⟨q, hst, rfl, rfl⟩
    have HST := Lib.hid hst
    have hq : q ≤ 100 := hst.1
    clear hst
    go_wp2_with fail
    go_loop [7, 8] (fun t i => ∃ k : Nat, k ≤ q ∧ i = .int .i64 k ∧ t = .int .i64 (st Z s k)) (fun _ i => 100 - (intOf i).toNat)
    case atStart => exact ⟨0, Nat.zero_le _, rfl, rfl⟩
    case round =>
      obtain ⟨k, hk, rfl, rfl⟩ := hrel
      by_cases hlt : k < 100
      · obtain ⟨b, off, rfl, hb, hcell⟩ := HC.out (by omega)
        have hc := hcell k (by omega)
        obtain ⟨z0, z1⟩ := HZ.out k (by omega)
        clear hcell
        have HS := Lib.hid (show st Z s (k + 1) = nS (st Z s k) (Z k) from rfl)
        by_cases hkq : k < q
        · have HB := Lib.hid (HST.out.2.1 k hkq)
          generalize st Z s k = x at *
          generalize Z k = z at *
          go_wp2_with fail
          refine (rnext_any _ _ _ z0 z1).mono ?_
          rintro e w1 ⟨he, rfl⟩
          rw [HB.out] at he
          subst he
          go_wp2_with fail
          go_round
          case rel => exact ⟨k + 1, by omega, by go_num, by rw [HS.out]⟩
          case measure => simp [intOf]; omega
        · obtain rfl : k = q := by omega
          have HB := Lib.hid (HST.out.2.2 hlt)
          generalize st Z s k = x at *
          generalize Z k = z at *
          go_wp2_with fail
          refine (rnext_any _ _ _ z0 z1).mono ?_
          rintro e w1 ⟨he, rfl⟩
          rw [HB.out] at he
          subst he
          go_wp2_with fail
          refine (runs_any _).mono ?_
          rintro e w1 ⟨rfl, hB⟩
          go_wp2_with fail
          go_ret
          exact ⟨rfl, hB⟩
      · obtain rfl : k = q := by omega
        go_wp2_with (go_at_call 3; refine (runs_any _).mono ?_; rintro e w1 ⟨rfl, hB⟩)
        go_ret
        exact ⟨rfl, hB⟩
  · have HR := Lib.hid hR0
    clear hR0 hcell hZ
    go_enter Try.func4, Try.ntmps4
    go_wp2_with fail
    refine (run_any _ _ n Z _ HR.out).mono ?_
    rintro e w1 ⟨q, hst, rfl, rfl⟩
    have HST := Lib.hid hst
    have hq : q ≤ n := hst.1
    clear hst
    go_wp2_with fail
    go_loop [7, 8] (fun t i => ∃ k : Nat, k ≤ q ∧ i = .int .i64 k ∧ t = .int .i64 (st Z s k)) (fun _ i => n - (intOf i).toNat)
    case atStart => exact ⟨0, Nat.zero_le _, rfl, rfl⟩
    case round =>
      obtain ⟨k, hk, rfl, rfl⟩ := hrel
      by_cases hlt : k < n
      · obtain ⟨b, off, rfl, hb, hcell⟩ := HC.out (by omega)
        have hc := hcell k (by omega)
        obtain ⟨z0, z1⟩ := HZ.out k (by omega)
        clear hcell
        have HS := Lib.hid (show st Z s (k + 1) = nS (st Z s k) (Z k) from rfl)
        by_cases hkq : k < q
        · have HB := Lib.hid (HST.out.2.1 k hkq)
          generalize st Z s k = x at *
          generalize Z k = z at *
          go_wp2_with fail
          refine (rnext_any _ _ _ z0 z1).mono ?_
          rintro e w1 ⟨he, rfl⟩
          rw [HB.out] at he
          subst he
          go_wp2_with fail
          go_round
          case rel => exact ⟨k + 1, by omega, by go_num, by rw [HS.out]⟩
          case measure => simp [intOf]; omega
        · obtain rfl : k = q := by omega
          have HB := Lib.hid (HST.out.2.2 hlt)
          generalize st Z s k = x at *
          generalize Z k = z at *
          go_wp2_with fail
          refine (rnext_any _ _ _ z0 z1).mono ?_
          rintro e w1 ⟨he, rfl⟩
          rw [HB.out] at he
          subst he
          go_wp2_with fail
          refine (runs_any _).mono ?_
          rintro e w1 ⟨rfl, hB⟩
          go_wp2_with fail
          go_ret
          exact ⟨rfl, hB⟩
      · obtain rfl : k = q := by omega
        go_wp2_with (go_at_call 3; refine (runs_any _).mono ?_; rintro e w1 ⟨rfl, hB⟩)
        go_ret
        exact ⟨rfl, hB⟩
end Go.Proofs.Ytgbjagmhibknoaa
