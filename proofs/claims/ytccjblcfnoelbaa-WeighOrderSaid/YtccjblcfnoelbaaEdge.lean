/- The edges, and Best. -/
import Derived.Test.YtccjblcfnoelbaaKitC
import Derived.Test.YtccjblcfnoelbaaOpen
namespace Go.Proofs.Ytccjblcfnoelbaa
open Go.ChangeShapes Go.WideShapes Go.ChangeAt Go.RowKit
set_option linter.unusedVariables false
set_option linter.unusedSimpArgs false
attribute [local go_sem] run_f2i run_i2f run_mul run_quo

theorem run_negf {P : Program} (w : World) : (Op.unary .neg (.float .f64 0)).run P w = .ok (.float .f64 9223372036854775808) w := rfl
attribute [local go_sem] run_negf
theorem run_quo_none {P : Program} (t : TypeId) (x y : Nat) (w : World) (h : FloatKind.f64.format.div x y = none) :
    ∃ n, nan n ∧ n < 18446744073709551616 ∧ (binOp .quo t (.float .f64 x) (.float .f64 y)).run P w = .ok (.float .f64 n) w.drew := by
  refine ⟨(Question.nanBits .f64 x y).cut (w.tape w.drawn (.nanBits .f64 x y)), ?_, ?_, ?_⟩
  · generalize w.tape w.drawn (Question.nanBits .f64 x y) = t
    unfold nan rung
    have p1 : t % 2 < 2 := Nat.mod_lt _ (by decide)
    have p2 : t / 2 % 4503599627370495 < 4503599627370495 := Nat.mod_lt _ (by decide)
    show 9218868437227405312 < (t % 2 * 9223372036854775808 + 9218868437227405312 + 1 + t / 2 % 4503599627370495) % 9223372036854775808
    generalize t % 2 = p at *
    generalize t / 2 % 4503599627370495 = q at *
    rcases (show p = 0 ∨ p = 1 by omega) with rfl | rfl <;> omega
  · generalize w.tape w.drawn (Question.nanBits .f64 x y) = t
    have p1 : t % 2 < 2 := Nat.mod_lt _ (by decide)
    have p2 : t / 2 % 4503599627370495 < 4503599627370495 := Nat.mod_lt _ (by decide)
    show t % 2 * 9223372036854775808 + 9218868437227405312 + 1 + t / 2 % 4503599627370495 < _
    generalize t % 2 = p at *
    generalize t / 2 % 4503599627370495 = q at *
    omega
  · simp only [binOp, Op.floatArith, h, Sem.run_bind, Sem.run_pure, Result.andThen_ok]
    rw [if_neg (by simp)]
    simp [run_choose, Question.forced]
set_option maxRecDepth 100000 in
theorem edge_nan (w : World) : Calls Try.prog 13 #[.int .i64 0] w fun e w' => ∃ n, nan n ∧ n < 18446744073709551616 ∧ e = .returned (.float .f64 n) ∧ Below w.heap.size w w' := by
  obtain ⟨n, h1, h2, h3⟩ := run_quo_none (P := Try.prog) 22 0 0 w (by decide +kernel)
  go_enter Try.func13, Try.ntmps13
  go_wp2
  go_returns
  exact ⟨n, h1, h2, rfl, by go_grown⟩

set_option maxRecDepth 100000 in
theorem edge_inf (w : World) : Calls Try.prog 13 #[.int .i64 1] w fun e w' => e = .returned (.float .f64 9218868437227405312) ∧ w = w' := by
  have hd : FloatKind.f64.format.div 4607182418800017408 0 = some 9218868437227405312 := by decide +kernel
  go_enter Try.func13, Try.ntmps13
  go_wp2
  go_returns
  exact ⟨rfl, rfl⟩

set_option maxRecDepth 100000 in
theorem edge_low (w : World) : Calls Try.prog 13 #[.int .i64 2] w fun e w' => e = .returned (.float .f64 18442240474082181120) ∧ w = w' := by
  have hd : FloatKind.f64.format.div 13830554455654793216 0 = some 18442240474082181120 := by decide +kernel
  go_enter Try.func13, Try.ntmps13
  go_wp2
  go_returns
  exact ⟨rfl, rfl⟩

set_option maxRecDepth 100000 in
theorem edge_neg (w : World) : Calls Try.prog 13 #[.int .i64 3] w fun e w' => e = .returned (.float .f64 9223372036854775808) ∧ w = w' := by
  go_enter Try.func13, Try.ntmps13
  go_wp2
  go_returns
  exact ⟨rfl, rfl⟩

set_option maxRecDepth 100000 in
theorem edge_zero (w : World) : Calls Try.prog 13 #[.int .i64 4] w fun e w' => e = .returned (.float .f64 0) ∧ w = w' := by
  go_enter Try.func13, Try.ntmps13
  go_wp2
  go_returns
  exact ⟨rfl, rfl⟩

set_option maxRecDepth 100000 in
theorem minus_any (w : World) : Calls Try.prog 16 #[] w fun e w' => e = .returned (.float .f64 9223372036854775808) ∧ w = w' := by
  have hd : FloatKind.f64.format.div 4607182418800017408 0 = some 9218868437227405312 := by decide +kernel
  have hd2 : FloatKind.f64.format.div 13830554455654793216 9218868437227405312 = some 9223372036854775808 := by decide +kernel
  go_enter Try.func16, Try.ntmps16
  go_wp2
  go_returns
  exact ⟨rfl, rfl⟩
/-- The first of the best. -/
def bst (Z : Nat → Nat) : Nat → Int
  | 0 => -1
  | i + 1 => if bst Z i < 0 ∨ 0 < cmpR (Z i) (Z (bst Z i).toNat) then (i : Int) else bst Z i
theorem bst_rng (Z : Nat → Nat) : ∀ i : Nat, (i = 0 ∧ bst Z i = -1) ∨ (0 < i ∧ 0 ≤ bst Z i ∧ bst Z i < i)
  | 0 => .inl ⟨rfl, rfl⟩
  | i + 1 => by
    right
    rw [bst]
    rcases bst_rng Z i with ⟨rfl, h⟩ | ⟨h1, h2, h3⟩
    · rw [if_pos (.inl (by omega))]; omega
    · split <;> omega
set_option maxHeartbeats 1000000 in
set_option maxRecDepth 100000 in
theorem best_any (v : Value) (n : Nat) (Z : Nat → Nat) (w : World) (hR : Rowy w v n 1 (fun i _ => .float .f64 (Z i))) (hZ : ∀ i, i < n → Z i < 18446744073709551616) :
    Calls Try.prog 20 #[v] w fun e w' => e = .returned (.int .i64 (bst Z n)) ∧ Below w.heap.size w w' := by
  obtain ⟨A, cap, rfl, hlc, hcm, hcell⟩ := hR
  have HC := Lib.hid hcell
  have HZ := Lib.hid hZ
  clear hcell hZ
  unfold maxLen at hcm
  go_enter Try.func20, Try.ntmps20
  go_wp2_with fail
  go_loopw [3, 8] (fun s3 s8 wr => ∃ i : Nat, s8 = .int .i64 i ∧ s3 = .int .i64 (bst Z i) ∧ i ≤ n ∧ Below w.heap.size w wr) (fun _ s8 _ => n - (intOf s8).toNat)
  case atStart => exact ⟨0, rfl, rfl, Nat.zero_le _, Below.refl _ _⟩
  case round =>
    obtain ⟨i, rfl, rfl, hi, hB⟩ := hrel
    by_cases hlt : i < n
    · obtain ⟨b, off, rfl, gb, q⟩ := HC.out (by omega)
      have e1 : wr.cell? ⟨b, off + i, none⟩ = some (.float .f64 (Z i)) := by rw [hB.cell (p := ⟨b, _, none⟩) gb]; simpa using q i 0 hlt (by omega)
      have hki : (i : Int) < (n : Int) := by omega
      have hk0 : 0 ≤ (i : Int) := by omega
      have hzi := HZ.out i hlt
      have hstep : bst Z (i + 1) = if bst Z i < 0 ∨ 0 < cmpR (Z i) (Z (bst Z i).toNat) then (i : Int) else bst Z i := rfl
      rcases bst_rng Z i with ⟨rfl, hbi⟩ | ⟨h1, h2, h3⟩
      · rw [if_pos (.inl (by omega))] at hstep
        clear q
        generalize Z 0 = z at *
        rw [hbi]
        rw [Nat.add_zero] at e1
        go_wp2_with fail
        go_roundw
        case rel => exact ⟨1, by go_num, by rw [hstep], by omega, hB⟩
        case measure => simp [intOf]; omega
      · obtain ⟨k, hk⟩ := Int.eq_ofNat_of_zero_le h2
        rw [hk] at hstep h3 ⊢
        have hkn : k < n := by omega
        have hkn1 : (k : Int) < (n : Int) := by omega
        have hkn0 : 0 ≤ (k : Int) := by omega
        have hkn2 : ¬ (k : Int) < 0 := by omega
        have hzk := HZ.out k hkn
        have e2 : wr.cell? ⟨b, off + k, none⟩ = some (.float .f64 (Z k)) := by rw [hB.cell (p := ⟨b, _, none⟩) gb]; simpa using q k 0 hkn (by omega)
        clear q
        rw [Int.toNat_natCast] at hstep
        generalize Z i = zi at *
        generalize Z k = zk at *
        by_cases hc : 0 < cmpR zi zk
        · rw [if_pos (.inr hc)] at hstep
          go_wp2_with (go_at_call 19; refine (compare_any _ _ _ hzi hzk).mono ?_; rintro e w1 ⟨rfl, rfl⟩)
          go_roundw
          case rel => exact ⟨i + 1, by go_num, by rw [hstep], by omega, hB⟩
          case measure => simp [intOf]; omega
        · rw [if_neg (by omega)] at hstep
          go_wp2_with (go_at_call 19; refine (compare_any _ _ _ hzi hzk).mono ?_; rintro e w1 ⟨rfl, rfl⟩)
          go_roundw
          case rel => exact ⟨i + 1, by go_num, by rw [hstep], by omega, hB⟩
          case measure => simp [intOf]; omega
    · obtain rfl : i = n := by omega
      go_wp2_with fail
      go_ret
      exact ⟨rfl, hB⟩
end Go.Proofs.Ytccjblcfnoelbaa
