/- WeighBest. -/
import Derived.Test.YtccjblcfnoelbaaRuns
import Derived.Deep.DeepCutAuto
import Derived.Deep.RegionHeld3
namespace Go.Proofs.Ytccjblcfnoelbaa
open Go.ChangeShapes Go.WideShapes Go.ChangeAt Go.RowKit
set_option linter.unusedVariables false
set_option linter.unusedSimpArgs false

theorem cmpR_pos (a b : Nat) : 0 < cmpR a b ↔ rank b < rank a := by
  unfold cmpR
  rcases Int.lt_trichotomy (rank a) (rank b) with h | h | h
  · rw [if_pos h]; omega
  · rw [if_neg (by omega), if_neg (by omega)]; omega
  · rw [if_neg (by omega), if_pos h]; omega
theorem cmpR_nil (a b : Nat) : cmpR a b = 0 ↔ rank a = rank b := by
  unfold cmpR
  rcases Int.lt_trichotomy (rank a) (rank b) with h | h | h
  · rw [if_pos h]; omega
  · rw [if_neg (by omega), if_neg (by omega)]; omega
  · rw [if_neg (by omega), if_pos h]; omega
theorem bst_best (Z : Nat → Nat) : ∀ i : Nat, ∀ q : Nat, q < i → rank (Z q) ≤ rank (Z (bst Z i).toNat) ∧ (rank (Z q) = rank (Z (bst Z i).toNat) → (bst Z i).toNat ≤ q)
  | 0, q, h => absurd h (Nat.not_lt_zero _)
  | i + 1, q, h => by
    rw [bst]
    rcases bst_rng Z i with ⟨rfl, hb⟩ | ⟨h1, h2, h3⟩
    · obtain rfl : q = 0 := by omega
      rw [if_pos (.inl (by omega))]
      exact ⟨by simp, fun _ => by simp⟩
    · by_cases hc : 0 < cmpR (Z i) (Z (bst Z i).toNat)
      · rw [if_pos (.inr hc)]
        have hc := (cmpR_pos _ _).1 hc
        simp only [Int.toNat_natCast]
        rcases Nat.lt_or_ge q i with hq | hq
        · have := (bst_best Z i q hq).1
          exact ⟨by omega, fun e => by omega⟩
        · obtain rfl : q = i := by omega
          exact ⟨Int.le_refl _, fun _ => Nat.le_refl _⟩
      · rw [if_neg (by omega)]
        rcases Nat.lt_or_ge q i with hq | hq
        · exact bst_best Z i q hq
        · obtain rfl : q = i := by omega
          have hc' : ¬ rank (Z (bst Z q).toNat) < rank (Z q) := fun h => hc ((cmpR_pos _ _).2 h)
          exact ⟨by omega, fun _ => by omega⟩
set_option maxHeartbeats 2000000 in
set_option maxRecDepth 100000 in
theorem wbest_any (v : Value) (n : Nat) (Z : Nat → Nat) (w : World) (hR : Rowy w v n 1 (fun i _ => .float .f64 (Z i))) (hZ : ∀ i, i < n → Z i < 18446744073709551616) :
    Calls Try.prog 7 #[v] w fun e w' => e = .returned (.bool true) ∧ Below w.heap.size w w' := by
  obtain ⟨A, cap, rfl, hlc, hcm, hcell⟩ := hR
  have HC := Lib.hid hcell
  have HZ := Lib.hid hZ
  clear hcell hZ
  have hcm' := hcm
  unfold maxLen at hcm
  go_enter Try.func7, Try.ntmps7
  go_upto_if 8 with fail
  go_cut [0] (fun s0 wx => ∃ m : Nat, s0 = .slice A m cap ∧ m ≤ 60 ∧ m ≤ n ∧ w = wx)
  case first =>
    by_cases h60 : 60 < n
    · obtain ⟨b, off, rfl, -, -⟩ := HC.out (by omega)
      have h60' : 60 < (n : Int) := by omega
      have z1 : 60 ≤ cap := by omega
      have z2 : (60 : Int) ≤ (cap : Int) := by omega
      go_wp2_with fail
      go_meet
      exact ⟨60, rfl, by omega, by omega, rfl⟩
    · have h60' : ¬ 60 < (n : Int) := by omega
      go_wp2_with fail
      go_meet
      exact ⟨n, rfl, by omega, by omega, rfl⟩
  case rest =>
  obtain ⟨m, rfl, hm60, hmn, rfl⟩ := hcut
  have hRm : Rowy w (.slice A m cap) m 1 (fun i _ => .float .f64 (Z i)) := ⟨_, _, rfl, by omega, hcm', fun h0 => by
    obtain ⟨b, off, h1, h2, h3⟩ := HC.out (by omega)
    exact ⟨b, off, h1, h2, fun i j hi hj => h3 i j (by omega) hj⟩⟩
  by_cases hm0 : m = 0
  · subst hm0
    go_wp2_with (first
      | (go_at_call 20; refine (best_any _ 0 Z _ hRm (fun i hi => absurd hi (Nat.not_lt_zero _))).mono ?_; rintro e w1 ⟨rfl, hB1⟩; rw [show bst Z 0 = -1 from rfl])
      | (go_at_call 3; refine (runs_any _).mono ?_; rintro e w2 ⟨rfl, hB2⟩))
    go_ret
    exact ⟨rfl, Below.trans hB1 (hB2.mono hB1.size)⟩
  obtain ⟨h1, h2, h3⟩ : 0 < m ∧ 0 ≤ bst Z m ∧ bst Z m < m := by rcases bst_rng Z m with ⟨h, _⟩ | h; exact absurd h hm0; exact h
  have HB := Lib.hid (bst_best Z m)
  obtain ⟨k, hk⟩ := Int.eq_ofNat_of_zero_le h2
  rw [hk] at h3 HB
  have z1 : ¬ (k : Int) < 0 := by omega
  have z2 : ¬ (m : Int) ≤ (k : Int) := by omega
  have z3 : ¬ (m : Int) = 0 := by omega
  have hkm : k < m := by omega
  have hkn : k < n := by omega
  have hzk := HZ.out k hkn
  go_wp2_with (first
    | (go_at_call 20; refine (best_any _ m Z _ hRm (fun i hi => HZ.out i (by omega))).mono ?_; rintro e w1 ⟨rfl, hB1⟩; rw [hk]))
  have hs1 := hB1.size
  go_loopw [4] (fun s4 wr => ∃ i : Nat, s4 = .int .i64 i ∧ i ≤ m ∧ Below w.heap.size w wr) (fun s4 _ => m - (intOf s4).toNat)
  case atStart => exact ⟨0, rfl, Nat.zero_le _, hB1⟩
  case round =>
    obtain ⟨i, rfl, hi, hB⟩ := hrel
    have hwr := hB.size
    by_cases hlt : i < m
    · obtain ⟨b, off, rfl, gb, q⟩ := HC.out (by omega)
      have e1 : wr.cell? ⟨b, off + i, none⟩ = some (.float .f64 (Z i)) := by rw [hB.cell (p := ⟨b, _, none⟩) gb]; simpa using q i 0 (by omega) (by omega)
      have e2 : wr.cell? ⟨b, off + k, none⟩ = some (.float .f64 (Z k)) := by rw [hB.cell (p := ⟨b, _, none⟩) gb]; simpa using q k 0 hkn (by omega)
      have hki : (i : Int) < (m : Int) := by omega
      have hk0 : 0 ≤ (i : Int) := by omega
      have hkm' : (k : Int) < (m : Int) := by omega
      have hkk0 : 0 ≤ (k : Int) := by omega
      have hzi := HZ.out i (by omega)
      have hbest := HB.out i hlt
      rw [Int.toNat_natCast] at hbest
      have hc1 : ¬ 0 < cmpR (Z i) (Z k) := fun h => by have := (cmpR_pos _ _).1 h; omega
      have hc2 : cmpR (Z i) (Z k) = 0 → ¬ i < k := fun h => by have := hbest.2 ((cmpR_nil _ _).1 h); omega
      clear q hbest
      generalize Z i = zi at *
      generalize Z k = zk at *
      generalize hcc : cmpR zi zk = c at *
      go_wp2_with fail
      go_region_held3 (fun w' => w'.cell? ⟨b, off + i, none⟩ = some (.float .f64 zi) ∧ w'.cell? ⟨b, off + k, none⟩ = some (.float .f64 zk)) (refine ⟨?_, ?_⟩ <;> go_simp) (first
        | (go_at_call 23; refine (rcompare_any _ _ _ hzi hzk).mono ?_; rintro e w2 ⟨rfl, rfl⟩; rw [hcc]))
      all_goals
        by_cases hcz : c = 0
        · have hik := hc2 hcz
          have hik' : ¬ (i : Int) < (k : Int) := by omega
          subst hcz
          go_wp2_with fail
          go_roundw
          case rel => exact ⟨i + 1, by go_num, by omega, by go_grown⟩
          case measure => simp [intOf]; omega
        · have hcl : c < 0 := by omega
          have hcl2 : ¬ 0 < c := by omega
          have hcl3 : (c == 0) = false := by simpa using hcz
          go_wp2_with fail
          go_roundw
          case rel => exact ⟨i + 1, by go_num, by omega, by go_grown⟩
          case measure => simp [intOf]; omega
    · go_wp2_with (first
        | (go_at_call 3; refine (runs_any _).mono ?_; rintro e w2 ⟨rfl, hB2⟩))
      go_ret
      exact ⟨rfl, Below.trans hB (hB2.mono hwr)⟩
end Go.Proofs.Ytccjblcfnoelbaa
