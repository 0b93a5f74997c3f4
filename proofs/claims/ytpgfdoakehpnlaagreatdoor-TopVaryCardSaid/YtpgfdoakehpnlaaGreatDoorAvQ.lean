import Derived.Test.YtpgfdoakehpnlaaGreatDoorAvM
set_option linter.unusedVariables false
set_option linter.unusedSimpArgs false
namespace Go.AM
open Go Go.Proofs Go.ChangeShapes Go.WideShapes Go.ChangeAt Go.RowKit
set_option linter.unusedVariables false
/-! # reservoirbook.Within -/
set_option maxHeartbeats 4000000 in
theorem within_any (m lo hi : Int) (w : World) (h1 : 0 ≤ lo) (h2 : lo ≤ hi) (h3 : hi ≤ 100000) :
    Calls Tryz.prog 12 #[.int .i64 m, .int .i64 lo, .int .i64 hi] w fun e w' => e = .returned (.int .i64 (lo + m % (hi - lo + 1))) ∧ w' = w := by
  have a1 : IntKind.i64.wrap (hi - lo) = hi - lo := by rw [IntKind.wrap_i64]; omega
  have a2 : IntKind.i64.wrap (hi - lo + 1) = hi - lo + 1 := by rw [IntKind.wrap_i64]; omega
  have a3 : ¬ (hi - lo + 1 = 0) := by omega
  have hd : 0 < hi - lo + 1 := by omega
  have hb1 : m.tmod (hi - lo + 1) < hi - lo + 1 := Int.tmod_lt_of_pos _ hd
  have hb2 : -(hi - lo + 1) < m.tmod (hi - lo + 1) := by
    have e : m.tmod (hi - lo + 1) = -((-m).tmod (hi - lo + 1)) := by rw [Int.neg_tmod, Int.neg_neg]
    have := Int.tmod_lt_of_pos (-m) hd
    omega
  have he := Int.emod_nonneg m (by omega : hi - lo + 1 ≠ 0)
  have he2 := Int.emod_lt_of_pos m hd
  generalize hT : m.tmod (hi - lo + 1) = T at hb1 hb2
  generalize hE : m % (hi - lo + 1) = E at he he2
  have hTE : (T < 0 → E = T + (hi - lo + 1)) ∧ (0 ≤ T → E = T) := by
    have k1 : (m - T) = (hi - lo + 1) * m.tdiv (hi - lo + 1) := by rw [← hT]; have := Int.mul_tdiv_add_tmod m (hi - lo + 1); omega
    have k2 : (m - E) = (hi - lo + 1) * (m / (hi - lo + 1)) := by rw [← hE]; have := Int.mul_ediv_add_emod m (hi - lo + 1); omega
    have k3 : (hi - lo + 1) ∣ (E - T) := by
      have : E - T = (m - T) - (m - E) := by omega
      rw [this, k1, k2]
      exact Int.dvd_sub (Int.dvd_mul_right _ _) (Int.dvd_mul_right _ _)
    obtain ⟨q, hq⟩ := k3
    generalize hi - lo + 1 = d at *
    refine ⟨fun ht => ?_, fun ht => ?_⟩
    · have : q = 1 := by
        have h5 : 0 < d * q := by omega
        have h6 : d * q < d * 2 := by omega
        have h7 : 0 < q := by
          rcases Int.lt_or_le 0 q with h | h
          · exact h
          · have := Int.mul_nonpos_of_nonneg_of_nonpos (by omega : 0 ≤ d) h; omega
        have h8 : q < 2 := Int.lt_of_mul_lt_mul_left h6 (by omega)
        omega
      subst this; omega
    · have : q = 0 := by
        have h5 : d * q < d * 1 := by omega
        have h6 : d * (-1) < d * q := by omega
        have h7 := Int.lt_of_mul_lt_mul_left h5 (by omega)
        have h8 := Int.lt_of_mul_lt_mul_left h6 (by omega)
        omega
      subst this; omega
  clear he he2 hE
  go_enter Tryz.func12, Tryz.ntmps12
  by_cases ht : T < 0
  · have hE := hTE.1 ht
    have b1 : IntKind.i64.wrap (T + hi) = T + hi := by rw [IntKind.wrap_i64]; omega
    have b2 : IntKind.i64.wrap (T + hi - lo) = T + hi - lo := by rw [IntKind.wrap_i64]; omega
    have b3 : IntKind.i64.wrap (T + hi - lo + 1) = T + hi - lo + 1 := by rw [IntKind.wrap_i64]; omega
    have b4 : IntKind.i64.wrap (lo + (T + hi - lo + 1)) = lo + (T + hi - lo + 1) := by rw [IntKind.wrap_i64]; omega
    have hfin : lo + E = lo + (T + hi - lo + 1) := by omega
    rw [hfin]
    clear hTE hfin hE
    go_wp2
    go_ret
    exact ⟨rfl, rfl⟩
  · have hE := hTE.2 (by omega)
    have b4 : IntKind.i64.wrap (lo + T) = lo + T := by rw [IntKind.wrap_i64]; omega
    rw [hE]
    clear hTE hE
    go_wp2
    go_ret
    exact ⟨rfl, rfl⟩
end Go.AM
