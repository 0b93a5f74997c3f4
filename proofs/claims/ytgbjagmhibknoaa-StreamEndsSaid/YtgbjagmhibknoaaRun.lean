/- The contract of stream.Run. -/
import Derived.Test.YtgbjagmhibknoaaNext
import Derived.Test.YtgbjagmhibknoaaOpen
namespace Go.Proofs.Ytgbjagmhibknoaa
open Go.ChangeShapes Go.WideShapes Go.ChangeAt Go.RowKit
set_option linter.unusedVariables false

/-- The state after k events. -/
def st (Z : Nat → Int) (s : Int) : Nat → Int
  | 0 => s
  | k + 1 => nS (st Z s k) (Z k)
/-- m is where the events end: all before are taken; the one there, if there is one, isn't. -/
def Stops (Z : Nat → Int) (s : Int) (n m : Nat) : Prop := m ≤ n ∧ (∀ j, j < m → nB (st Z s j) (Z j) = true) ∧ (m < n → nB (st Z s m) (Z m) = false)
theorem Stops.one {Z : Nat → Int} {s : Int} {n m m' : Nat} (h : Stops Z s n m) (h' : Stops Z s n m') : m = m' := by
  obtain ⟨a, b, c⟩ := h
  obtain ⟨a', b', c'⟩ := h'
  rcases Nat.lt_trichotomy m m' with h | h | h
  · have := b' m h; rw [c (by omega)] at this; cases this
  · exact h
  · have := b m' h; rw [c' (by omega)] at this; cases this
def RunPost (Z : Nat → Int) (s : Int) (n : Nat) (w : World) (e : Ending) (w' : World) : Prop :=
  ∃ m, Stops Z s n m ∧ e = .returned (.tuple #[.int .i64 (st Z s m), .int .i64 (m : Int)]) ∧ w = w'

/-- A slice of ints that can be read. -/
def Row1 (w : World) (v : Value) (n : Nat) (Z : Nat → Int) : Prop :=
  ∃ (A : Option Addr) (cap : Nat), v = .slice A n cap ∧ n ≤ 9223372036854775807 ∧ (∀ i, i < n → -9223372036854775808 ≤ Z i ∧ Z i ≤ 9223372036854775807) ∧ (0 < n → ∃ b off, A = some ⟨b, off, none⟩ ∧ b < w.heap.size ∧ ∀ i, i < n → w.cell? ⟨b, off + i, none⟩ = some (.int .i64 (Z i)))
theorem Row1.of_rowy {w : World} {v : Value} {n : Nat} {Z : Nat → Int} (h : Rowy w v n 1 (fun i _ => .int .i64 (Z i))) (hZ : ∀ i, -9223372036854775808 ≤ Z i ∧ Z i ≤ 9223372036854775807) : Row1 w v n Z := by
  obtain ⟨A, cap, h1, h2, h3, h4⟩ := h
  unfold maxLen at h3
  refine ⟨A, cap, h1, by omega, fun i _ => hZ i, fun hn => ?_⟩
  obtain ⟨b, off, h5, h6, h7⟩ := h4 hn
  exact ⟨b, off, h5, h6, fun i hi => by simpa using h7 i 0 hi (by omega)⟩
theorem Row1.below {w w' : World} {v : Value} {n : Nat} {Z : Nat → Int} (h : Row1 w v n Z) {B : Nat} (hb : Below B w w') (hB : w.heap.size ≤ B) : Row1 w' v n Z := by
  obtain ⟨A, cap, h1, h2, h3, h4⟩ := h
  refine ⟨A, cap, h1, h2, h3, fun hn => ?_⟩
  obtain ⟨b, off, h5, h6, h7⟩ := h4 hn
  exact ⟨b, off, h5, Nat.lt_of_lt_of_le h6 hb.size, fun i hi => by rw [hb.cell (p := ⟨b, _, none⟩) (by show b < B; omega)]; exact h7 i hi⟩

theorem wrapUp {Z : Nat → Int} {s : Int} {n m : Nat} {w : World} (h : Stops Z s n m) {x y : Int} (hx : x = st Z s m) (hy : y = (m : Int)) : RunPost Z s n w (.returned (.tuple #[.int .i64 x, .int .i64 y])) w :=
  ⟨m, h, by rw [hx, hy], rfl⟩

set_option maxHeartbeats 1000000 in
theorem run_any (s : Int) (v : Value) (n : Nat) (Z : Nat → Int) (w : World) (hR : Row1 w v n Z) :
    Calls Try.prog 10 #[.int .i64 s, v] w (RunPost Z s n w) := by
  obtain ⟨A, cap, rfl, hn, hZ, hcell⟩ := hR
  have HC := Lib.hid hcell
  have HZ := Lib.hid hZ
  clear hcell hZ
  go_enter Try.func10, Try.ntmps10
  go_wp2
  go_loop [0, 12] (fun t i => ∃ k : Nat, k ≤ n ∧ i = .int .i64 k ∧ t = .int .i64 (st Z s k) ∧ Hid (∀ j, j < k → nB (st Z s j) (Z j) = true)) (fun _ i => n - (intOf i).toNat)
  case atStart => exact ⟨0, Nat.zero_le _, rfl, rfl, Lib.hid (fun j hj => absurd hj (Nat.not_lt_zero _))⟩
  case round =>
    obtain ⟨k, hk, rfl, rfl, hall⟩ := hrel
    by_cases hlt : k < n
    · obtain ⟨b, off, rfl, hb, hcell⟩ := HC.out (by omega)
      have hc := hcell k hlt
      obtain ⟨z0, z1⟩ := HZ.out k hlt
      have HS := Lib.hid (show st Z s (k + 1) = nS (st Z s k) (Z k) from rfl)
      clear hcell
      by_cases hB : nB (st Z s k) (Z k) = true
      · have HB := Lib.hid hB
        clear hB
        generalize hx : st Z s k = x at *
        generalize hz : Z k = z at *
        have HX := Lib.hid hx
        have HZ2 := Lib.hid hz
        clear hx hz
        go_wp2_with fail
        refine (next_any _ _ _ z0 z1).mono ?_
        rintro e w1 ⟨he, rfl⟩
        rw [HB.out] at he
        subst he
        go_wp2_with fail
        go_round
        case rel => exact ⟨k + 1, by omega, by go_num, by rw [HS.out], Lib.hid (fun j hj => by
          by_cases hjk : j < k
          · exact hall.out j hjk
          · obtain rfl : j = k := by omega
            rw [HX.out, HZ2.out]; exact HB.out)⟩
        case measure => simp [intOf]; omega
      · have HB := Lib.hid (show nB (st Z s k) (Z k) = false by simpa using hB)
        clear hB
        have HST := Lib.hid (show Stops Z s n k from ⟨hk, hall.out, fun _ => HB.out⟩)
        generalize hx : st Z s k = x at *
        generalize hz : Z k = z at *
        have HX := Lib.hid hx
        clear hx hz
        go_wp2_with fail
        refine (next_any _ _ _ z0 z1).mono ?_
        rintro e w1 ⟨he, rfl⟩
        rw [HB.out] at he
        subst he
        go_wp2_with fail
        go_ret2
        exact wrapUp HST.out HX.out.symm rfl
    · have HST := Lib.hid (show Stops Z s n k from ⟨hk, hall.out, fun h => absurd h hlt⟩)
      obtain rfl : k = n := by omega
      go_wp2
      go_ret2
      exact wrapUp HST.out rfl rfl
end Go.Proofs.Ytgbjagmhibknoaa
