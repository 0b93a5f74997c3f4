/- Same and Intact over settings. -/
import Derived.Test.YtdlmocjkhkopgaaRoomy
namespace Go.Proofs.Ytdlmocjkhkopgaa
open Go.ChangeShapes Go.WideShapes Go.ChangeAt Go.RowKit
set_option linter.unusedVariables false
set_option linter.unusedSimpArgs false

set_option maxHeartbeats 1000000 in
set_option maxRecDepth 100000 in
theorem sames_true (v1 v2 : Value) (n : Nat) (Z : Nat → Nat → Int) (w : World) (h1 : Rowy w v1 n 2 (fun i j => .int .i64 (Z i j))) (h2 : Rowy w v2 n 2 (fun i j => .int .i64 (Z i j))) :
    Calls Try.prog 20 #[v1, v2] w fun e w' => e = .returned (.bool true) ∧ Below w.heap.size w w' := by
  obtain ⟨A1, c1, rfl, l1, m1, k1⟩ := h1
  obtain ⟨A2, c2, rfl, l2, m2, k2⟩ := h2
  have K1 := Lib.hid k1
  have K2 := Lib.hid k2
  clear k1 k2
  unfold maxLen at m1 m2
  go_enter Try.func20, Try.ntmps20
  go_wp2
  go_loopw [5] (fun i wr => ∃ k : Nat, k ≤ n ∧ i = .int .i64 k ∧ Below w.heap.size w wr) (fun i _ => n - (intOf i).toNat)
  case atStart => exact ⟨0, Nat.zero_le _, rfl, Below.refl _ _⟩
  case round =>
    obtain ⟨k, hk, rfl, hB⟩ := hrel
    by_cases hlt : k < n
    · obtain ⟨b1, o1, rfl, g1, q1⟩ := K1.out (by omega)
      obtain ⟨b2, o2, rfl, g2, q2⟩ := K2.out (by omega)
      have e1 : wr.cell? ⟨b1, o1 + k * 2, none⟩ = some (.int .i64 (Z k 0)) := by rw [hB.cell (p := ⟨b1, _, none⟩) g1]; simpa using q1 k 0 hlt (by omega)
      have e1' : wr.cell? ⟨b1, o1 + k * 2 + 1, none⟩ = some (.int .i64 (Z k 1)) := by rw [hB.cell (p := ⟨b1, _, none⟩) g1]; simpa [Nat.add_assoc] using q1 k 1 hlt (by omega)
      have e2 : wr.cell? ⟨b2, o2 + k * 2, none⟩ = some (.int .i64 (Z k 0)) := by rw [hB.cell (p := ⟨b2, _, none⟩) g2]; simpa using q2 k 0 hlt (by omega)
      have e2' : wr.cell? ⟨b2, o2 + k * 2 + 1, none⟩ = some (.int .i64 (Z k 1)) := by rw [hB.cell (p := ⟨b2, _, none⟩) g2]; simpa [Nat.add_assoc] using q2 k 1 hlt (by omega)
      have hki : (k : Int) < (n : Int) := by omega
      have hk0 : 0 ≤ (k : Int) := by omega
      clear q1 q2
      generalize Z k 0 = z0 at *
      generalize Z k 1 = z1 at *
      go_wp2_with fail
      go_quiet (fail)
      go_wp2_with fail
      go_roundw
      case rel => exact ⟨k + 1, by omega, by go_num, below_drewN hB _⟩
      case measure => simp [intOf]; omega
    · go_wp2_with fail
      go_ret
      exact ⟨rfl, hB⟩

theorem rowy_room {w : World} {g n cap : Nat} {Z : Nat → Nat → Int} {m0 m1 : Int} (h : Blk w g 29 (pairsOf (roomZ Z m0 m1 n (n + 80)) (n + 80)).toArray) (hc : n ≤ cap) (hm : cap ≤ maxLen) :
    Rowy w (.slice (some ⟨g, 0, none⟩) n cap) n 2 (fun i j => .int .i64 (Z i j)) :=
  ⟨_, _, rfl, hc, hm, fun _ => ⟨g, 0, rfl, h.lt, fun i j hi hj => by
    have := h.cell (i * 2 + j)
    rw [Nat.zero_add, this, List.getElem?_toArray, pairsOf_get _ _ _ (by omega), show (i * 2 + j) / 2 = i by omega, show (i * 2 + j) % 2 = j by omega]
    simp only [roomZ, if_pos hi]⟩⟩

set_option maxHeartbeats 1000000 in
set_option maxRecDepth 100000 in
theorem intact_any (m0 m1 : Int) (v : Value) (g n : Nat) (Z : Nat → Nat → Int) (w : World) (hR : Rowy w v n 2 (fun i j => .int .i64 (Z i j))) (hn : n ≤ 1000)
    (hG : Blk w g 29 (pairsOf (roomZ Z m0 m1 n (n + 80)) (n + 80)).toArray) :
    Calls Try.prog 17 #[.slice (some ⟨g, 0, none⟩) (n + 80) (n + 80), v, .agg #[.int .i64 m0, .int .i64 m1]] w fun e w' => e = .returned (.bool true) ∧ Below w.heap.size w w' := by
  have HR := Lib.hid hR
  have HG := Lib.hid hG
  have hgl := hG.lt
  obtain ⟨A, cap, rfl, hk, hm, -⟩ := hR
  clear hG
  have hn0 : 0 ≤ (n : Int) := by omega
  have hn1 : (n : Int) ≤ (n : Int) + 80 := by omega
  go_enter Try.func17, Try.ntmps17
  go_wp2_with (go_at_call 20; refine (sames_true _ _ n Z _ (rowy_room (HG.out.alloc _) (by omega) (by unfold maxLen; omega)) (HR.out.below ((Below.refl _ _).alloc (Nat.le_refl _) _) (Nat.le_refl _))).mono ?_; rintro e w1 ⟨rfl, hB1⟩)
  have hG1 : Blk w1 g 29 (pairsOf (roomZ Z m0 m1 n (n + 80)) (n + 80)).toArray := (HG.out.alloc _).below hB1 (by simp only [World.size_alloc]; omega)
  have hX1 : Blk w1 w.heap.size 29 #[.int .i64 m0, .int .i64 m1] := (Blk.new _ _ _).below hB1 (by simp only [World.size_alloc]; omega)
  have hBw : Below w.heap.size w w1 := Below.trans (by go_grown) (hB1.mono (by simp only [World.size_alloc]; omega))
  have HG1 := Lib.hid hG1
  have HX1 := Lib.hid hX1
  have hgl1 := hG1.lt
  have hxl1 := hX1.lt
  have hbs := hBw.size
  clear hG1 hX1 hB1
  go_loopw [7] (fun i wr => ∃ k : Nat, n ≤ k ∧ k ≤ n + 80 ∧ i = .int .i64 k ∧ Below w1.heap.size w1 wr) (fun i _ => n + 80 - (intOf i).toNat)
  case atStart => exact ⟨n, Nat.le_refl _, by omega, rfl, Below.refl _ _⟩
  case round =>
    obtain ⟨k, h1, h2, rfl, hB⟩ := hrel
    by_cases hlt : k < n + 80
    · have x0 : wr.cell? ⟨w.heap.size, 0, none⟩ = some (.int .i64 m0) := (hB.cell hxl1).trans (HX1.out.cell 0)
      have x1 : wr.cell? ⟨w.heap.size, 1, none⟩ = some (.int .i64 m1) := (hB.cell hxl1).trans (HX1.out.cell 1)
      have e0 : wr.cell? ⟨g, k * 2, none⟩ = some (.int .i64 m0) := (hB.cell hgl1).trans ((HG1.out.cell _).trans (by rw [List.getElem?_toArray, pairsOf_get _ _ _ (by omega), show k * 2 / 2 = k by omega, show k * 2 % 2 = 0 by omega]; simp [roomZ, hlt, show ¬ k < n by omega]))
      have e1 : wr.cell? ⟨g, k * 2 + 1, none⟩ = some (.int .i64 m1) := (hB.cell hgl1).trans ((HG1.out.cell _).trans (by rw [List.getElem?_toArray, pairsOf_get _ _ _ (by omega), show (k * 2 + 1) / 2 = k by omega, show (k * 2 + 1) % 2 = 1 by omega]; simp [roomZ, hlt, show ¬ k < n by omega]))
      have hki : (k : Int) < (n : Int) + 80 := by omega
      have hk0 : 0 ≤ (k : Int) := by omega
      go_wp2_with fail
      go_quiet (fail)
      go_wp2_with fail
      go_roundw
      case rel => exact ⟨k + 1, by omega, by omega, by go_num, below_drewN hB _⟩
      case measure => simp [intOf]; omega
    · obtain rfl : k = n + 80 := by omega
      go_wp2_with fail
      go_ret
      exact ⟨rfl, hBw.trans (hB.mono hbs)⟩
end Go.Proofs.Ytdlmocjkhkopgaa
