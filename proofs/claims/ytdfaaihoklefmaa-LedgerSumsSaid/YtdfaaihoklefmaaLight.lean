/- Light, light. -/
import Derived.Test.YtdfaaihoklefmaaApp
import Derived.Deep.RegionHeld3
import Derived.Deep.DeepCutAuto
namespace Go.Proofs.Ytdfaaihoklefmaa
open Go.ChangeShapes Go.WideShapes Go.ChangeAt Go.RowKit
set_option linter.unusedVariables false
set_option linter.unusedSimpArgs false

set_option maxHeartbeats 1000000 in
set_option maxRecDepth 100000 in
theorem light_any (A : Option Addr) (n cap : Nat) (F : Nat → ByteArray × ByteArray) (w : World) (hR : Rowy w (.slice A n cap) n 2 (FV F)) :
    Calls Try.prog 10 #[.slice A n cap] w fun e w' => (∃ b, e = .returned (.bool b)) ∧ Below w.heap.size w w' := by
  obtain ⟨A', cap', he, hlc, hcm, hcell⟩ := hR
  cases he
  have HC := Lib.hid hcell
  clear hcell
  unfold maxLen at hcm
  go_enter Try.func10, Try.ntmps10
  go_wp2_with fail
  go_loopw [3, 4] (fun s3 s4 wr => ∃ (i : Nat) (m : Int), s4 = .int .i64 i ∧ i ≤ n ∧ s3 = .int .i64 m ∧ Below w.heap.size w wr) (fun _ s4 _ => n - (intOf s4).toNat)
  case atStart => exact ⟨0, 0, rfl, Nat.zero_le _, rfl, by go_grown⟩
  case round =>
    obtain ⟨i, m, rfl, hi, rfl, hB⟩ := hrel
    have hwr := hB.size
    by_cases hlt : i < n
    · obtain ⟨b, off, rfl, gb, q⟩ := HC.out (by omega)
      have e1 : wr.cell? ⟨b, off + i * 2, none⟩ = some (.string (F i).1) := by rw [hB.cell (p := ⟨b, _, none⟩) gb]; simpa [FV] using q i 0 hlt (by omega)
      have e2 : wr.cell? ⟨b, off + i * 2 + 1, none⟩ = some (.string (F i).2) := by rw [hB.cell (p := ⟨b, _, none⟩) gb]; simpa [FV, Nat.add_assoc] using q i 1 hlt (by omega)
      have hki : (i : Int) < (n : Int) := by omega
      have hk0 : 0 ≤ (i : Int) := by omega
      have hb1 : b < wr.heap.size := by omega
      clear q
      generalize (F i).1 = x at *
      generalize (F i).2 = y at *
      obtain ⟨m1, hm1⟩ : ∃ m1, IntKind.i64.wrap (m + (x.size : Int)) = m1 := ⟨_, rfl⟩
      obtain ⟨m2, hm2⟩ : ∃ m2, IntKind.i64.wrap (m1 + (y.size : Int)) = m2 := ⟨_, rfl⟩
      obtain ⟨m3, hm3⟩ : ∃ m3, IntKind.i64.wrap (m2 + 1) = m3 := ⟨_, rfl⟩
      by_cases hbig : 2000 < m3
      · go_upto_region 5 with fail
        go_region_held3 (fun wx => wx.cell? ⟨b, off + i * 2, none⟩ = some (.string x) ∧ wx.cell? ⟨b, off + i * 2 + 1, none⟩ = some (.string y)) (refine ⟨?_, ?_⟩ <;> go_simp) (fail)
        all_goals
          go_wp2_with fail
          go_ret
          exact ⟨⟨false, rfl⟩, by go_grown⟩
      · go_upto_region 5 with fail
        go_region_held3 (fun wx => wx.cell? ⟨b, off + i * 2, none⟩ = some (.string x) ∧ wx.cell? ⟨b, off + i * 2 + 1, none⟩ = some (.string y)) (refine ⟨?_, ?_⟩ <;> go_simp) (fail)
        all_goals
          go_wp2_with fail
          go_roundw
          case rel => exact ⟨i + 1, m3, by go_num, by omega, rfl, by go_grown⟩
          case measure => simp [intOf]; omega
    · obtain rfl : i = n := by omega
      go_wp2_with fail
      go_ret
      exact ⟨⟨true, rfl⟩, hB⟩
/-- The cells of talks. -/
def TV (T : Nat → Talk) : Nat → Nat → Value := fun i j => (T i).cells.getD j undef
theorem TV_one (T : Nat → Talk) : ∀ i j, j < 9 → (TV T i j).oneCell' = true := fun i j hj => by
  rcases (show j = 0 ∨ j = 1 ∨ j = 2 ∨ j = 3 ∨ j = 4 ∨ j = 5 ∨ j = 6 ∨ j = 7 ∨ j = 8 by omega) with rfl | rfl | rfl | rfl | rfl | rfl | rfl | rfl | rfl <;> rfl
/-- The talk's fields lie in w. -/
def Tok (w : World) (t : Talk) (F : Nat → ByteArray × ByteArray) : Prop := Rowy w (.slice t.A t.n t.cap) t.n 2 (FV F)
set_option maxHeartbeats 1000000 in
set_option maxRecDepth 100000 in
theorem lighty_any (A : Option Addr) (n cap : Nat) (T : Nat → Talk) (F : Nat → Nat → ByteArray × ByteArray) (w : World) (hR : Rowy w (.slice A n cap) n 9 (TV T)) (hT : ∀ i, i < n → Tok w (T i) (F i)) :
    Calls Try.prog 16 #[.slice A n cap] w fun e w' => (∃ b, e = .returned (.bool b) ∧ (b = true → n ≤ 40)) ∧ Below w.heap.size w w' := by
  obtain ⟨A', cap', he, hlc, hcm, hcell⟩ := hR
  cases he
  have HC := Lib.hid hcell
  have HT := Lib.hid hT
  clear hcell hT
  unfold maxLen at hcm
  go_enter Try.func16, Try.ntmps16
  go_wp2_with fail
  go_loopw [3] (fun s4 wr => ∃ (i : Nat), s4 = .int .i64 i ∧ i ≤ n ∧ Below w.heap.size w wr) (fun s4 _ => n - (intOf s4).toNat)
  case atStart => exact ⟨0, rfl, Nat.zero_le _, by go_grown⟩
  case round =>
    obtain ⟨i, rfl, hi, hB⟩ := hrel
    have hwr := hB.size
    by_cases hlt : i < n
    · obtain ⟨b, off, rfl, gb, q⟩ := HC.out (by omega)
      have e1 : wr.cell? ⟨b, off + i * 9 + 3, none⟩ = some (.slice (T i).A (T i).n (T i).cap) := by rw [hB.cell (p := ⟨b, _, none⟩) gb]; simpa [TV, Nat.add_assoc] using q i 3 hlt (by omega)
      have HTi := Lib.hid (HT.out i hlt)
      have hki : (i : Int) < (n : Int) := by omega
      have hk0 : 0 ≤ (i : Int) := by omega
      have hb1 : b < wr.heap.size := by omega
      clear q
      unfold Tok at HTi
      generalize (T i).A = ta at *
      generalize (T i).n = tn at *
      generalize (T i).cap = tc at *
      go_upto_region 4 with fail
      go_cut [16] (fun s16 wx => ∃ b : Bool, s16 = .bool b ∧ Below w.heap.size w wx)
      case first =>
        go_wp2_with (go_at_call 10; refine (light_any _ _ _ (F i) _ (HTi.out.below (by go_grown) (Nat.le_refl _))).mono ?_; rintro e w1 ⟨⟨bb, rfl⟩, hB1⟩)
        go_meet
        exact ⟨!bb, rfl, Below.trans hB (hB1.mono hwr)⟩
      case rest =>
      obtain ⟨bb, rfl, hB1⟩ := hcut
      cases bb
      · go_wp2_with fail
        go_roundw
        case rel => exact ⟨i + 1, by go_num, by omega, hB1⟩
        case measure => simp [intOf]; omega
      · go_wp2_with fail
        go_ret
        exact ⟨⟨false, rfl, fun h => by cases h⟩, hB1⟩
    · obtain rfl : i = n := by omega
      go_wp2_with fail
      go_ret
      refine ⟨⟨_, rfl, fun h => ?_⟩, hB⟩
      have : (i : Int) ≤ 40 := by simpa using h
      omega
end Go.Proofs.Ytdfaaihoklefmaa
