/- SettingTells. -/
import Derived.Test.YtdlmocjkhkopgaaIntact
import Derived.Test.YtdlmocjkhkopgaaLapply
import Derived.Deep.DeepCutAuto
namespace Go.Proofs.Ytdlmocjkhkopgaa
open Go.ChangeShapes Go.WideShapes Go.ChangeAt Go.RowKit
set_option linter.unusedVariables false
set_option linter.unusedSimpArgs false

set_option maxHeartbeats 4000000 in
set_option maxRecDepth 100000 in
theorem tells_any (x : S5) (v : Value) (n : Nat) (Z : Nat → Nat → Int) (w : World)
    (hR : Rowy w v n 2 (fun i j => .int .i64 (Z i j))) (hZ : ∀ i j, i < n → j < 2 → -9223372036854775808 ≤ Z i j ∧ Z i j ≤ 9223372036854775807) :
    Calls Try.prog 4 #[agg5 x, v] w fun e w' => e = .returned (.bool true) ∧ Below w.heap.size w w' := by
  have HR := Lib.hid hR
  have HZ := Lib.hid hZ
  obtain ⟨A, cap, rfl, hk, hm, hc⟩ := hR
  have HC := Lib.hid hc
  clear hZ hc
  have hk60 : 60 < n → (60 : Int) ≤ (cap : Int) := by omega
  have hnn : 0 ≤ (n : Int) := by omega
  unfold agg5
  go_enter Try.func4, Try.ntmps4
  go_upto_if 13 with fail
  go_cut [1] (fun s1 wx => ∃ m : Nat, s1 = .slice A m cap ∧ m ≤ 60 ∧ m ≤ n ∧ wx = w.alloc (.cells #[.int .i64 x.t, .int .i64 x.s, .int .i64 x.w, .int .i64 x.f, .int .i64 x.l] 23))
  case first =>
    by_cases h60 : 60 < n
    · obtain ⟨b, off, rfl, -, -⟩ := HC.out (by omega)
      have hk' := hk60 h60
      go_wp2_with fail
      go_meet
      exact ⟨60, rfl, by omega, by omega, rfl⟩
    · go_wp2_with fail
      go_meet
      exact ⟨n, rfl, by omega, by omega, rfl⟩
  case rest =>
    obtain ⟨m, rfl, hm60, hmn, rfl⟩ := hcut
    have HRm : Hid (Rowy w (.slice A m cap) m 2 (fun i j => .int .i64 (Z i j))) := Lib.hid ⟨A, cap, rfl, by omega, hm, fun h => by
      obtain ⟨b, off, h1, h2, h3⟩ := HC.out (by omega)
      exact ⟨b, off, h1, h2, fun i j hi hj => h3 i j (by omega) hj⟩⟩
    have HZm : Hid (∀ i j, i < m → j < 2 → -9223372036854775808 ≤ Z i j ∧ Z i j ≤ 9223372036854775807) := Lib.hid fun i j hi hj => HZ.out i j (by omega) hj
    clear HR HZ HC hk60 hnn
    go_wp2_with (go_at_call 14; refine (roomy_any 99 0 _ m Z _ (HRm.out.below ((Below.refl _ _).alloc (Nat.le_refl _) _) (Nat.le_refl _)) (by omega)).mono ?_; rintro e w1 ⟨g, hgs, rfl, hG, hB1⟩)
    have hs1 := hB1.size
    simp only [World.size_alloc] at hs1 hgs
    have hF2 : FX w1 w.heap.size x := (FX.new w _ x rfl).below hB1 (by simp only [World.size_alloc]; omega)
    have hBw1 : Below w.heap.size w w1 := Below.trans (by go_grown) (hB1.mono (by simp only [World.size_alloc]; omega))
    clear hB1
    refine wp_forget (fun W => Below w.heap.size w W ∧ FX W w.heap.size x ∧ Blk W g 29 (pairsOf (roomZ Z 99 0 m (m + 80)) (m + 80)).toArray ∧ w.heap.size + 1 ≤ W.heap.size) ⟨hBw1, hF2, hG, hs1⟩ ?_
    rintro W ⟨hBW, hF2, hG, hsW⟩
    have HG := Lib.hid hG
    have hgl := hG.lt
    have hx2 : w.heap.size < W.heap.size := by omega
    obtain ⟨a0, a1, a2, a3, a4⟩ := hF2
    have H2 : Hid (FX W w.heap.size x) := Lib.hid ⟨a0, a1, a2, a3, a4⟩
    have hm0 : (0 : Int) ≤ (m : Int) := by omega
    have hm80 : (m : Int) ≤ (m : Int) + 80 := by omega
    clear hG
    go_cut [6, 7] (fun s6 s7 wx => ∃ (h : Nat) (y : S5) (c : Int), s6 = .pointer (some ⟨h, 0, none⟩) ∧ s7 = .int .i64 c ∧ Hid (Ans Z x m y c) ∧ FX wx h y ∧ h < wx.heap.size ∧ Below W.heap.size W wx)
    case first =>
      go_region_held3 (fun w' => Below W.heap.size W w' ∧ FX w' w.heap.size x) (refine ⟨?_, FX.below H2.out ?_ hx2⟩ <;> go_grown) (first
        | (go_at_call 9
           refine (apply_any x _ m Z _ (rowy_room (HG.out.below (B := W.heap.size) (by go_grown) hgl) (by omega) (by unfold maxLen; omega)) HZm.out).mono ?_
           rintro e w3 ⟨r, f, hans3, rfl, hB3⟩
           unfold agg5
           have hBc : Below W.heap.size W w3 := Below.trans (by go_grown) (hB3.mono (by go_size))
           have hBcs := hBc.size
           have hl3 := hB3.size
           try simp only [World.size_alloc, World.size_drew] at hl3
           first
             | (refine (fun (kz : Blk w3 W.heap.size 23 z5) => ?_) ?_
                rotate_left
                focus
                  refine Blk.below ?_ hB3 (by first | omega | (simp only [World.size_alloc, World.size_drew]; first | done | omega))
                  repeat' (first | with_reducible refine Blk.drew ?_ | exact Blk.new_at (by first | omega | (simp only [World.size_alloc, World.size_drew]; first | done | omega)))
                  all_goals fail "stuck"
                obtain ⟨k0, k1, k2, k3, k4, k5, k6, k7, k8, k9⟩ := blk_cells kz)
             | skip))
      all_goals
        go_wp2_with fail
        go_meet
        refine ⟨_, r, f, rfl, rfl, Lib.hid hans3, ?_, ?_, ?_⟩
        · first | with_reducible exact FX.new _ _ _ rfl | (refine ⟨?_, ?_, ?_, ?_, ?_⟩ <;> go_simp)
        · first | (simp only [World.size_alloc, World.size_setCell]; omega) | omega
        · go_grown
    case rest =>
      obtain ⟨h, y, c, rfl, rfl, HA1, hF6, hl6, hBc⟩ := hcut
      have hF2' := FX.below H2.out hBc hx2
      have hxc : w.heap.size < wc.heap.size := Nat.lt_of_lt_of_le hx2 hBc.size
      obtain ⟨b0, b1, b2, b3, b4⟩ := hF2'
      go_wp2_with (go_at_call 15; refine (lapply_any x _ m Z _ (HRm.out.below (hBW.trans (hBc.mono (by omega))) (Nat.le_refl _)) HZm.out).mono ?_; rintro e w4 ⟨y2, c2, hans4, rfl, hB4⟩; obtain ⟨rfl, rfl⟩ := hans4.one HA1.out; unfold agg5)
      have hz4 := hB4.size
      have hF6' := (hF6.below hB4 hl6)
      have hG4 := ((HG.out.below hBc hgl).below hB4 (Nat.lt_of_lt_of_le hgl hBc.size))
      have hB4w : Below w.heap.size w w4 := (hBW.trans (hBc.mono (by omega))).trans (hB4.mono (by omega))
      have hzc := hBc.size
      clear hF6 hB4 hans4
      refine wp_forget (fun V => Below w.heap.size w V ∧ FX V h y2 ∧ FX V w4.heap.size y2 ∧ Blk V g 29 (pairsOf (roomZ Z 99 0 m (m + 80)) (m + 80)).toArray ∧ h < V.heap.size ∧ w4.heap.size < V.heap.size ∧ w.heap.size ≤ V.heap.size) ⟨by go_grown, hF6'.alloc _ (by omega), FX.new _ _ _ rfl, hG4.alloc _, by simp only [World.size_alloc]; omega, by simp only [World.size_alloc]; omega, by simp only [World.size_alloc]; omega⟩ ?_
      rintro V ⟨hBV, hV6, hV8, hVG, hl6, hl8, hVs⟩
      generalize w4.heap.size = b8 at *
      have HVG := Lib.hid hVG
      have H6 := Lib.hid hV6
      have H8 := Lib.hid hV8
      have hgV := hVG.lt
      clear hVG hV6 hV8 hG4 hF6' b0 b1 b2 b3 b4 a0 a1 a2 a3 a4
      go_loopw [10] (fun i wr => ∃ k : Nat, k ≤ m ∧ i = .int .i64 k ∧ Below V.heap.size V wr) (fun i _ => m - (intOf i).toNat)
      case atStart => exact ⟨0, Nat.zero_le _, rfl, Below.refl _ _⟩
      case round =>
        obtain ⟨k, hk, rfl, hB⟩ := hrel
        by_cases hlt : k < m
        · obtain ⟨A', cap', he, -, -, hc⟩ := HRm.out
          cases he
          obtain ⟨b, off, rfl, hb, hcell⟩ := hc (by omega)
          have hbV : b < V.heap.size := by omega
          have e0 : wr.cell? ⟨b, off + k * 2, none⟩ = some (.int .i64 (Z k 0)) := by rw [hB.cell (p := ⟨b, _, none⟩) hbV, hBV.cell (p := ⟨b, _, none⟩) hb]; simpa using hcell k 0 hlt (by omega)
          have e1 : wr.cell? ⟨b, off + k * 2 + 1, none⟩ = some (.int .i64 (Z k 1)) := by rw [hB.cell (p := ⟨b, _, none⟩) hbV, hBV.cell (p := ⟨b, _, none⟩) hb]; simpa [Nat.add_assoc] using hcell k 1 hlt (by omega)
          have hki : (k : Int) < (m : Int) := by omega
          have hk0 : 0 ≤ (k : Int) := by omega
          have hbr : b < wr.heap.size := Nat.lt_of_lt_of_le hbV hB.size
          have hVr := hB.size
          have hbr1 : b < wr.heap.size + 1 := by omega
          have hbr2 : b < wr.heap.size + 1 + 1 := by omega
          clear hcell hc
          generalize Z k 0 = z0 at *
          generalize Z k 1 = z1 at *
          go_wp2_with fail
          go_region_held3 (fun w' => w'.cell? ⟨b, off + k * 2, none⟩ = some (.int .i64 z0) ∧ w'.cell? ⟨b, off + k * 2 + 1, none⟩ = some (.int .i64 z1)) (refine ⟨?_, ?_⟩ <;> go_simp) (first
            | (go_at_call 11; refine (value_any _ _ _).mono ?_; rintro e w1 ⟨rfl, rfl⟩)
            | (go_at_call 16; refine (rvalue_any _ _ _).mono ?_; rintro e w1 ⟨rfl, rfl⟩))
          all_goals
            go_wp2_with fail
            go_roundw
            case rel => exact ⟨k + 1, by omega, by go_num, by go_grown⟩
            case measure => simp [intOf]; omega
        · obtain rfl : k = m := by omega
          have hBe : Below w.heap.size w wr := hBV.trans (hB.mono hVs)
          obtain ⟨p0, p1, p2, p3, p4⟩ := H6.out.below hB hl6
          obtain ⟨q0, q1, q2, q3, q4⟩ := H8.out.below hB hl8
          go_wp2_with (first
            | (go_at_call 17; refine (intact_any 99 0 _ g k Z _ (HRm.out.below hBe (Nat.le_refl _)) (by omega) (HVG.out.below hB hgV)).mono ?_; rintro e w5 ⟨rfl, hB5⟩)
            | (go_at_call 3; refine (runs_any _).mono ?_; rintro e w6 ⟨rfl, hB6⟩))
          go_ret
          exact ⟨rfl, (hBe.trans (hB5.mono hBe.size)).trans (hB6.mono (Nat.le_trans hBe.size hB5.size))⟩
end Go.Proofs.Ytdlmocjkhkopgaa
