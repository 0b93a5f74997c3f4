import Derived.Test.YtpgfdoakehpnlaaGreatDoorAyB
import Derived.Test.YtpgfdoakehpnlaaGreatDoorAyF
import Derived.Test.YtpgfdoakehpnlaaGreatDoorAyR0
import Derived.Test.YtpgfdoakehpnlaaGreatDoorAyR1
import Derived.Test.YtpgfdoakehpnlaaGreatDoorAyR2
import Derived.Test.YtpgfdoakehpnlaaGreatDoorAyR3
import Derived.Test.YtpgfdoakehpnlaaGreatDoorAyR4
import Derived.Test.YtpgfdoakehpnlaaGreatDoorAyR5
import Derived.Test.YtpgfdoakehpnlaaGreatDoorAyR6
import Derived.Test.YtpgfdoakehpnlaaGreatDoorAyR7
import Derived.Test.YtpgfdoakehpnlaaGreatDoorAyR8
import Derived.Test.YtpgfdoakehpnlaaGreatDoorAyR9
import Derived.Test.YtpgfdoakehpnlaaGreatDoorAyR10
import Derived.Test.YtpgfdoakehpnlaaGreatDoorAyR11
import Derived.Test.YtpgfdoakehpnlaaGreatDoorAyR12
import Derived.Test.YtpgfdoakehpnlaaGreatDoorAyR13
import Derived.Test.YtpgfdoakehpnlaaGreatDoorAyR14
set_option linter.unusedVariables false
set_option linter.unusedSimpArgs false
namespace Go.AM
open Go Go.Proofs
set_option maxRecDepth 100000
/-! # TopBudget: all runs -/
noncomputable section
def stN : Nat → Sta
  | 0 => Bs.st0
  | 1 => Bs.st1
  | 2 => Bs.st2
  | 3 => Bs.st3
  | 4 => Bs.st4
  | 5 => Bs.st5
  | 6 => Bs.st6
  | 7 => Bs.st7
  | 8 => Bs.st8
  | 9 => Bs.st9
  | 10 => Bs.st10
  | 11 => Bs.st11
  | 12 => Bs.st12
  | 13 => Bs.st13
  | 14 => Bs.st14
  | _ => Bs.st15
def mtN : Nat → Sta
  | 0 => Bs.mt0
  | 1 => Bs.mt1
  | 2 => Bs.mt2
  | 3 => Bs.mt3
  | 4 => Bs.mt4
  | 5 => Bs.mt5
  | 6 => Bs.mt6
  | 7 => Bs.mt7
  | 8 => Bs.mt8
  | 9 => Bs.mt9
  | 10 => Bs.mt10
  | 11 => Bs.mt11
  | 12 => Bs.mt12
  | 13 => Bs.mt13
  | _ => Bs.mt14
end
theorem fm0 : staFit 0 Bs.mt0 = true := by kernel_rfl
theorem fs0 : staFit 0 Bs.st1 = true := by kernel_rfl
theorem hd0 : hdFit Bs.st1 = true := by kernel_rfl
theorem fm1 : staFit 1 Bs.mt1 = true := by kernel_rfl
theorem fs1 : staFit 1 Bs.st2 = true := by kernel_rfl
theorem hd1 : hdFit Bs.st2 = true := by kernel_rfl
theorem fm2 : staFit 2 Bs.mt2 = true := by kernel_rfl
theorem fs2 : staFit 2 Bs.st3 = true := by kernel_rfl
theorem hd2 : hdFit Bs.st3 = true := by kernel_rfl
theorem fm3 : staFit 3 Bs.mt3 = true := by kernel_rfl
theorem fs3 : staFit 3 Bs.st4 = true := by kernel_rfl
theorem hd3 : hdFit Bs.st4 = true := by kernel_rfl
theorem fm4 : staFit 4 Bs.mt4 = true := by kernel_rfl
theorem fs4 : staFit 4 Bs.st5 = true := by kernel_rfl
theorem hd4 : hdFit Bs.st5 = true := by kernel_rfl
theorem fm5 : staFit 5 Bs.mt5 = true := by kernel_rfl
theorem fs5 : staFit 5 Bs.st6 = true := by kernel_rfl
theorem hd5 : hdFit Bs.st6 = true := by kernel_rfl
theorem fm6 : staFit 6 Bs.mt6 = true := by kernel_rfl
theorem fs6 : staFit 6 Bs.st7 = true := by kernel_rfl
theorem hd6 : hdFit Bs.st7 = true := by kernel_rfl
theorem fm7 : staFit 7 Bs.mt7 = true := by kernel_rfl
theorem fs7 : staFit 7 Bs.st8 = true := by kernel_rfl
theorem hd7 : hdFit Bs.st8 = true := by kernel_rfl
theorem fm8 : staFit 8 Bs.mt8 = true := by kernel_rfl
theorem fs8 : staFit 8 Bs.st9 = true := by kernel_rfl
theorem hd8 : hdFit Bs.st9 = true := by kernel_rfl
theorem fm9 : staFit 9 Bs.mt9 = true := by kernel_rfl
theorem fs9 : staFit 9 Bs.st10 = true := by kernel_rfl
theorem hd9 : hdFit Bs.st10 = true := by kernel_rfl
theorem fm10 : staFit 10 Bs.mt10 = true := by kernel_rfl
theorem fs10 : staFit 10 Bs.st11 = true := by kernel_rfl
theorem hd10 : hdFit Bs.st11 = true := by kernel_rfl
theorem fm11 : staFit 11 Bs.mt11 = true := by kernel_rfl
theorem fs11 : staFit 11 Bs.st12 = true := by kernel_rfl
theorem hd11 : hdFit Bs.st12 = true := by kernel_rfl
theorem fm12 : staFit 12 Bs.mt12 = true := by kernel_rfl
theorem fs12 : staFit 12 Bs.st13 = true := by kernel_rfl
theorem hd12 : hdFit Bs.st13 = true := by kernel_rfl
theorem fm13 : staFit 13 Bs.mt13 = true := by kernel_rfl
theorem fs13 : staFit 13 Bs.st14 = true := by kernel_rfl
theorem hd13 : hdFit Bs.st14 = true := by kernel_rfl
theorem fm14 : staFit 14 Bs.mt14 = true := by kernel_rfl
theorem fs14 : staFit 14 Bs.st15 = true := by kernel_rfl
theorem hd14 : hdFit Bs.st15 = true := by kernel_rfl
theorem fs00 : staFit 0 Bs.st0 = true := by kernel_rfl
theorem hd00 : hdFit Bs.st0 = true := by kernel_rfl
theorem runs0 : Runs 0 Bs.st0 Bs.mt0 Bs.st1 where
  p1 := fun known hit h1 h2 => by
    have := h2 rfl
    subst this
    cases hit with
    | false => exact ⟨r0a0, r0b0, r0c0⟩
    | true => cases h1 rfl
  p2 := fun size nil h1 h2 => by
    have : size = 0 ∨ size = 1 ∨ size = 2 ∨ size = 3 ∨ size = 4 := by omega
    cases nil with
    | false =>
      rcases this with rfl | rfl | rfl | rfl | rfl
      · exact r0s0f
      · exact r0s1f
      · exact r0s2f
      · exact r0s3f
      · exact r0s4f
    | true =>
      have := h2 rfl
      have : size = 3 ∨ size = 4 := by omega
      rcases this with rfl | rfl
      · exact r0s3t
      · exact r0s4t
  fm := fm0
  fs := fs0
  hs := hd0
theorem runs1 : Runs 1 Bs.st1 Bs.mt1 Bs.st2 where
  p1 := fun known hit h1 _ => by
    cases known with
    | false =>
      cases hit with
      | false => exact ⟨r1a0, r1b0, r1c0⟩
      | true => cases h1 rfl
    | true =>
      cases hit with
      | false => exact ⟨r1a1, r1b1, r1c1⟩
      | true => exact ⟨r1a2, r1b2, r1c2⟩
  p2 := fun size nil h1 h2 => by
    have : size = 0 ∨ size = 1 ∨ size = 2 ∨ size = 3 ∨ size = 4 := by omega
    cases nil with
    | false =>
      rcases this with rfl | rfl | rfl | rfl | rfl
      · exact r1s0f
      · exact r1s1f
      · exact r1s2f
      · exact r1s3f
      · exact r1s4f
    | true =>
      have := h2 rfl
      have : size = 3 ∨ size = 4 := by omega
      rcases this with rfl | rfl
      · exact r1s3t
      · exact r1s4t
  fm := fm1
  fs := fs1
  hs := hd1
theorem runs2 : Runs 2 Bs.st2 Bs.mt2 Bs.st3 where
  p1 := fun known hit h1 _ => by
    cases known with
    | false =>
      cases hit with
      | false => exact ⟨r2a0, r2b0, r2c0⟩
      | true => cases h1 rfl
    | true =>
      cases hit with
      | false => exact ⟨r2a1, r2b1, r2c1⟩
      | true => exact ⟨r2a2, r2b2, r2c2⟩
  p2 := fun size nil h1 h2 => by
    have : size = 0 ∨ size = 1 ∨ size = 2 ∨ size = 3 ∨ size = 4 := by omega
    cases nil with
    | false =>
      rcases this with rfl | rfl | rfl | rfl | rfl
      · exact r2s0f
      · exact r2s1f
      · exact r2s2f
      · exact r2s3f
      · exact r2s4f
    | true =>
      have := h2 rfl
      have : size = 3 ∨ size = 4 := by omega
      rcases this with rfl | rfl
      · exact r2s3t
      · exact r2s4t
  fm := fm2
  fs := fs2
  hs := hd2
theorem runs3 : Runs 3 Bs.st3 Bs.mt3 Bs.st4 where
  p1 := fun known hit h1 _ => by
    cases known with
    | false =>
      cases hit with
      | false => exact ⟨r3a0, r3b0, r3c0⟩
      | true => cases h1 rfl
    | true =>
      cases hit with
      | false => exact ⟨r3a1, r3b1, r3c1⟩
      | true => exact ⟨r3a2, r3b2, r3c2⟩
  p2 := fun size nil h1 h2 => by
    have : size = 0 ∨ size = 1 ∨ size = 2 ∨ size = 3 ∨ size = 4 := by omega
    cases nil with
    | false =>
      rcases this with rfl | rfl | rfl | rfl | rfl
      · exact r3s0f
      · exact r3s1f
      · exact r3s2f
      · exact r3s3f
      · exact r3s4f
    | true =>
      have := h2 rfl
      have : size = 3 ∨ size = 4 := by omega
      rcases this with rfl | rfl
      · exact r3s3t
      · exact r3s4t
  fm := fm3
  fs := fs3
  hs := hd3
theorem runs4 : Runs 4 Bs.st4 Bs.mt4 Bs.st5 where
  p1 := fun known hit h1 _ => by
    cases known with
    | false =>
      cases hit with
      | false => exact ⟨r4a0, r4b0, r4c0⟩
      | true => cases h1 rfl
    | true =>
      cases hit with
      | false => exact ⟨r4a1, r4b1, r4c1⟩
      | true => exact ⟨r4a2, r4b2, r4c2⟩
  p2 := fun size nil h1 h2 => by
    have : size = 0 ∨ size = 1 ∨ size = 2 ∨ size = 3 ∨ size = 4 := by omega
    cases nil with
    | false =>
      rcases this with rfl | rfl | rfl | rfl | rfl
      · exact r4s0f
      · exact r4s1f
      · exact r4s2f
      · exact r4s3f
      · exact r4s4f
    | true =>
      have := h2 rfl
      have : size = 3 ∨ size = 4 := by omega
      rcases this with rfl | rfl
      · exact r4s3t
      · exact r4s4t
  fm := fm4
  fs := fs4
  hs := hd4
theorem runs5 : Runs 5 Bs.st5 Bs.mt5 Bs.st6 where
  p1 := fun known hit h1 _ => by
    cases known with
    | false =>
      cases hit with
      | false => exact ⟨r5a0, r5b0, r5c0⟩
      | true => cases h1 rfl
    | true =>
      cases hit with
      | false => exact ⟨r5a1, r5b1, r5c1⟩
      | true => exact ⟨r5a2, r5b2, r5c2⟩
  p2 := fun size nil h1 h2 => by
    have : size = 0 ∨ size = 1 ∨ size = 2 ∨ size = 3 ∨ size = 4 := by omega
    cases nil with
    | false =>
      rcases this with rfl | rfl | rfl | rfl | rfl
      · exact r5s0f
      · exact r5s1f
      · exact r5s2f
      · exact r5s3f
      · exact r5s4f
    | true =>
      have := h2 rfl
      have : size = 3 ∨ size = 4 := by omega
      rcases this with rfl | rfl
      · exact r5s3t
      · exact r5s4t
  fm := fm5
  fs := fs5
  hs := hd5
theorem runs6 : Runs 6 Bs.st6 Bs.mt6 Bs.st7 where
  p1 := fun known hit h1 _ => by
    cases known with
    | false =>
      cases hit with
      | false => exact ⟨r6a0, r6b0, r6c0⟩
      | true => cases h1 rfl
    | true =>
      cases hit with
      | false => exact ⟨r6a1, r6b1, r6c1⟩
      | true => exact ⟨r6a2, r6b2, r6c2⟩
  p2 := fun size nil h1 h2 => by
    have : size = 0 ∨ size = 1 ∨ size = 2 ∨ size = 3 ∨ size = 4 := by omega
    cases nil with
    | false =>
      rcases this with rfl | rfl | rfl | rfl | rfl
      · exact r6s0f
      · exact r6s1f
      · exact r6s2f
      · exact r6s3f
      · exact r6s4f
    | true =>
      have := h2 rfl
      have : size = 3 ∨ size = 4 := by omega
      rcases this with rfl | rfl
      · exact r6s3t
      · exact r6s4t
  fm := fm6
  fs := fs6
  hs := hd6
theorem runs7 : Runs 7 Bs.st7 Bs.mt7 Bs.st8 where
  p1 := fun known hit h1 _ => by
    cases known with
    | false =>
      cases hit with
      | false => exact ⟨r7a0, r7b0, r7c0⟩
      | true => cases h1 rfl
    | true =>
      cases hit with
      | false => exact ⟨r7a1, r7b1, r7c1⟩
      | true => exact ⟨r7a2, r7b2, r7c2⟩
  p2 := fun size nil h1 h2 => by
    have : size = 0 ∨ size = 1 ∨ size = 2 ∨ size = 3 ∨ size = 4 := by omega
    cases nil with
    | false =>
      rcases this with rfl | rfl | rfl | rfl | rfl
      · exact r7s0f
      · exact r7s1f
      · exact r7s2f
      · exact r7s3f
      · exact r7s4f
    | true =>
      have := h2 rfl
      have : size = 3 ∨ size = 4 := by omega
      rcases this with rfl | rfl
      · exact r7s3t
      · exact r7s4t
  fm := fm7
  fs := fs7
  hs := hd7
theorem runs8 : Runs 8 Bs.st8 Bs.mt8 Bs.st9 where
  p1 := fun known hit h1 _ => by
    cases known with
    | false =>
      cases hit with
      | false => exact ⟨r8a0, r8b0, r8c0⟩
      | true => cases h1 rfl
    | true =>
      cases hit with
      | false => exact ⟨r8a1, r8b1, r8c1⟩
      | true => exact ⟨r8a2, r8b2, r8c2⟩
  p2 := fun size nil h1 h2 => by
    have : size = 0 ∨ size = 1 ∨ size = 2 ∨ size = 3 ∨ size = 4 := by omega
    cases nil with
    | false =>
      rcases this with rfl | rfl | rfl | rfl | rfl
      · exact r8s0f
      · exact r8s1f
      · exact r8s2f
      · exact r8s3f
      · exact r8s4f
    | true =>
      have := h2 rfl
      have : size = 3 ∨ size = 4 := by omega
      rcases this with rfl | rfl
      · exact r8s3t
      · exact r8s4t
  fm := fm8
  fs := fs8
  hs := hd8
theorem runs9 : Runs 9 Bs.st9 Bs.mt9 Bs.st10 where
  p1 := fun known hit h1 _ => by
    cases known with
    | false =>
      cases hit with
      | false => exact ⟨r9a0, r9b0, r9c0⟩
      | true => cases h1 rfl
    | true =>
      cases hit with
      | false => exact ⟨r9a1, r9b1, r9c1⟩
      | true => exact ⟨r9a2, r9b2, r9c2⟩
  p2 := fun size nil h1 h2 => by
    have : size = 0 ∨ size = 1 ∨ size = 2 ∨ size = 3 ∨ size = 4 := by omega
    cases nil with
    | false =>
      rcases this with rfl | rfl | rfl | rfl | rfl
      · exact r9s0f
      · exact r9s1f
      · exact r9s2f
      · exact r9s3f
      · exact r9s4f
    | true =>
      have := h2 rfl
      have : size = 3 ∨ size = 4 := by omega
      rcases this with rfl | rfl
      · exact r9s3t
      · exact r9s4t
  fm := fm9
  fs := fs9
  hs := hd9
theorem runs10 : Runs 10 Bs.st10 Bs.mt10 Bs.st11 where
  p1 := fun known hit h1 _ => by
    cases known with
    | false =>
      cases hit with
      | false => exact ⟨r10a0, r10b0, r10c0⟩
      | true => cases h1 rfl
    | true =>
      cases hit with
      | false => exact ⟨r10a1, r10b1, r10c1⟩
      | true => exact ⟨r10a2, r10b2, r10c2⟩
  p2 := fun size nil h1 h2 => by
    have : size = 0 ∨ size = 1 ∨ size = 2 ∨ size = 3 ∨ size = 4 := by omega
    cases nil with
    | false =>
      rcases this with rfl | rfl | rfl | rfl | rfl
      · exact r10s0f
      · exact r10s1f
      · exact r10s2f
      · exact r10s3f
      · exact r10s4f
    | true =>
      have := h2 rfl
      have : size = 3 ∨ size = 4 := by omega
      rcases this with rfl | rfl
      · exact r10s3t
      · exact r10s4t
  fm := fm10
  fs := fs10
  hs := hd10
theorem runs11 : Runs 11 Bs.st11 Bs.mt11 Bs.st12 where
  p1 := fun known hit h1 _ => by
    cases known with
    | false =>
      cases hit with
      | false => exact ⟨r11a0, r11b0, r11c0⟩
      | true => cases h1 rfl
    | true =>
      cases hit with
      | false => exact ⟨r11a1, r11b1, r11c1⟩
      | true => exact ⟨r11a2, r11b2, r11c2⟩
  p2 := fun size nil h1 h2 => by
    have : size = 0 ∨ size = 1 ∨ size = 2 ∨ size = 3 ∨ size = 4 := by omega
    cases nil with
    | false =>
      rcases this with rfl | rfl | rfl | rfl | rfl
      · exact r11s0f
      · exact r11s1f
      · exact r11s2f
      · exact r11s3f
      · exact r11s4f
    | true =>
      have := h2 rfl
      have : size = 3 ∨ size = 4 := by omega
      rcases this with rfl | rfl
      · exact r11s3t
      · exact r11s4t
  fm := fm11
  fs := fs11
  hs := hd11
theorem runs12 : Runs 12 Bs.st12 Bs.mt12 Bs.st13 where
  p1 := fun known hit h1 _ => by
    cases known with
    | false =>
      cases hit with
      | false => exact ⟨r12a0, r12b0, r12c0⟩
      | true => cases h1 rfl
    | true =>
      cases hit with
      | false => exact ⟨r12a1, r12b1, r12c1⟩
      | true => exact ⟨r12a2, r12b2, r12c2⟩
  p2 := fun size nil h1 h2 => by
    have : size = 0 ∨ size = 1 ∨ size = 2 ∨ size = 3 ∨ size = 4 := by omega
    cases nil with
    | false =>
      rcases this with rfl | rfl | rfl | rfl | rfl
      · exact r12s0f
      · exact r12s1f
      · exact r12s2f
      · exact r12s3f
      · exact r12s4f
    | true =>
      have := h2 rfl
      have : size = 3 ∨ size = 4 := by omega
      rcases this with rfl | rfl
      · exact r12s3t
      · exact r12s4t
  fm := fm12
  fs := fs12
  hs := hd12
theorem runs13 : Runs 13 Bs.st13 Bs.mt13 Bs.st14 where
  p1 := fun known hit h1 _ => by
    cases known with
    | false =>
      cases hit with
      | false => exact ⟨r13a0, r13b0, r13c0⟩
      | true => cases h1 rfl
    | true =>
      cases hit with
      | false => exact ⟨r13a1, r13b1, r13c1⟩
      | true => exact ⟨r13a2, r13b2, r13c2⟩
  p2 := fun size nil h1 h2 => by
    have : size = 0 ∨ size = 1 ∨ size = 2 ∨ size = 3 ∨ size = 4 := by omega
    cases nil with
    | false =>
      rcases this with rfl | rfl | rfl | rfl | rfl
      · exact r13s0f
      · exact r13s1f
      · exact r13s2f
      · exact r13s3f
      · exact r13s4f
    | true =>
      have := h2 rfl
      have : size = 3 ∨ size = 4 := by omega
      rcases this with rfl | rfl
      · exact r13s3t
      · exact r13s4t
  fm := fm13
  fs := fs13
  hs := hd13
theorem runs14 : Runs 14 Bs.st14 Bs.mt14 Bs.st15 where
  p1 := fun known hit h1 _ => by
    cases known with
    | false =>
      cases hit with
      | false => exact ⟨r14a0, r14b0, r14c0⟩
      | true => cases h1 rfl
    | true =>
      cases hit with
      | false => exact ⟨r14a1, r14b1, r14c1⟩
      | true => exact ⟨r14a2, r14b2, r14c2⟩
  p2 := fun size nil h1 h2 => by
    have : size = 0 ∨ size = 1 ∨ size = 2 ∨ size = 3 ∨ size = 4 := by omega
    cases nil with
    | false =>
      rcases this with rfl | rfl | rfl | rfl | rfl
      · exact r14s0f
      · exact r14s1f
      · exact r14s2f
      · exact r14s3f
      · exact r14s4f
    | true =>
      have := h2 rfl
      have : size = 3 ∨ size = 4 := by omega
      rcases this with rfl | rfl
      · exact r14s3t
      · exact r14s4t
  fm := fm14
  fs := fs14
  hs := hd14
theorem outs0 (nil : Bool) : outB 0 (nilB nil Bs.st0) = true := by
  cases nil with
  | false => exact out0
  | true => exact outn0
theorem outs1 (nil : Bool) : outB 1 (nilB nil Bs.st1) = true := by
  cases nil with
  | false => exact out1
  | true => exact outn1
theorem outs2 (nil : Bool) : outB 2 (nilB nil Bs.st2) = true := by
  cases nil with
  | false => exact out2
  | true => exact outn2
theorem outs3 (nil : Bool) : outB 3 (nilB nil Bs.st3) = true := by
  cases nil with
  | false => exact out3
  | true => exact outn3
theorem outs4 (nil : Bool) : outB 4 (nilB nil Bs.st4) = true := by
  cases nil with
  | false => exact out4
  | true => exact outn4
theorem outs5 (nil : Bool) : outB 5 (nilB nil Bs.st5) = true := by
  cases nil with
  | false => exact out5
  | true => exact outn5
theorem outs6 (nil : Bool) : outB 6 (nilB nil Bs.st6) = true := by
  cases nil with
  | false => exact out6
  | true => exact outn6
theorem outs7 (nil : Bool) : outB 7 (nilB nil Bs.st7) = true := by
  cases nil with
  | false => exact out7
  | true => exact outn7
theorem outs8 (nil : Bool) : outB 8 (nilB nil Bs.st8) = true := by
  cases nil with
  | false => exact out8
  | true => exact outn8
theorem outs9 (nil : Bool) : outB 9 (nilB nil Bs.st9) = true := by
  cases nil with
  | false => exact out9
  | true => exact outn9
theorem outs10 (nil : Bool) : outB 10 (nilB nil Bs.st10) = true := by
  cases nil with
  | false => exact out10
  | true => exact outn10
theorem outs11 (nil : Bool) : outB 11 (nilB nil Bs.st11) = true := by
  cases nil with
  | false => exact out11
  | true => exact outn11
theorem outs12 (nil : Bool) : outB 12 (nilB nil Bs.st12) = true := by
  cases nil with
  | false => exact out12
  | true => exact outn12
theorem outs13 (nil : Bool) : outB 13 (nilB nil Bs.st13) = true := by
  cases nil with
  | false => exact out13
  | true => exact outn13
theorem outs14 (nil : Bool) : outB 14 (nilB nil Bs.st14) = true := by
  cases nil with
  | false => exact out14
  | true => exact outn14
theorem has10f : has10 (nilB false Bs.st15) = true := by kernel_rfl
theorem has10t : has10 (nilB true Bs.st15) = true := by kernel_rfl
theorem has1f : has1 (nilB false Bs.st15) = true := by kernel_rfl
theorem has1t : has1 (nilB true Bs.st15) = true := by kernel_rfl
theorem allRuns : AllRuns stN mtN where
  rounds := fun i hi => by
    match i, hi with
    | 0, _ => exact runs0
    | 1, _ => exact runs1
    | 2, _ => exact runs2
    | 3, _ => exact runs3
    | 4, _ => exact runs4
    | 5, _ => exact runs5
    | 6, _ => exact runs6
    | 7, _ => exact runs7
    | 8, _ => exact runs8
    | 9, _ => exact runs9
    | 10, _ => exact runs10
    | 11, _ => exact runs11
    | 12, _ => exact runs12
    | 13, _ => exact runs13
    | 14, _ => exact runs14
    | n + 15, h => omega
  outs := fun i nil hi => by
    match i, hi with
    | 0, _ => exact outs0 nil
    | 1, _ => exact outs1 nil
    | 2, _ => exact outs2 nil
    | 3, _ => exact outs3 nil
    | 4, _ => exact outs4 nil
    | 5, _ => exact outs5 nil
    | 6, _ => exact outs6 nil
    | 7, _ => exact outs7 nil
    | 8, _ => exact outs8 nil
    | 9, _ => exact outs9 nil
    | 10, _ => exact outs10 nil
    | 11, _ => exact outs11 nil
    | 12, _ => exact outs12 nil
    | 13, _ => exact outs13 nil
    | 14, _ => exact outs14 nil
    | n + 15, h => omega
  l10 := fun nil => by cases nil with
    | false => exact has10f
    | true => exact has10t
  l1 := fun nil => by cases nil with
    | false => exact has1f
    | true => exact has1t
  pre := fun nil => by cases nil with
    | false => exact pre_f
    | true => exact pre_t
  f0 := fs00
  h0 := hd00
end Go.AM
