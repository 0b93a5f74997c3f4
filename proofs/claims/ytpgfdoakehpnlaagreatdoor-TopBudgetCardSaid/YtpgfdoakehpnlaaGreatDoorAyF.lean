import Derived.Test.YtpgfdoakehpnlaaGreatDoorAyD
set_option linter.unusedVariables false
set_option linter.unusedSimpArgs false
namespace Go.AM
open Go Go.Proofs
set_option maxRecDepth 100000
/-! # TopBudget: runs ahead of the rounds, and the ways out -/
theorem pre_f : preB false Bs.st0 = true := by kernel_rfl
theorem pre_t : preB true Bs.st0 = true := by kernel_rfl
theorem out0 : outB 0 Bs.st0 = true := by kernel_rfl
theorem outn0 : outB 0 (nilS Bs.st0) = true := by kernel_rfl
theorem out1 : outB 1 Bs.st1 = true := by kernel_rfl
theorem outn1 : outB 1 (nilS Bs.st1) = true := by kernel_rfl
theorem out2 : outB 2 Bs.st2 = true := by kernel_rfl
theorem outn2 : outB 2 (nilS Bs.st2) = true := by kernel_rfl
theorem out3 : outB 3 Bs.st3 = true := by kernel_rfl
theorem outn3 : outB 3 (nilS Bs.st3) = true := by kernel_rfl
theorem out4 : outB 4 Bs.st4 = true := by kernel_rfl
theorem outn4 : outB 4 (nilS Bs.st4) = true := by kernel_rfl
theorem out5 : outB 5 Bs.st5 = true := by kernel_rfl
theorem outn5 : outB 5 (nilS Bs.st5) = true := by kernel_rfl
theorem out6 : outB 6 Bs.st6 = true := by kernel_rfl
theorem outn6 : outB 6 (nilS Bs.st6) = true := by kernel_rfl
theorem out7 : outB 7 Bs.st7 = true := by kernel_rfl
theorem outn7 : outB 7 (nilS Bs.st7) = true := by kernel_rfl
theorem out8 : outB 8 Bs.st8 = true := by kernel_rfl
theorem outn8 : outB 8 (nilS Bs.st8) = true := by kernel_rfl
theorem out9 : outB 9 Bs.st9 = true := by kernel_rfl
theorem outn9 : outB 9 (nilS Bs.st9) = true := by kernel_rfl
theorem out10 : outB 10 Bs.st10 = true := by kernel_rfl
theorem outn10 : outB 10 (nilS Bs.st10) = true := by kernel_rfl
theorem out11 : outB 11 Bs.st11 = true := by kernel_rfl
theorem outn11 : outB 11 (nilS Bs.st11) = true := by kernel_rfl
theorem out12 : outB 12 Bs.st12 = true := by kernel_rfl
theorem outn12 : outB 12 (nilS Bs.st12) = true := by kernel_rfl
theorem out13 : outB 13 Bs.st13 = true := by kernel_rfl
theorem outn13 : outB 13 (nilS Bs.st13) = true := by kernel_rfl
theorem out14 : outB 14 Bs.st14 = true := by kernel_rfl
theorem outn14 : outB 14 (nilS Bs.st14) = true := by kernel_rfl
theorem out15 : outB 15 Bs.st15 = true := by kernel_rfl
theorem outn15 : outB 15 (nilS Bs.st15) = true := by kernel_rfl
end Go.AM
