/- PintPuts and PintGets. -/
import Derived.Test.YtembmiopfkopeaaRuns
import Derived.Test.YtembmiopfkopeaaRPut
import Derived.Test.YtembmiopfkopeaaRGet
namespace Go.Proofs.Ytembmiopfkopeaa
open Go.ChangeShapes Go.WideShapes Go.ChangeAt Go.RowKit
set_option linter.unusedVariables false
set_option linter.unusedSimpArgs false

set_option maxHeartbeats 2000000 in
set_option maxRecDepth 100000 in
theorem puts_any (v : Value) (L : List Int) (n t x : Int) (w : World) (hR : BS w v L) (hn : L.length ≤ 140737488351232)
    (n1 : -9223372036854775808 ≤ n) (n2 : n ≤ 9223372036854775807) (t1 : 0 ≤ t) (t2 : t ≤ 255) (x1 : -9223372036854775808 ≤ x) (x2 : x ≤ 9223372036854775807) :
    Calls Try.prog 4 #[v, .int .i64 n, .int .u8 t, .int .i64 x] w fun e w' => e = .returned (.bool true) ∧ Below w.heap.size w w' := by
  have HR := Lib.hid hR
  obtain ⟨A, cap, rfl, hk, hm, -⟩ := hR
  have hl0 : 0 ≤ (L.length : Int) := by omega
  have hl1 : (L.length : Int) ≤ (L.length : Int) + 80 := by omega
  go_enter Try.func4, Try.ntmps4
  go_wp2_with (first
    | (go_at_call 13; refine (roomy_any _ _ L _ HR.out hn).mono ?_; rintro e w1 ⟨g, hg, rfl, hG, hA1⟩; have HG := Lib.hid hG; have hs1 := hA1.size; have hgl := hG.lt; clear hG)
    | (go_at_call 11; refine (put_any _ L _ _ _ _ (bs_room HG.out (by omega) (by unfold maxLen; omega)) hn n1 n2 t1 t2 x1 x2).mono ?_; rintro e w2 ⟨r2, rfl, ho2, hB2⟩; have hA2 := Below.trans hA1 (hB2.mono hs1); have HO2 := Lib.hid (bs_own ho2 rfl); clear ho2)
    | (go_at_call 14; refine (rput_any _ L _ _ _ _ (HR.out.below hA2 (Nat.le_refl _)) hn n1 n2 t1 t2 x1 x2).mono ?_; rintro e w3 ⟨r3, rfl, ho3, hB3⟩; have hA3 := Below.trans hA2 (hB3.mono hA2.size); have hC3 := Below.trans hB2 (hB3.mono hB2.size); have HO3 := Lib.hid (bs_own ho3 rfl); clear ho3)
    | (go_at_call 10; refine (same_eq _ _ _ _ _ (HO2.out.below hB3 (Nat.le_refl _)) HO3.out rfl).mono ?_; rintro e w4 ⟨rfl, hB4⟩; have hA4 := Below.trans hA3 (hB4.mono hA3.size); have hC4 := Below.trans hC3 (hB4.mono hC3.size))
    | (go_at_call 15; refine (intact_any _ _ g L _ (HR.out.below hA4 (Nat.le_refl _)) hn (HG.out.below hC4 hgl)).mono ?_; rintro e w5 ⟨rfl, hB5⟩; have hA5 := Below.trans hA4 (hB5.mono hA4.size))
    | (go_at_call 3; refine (runs_any _).mono ?_; rintro e w6 ⟨rfl, hB6⟩; have hA6 := Below.trans hA5 (hB6.mono hA5.size)))
  go_ret
  exact ⟨rfl, hA6⟩

set_option maxHeartbeats 2000000 in
set_option maxRecDepth 100000 in
theorem gets_any (v : Value) (L : List Int) (a n : Int) (w : World) (hR : BS w v L) (hL : Byt L) (hn : L.length ≤ 140737488351232)
    (a1 : -9223372036854775808 ≤ a) (a2 : a ≤ 9223372036854775807) (n1 : -9223372036854775808 ≤ n) (n2 : n ≤ 9223372036854775807) :
    Calls Try.prog 5 #[v, .int .i64 a, .int .i64 n] w fun e w' => e = .returned (.bool true) ∧ Below w.heap.size w w' := by
  have HR := Lib.hid hR
  have HL := Lib.hid hL
  obtain ⟨A, cap, rfl, hk, hm, -⟩ := hR
  clear hL
  have hl0 : 0 ≤ (L.length : Int) := by omega
  have hl1 : (L.length : Int) ≤ (L.length : Int) + 80 := by omega
  obtain ⟨g1, g2, g3, hg⟩ : ∃ g1 g2 g3, getL L a n = (g1, g2, g3) := ⟨_, _, _, rfl⟩
  go_enter Try.func5, Try.ntmps5
  go_wp2_with (first
    | (go_at_call 13; refine (roomy_any _ _ L _ HR.out hn).mono ?_; rintro e w1 ⟨g, hg0, rfl, hG, hA1⟩; have HG := Lib.hid hG; have hs1 := hA1.size; have hgl := hG.lt; clear hG)
    | (go_at_call 16; refine (get_any _ L _ _ _ (bs_room HG.out (by omega) (by unfold maxLen; omega)) HL.out a1 a2 n1 n2).mono ?_; rintro e w2 ⟨rfl, hB2⟩; rw [hg]; have hA2 := Below.trans hA1 (hB2.mono hs1))
    | (go_at_call 17; refine (rget_any _ L _ _ _ (HR.out.below hA2 (Nat.le_refl _)) HL.out a1 a2 n1 n2).mono ?_; rintro e w3 ⟨rfl, hB3⟩; rw [hg]; have hA3 := Below.trans hA2 (hB3.mono hA2.size); have hC3 := Below.trans hB2 (hB3.mono hB2.size))
    | (go_at_call 15; refine (intact_any _ _ g L _ (HR.out.below hA3 (Nat.le_refl _)) hn (HG.out.below hC3 hgl)).mono ?_; rintro e w5 ⟨rfl, hB5⟩; have hA5 := Below.trans hA3 (hB5.mono hA3.size))
    | (go_at_call 3; refine (runs_any _).mono ?_; rintro e w6 ⟨rfl, hB6⟩; have hA6 := Below.trans hA5 (hB6.mono hA5.size)))
  go_ret
  exact ⟨rfl, hA6⟩
end Go.Proofs.Ytembmiopfkopeaa
