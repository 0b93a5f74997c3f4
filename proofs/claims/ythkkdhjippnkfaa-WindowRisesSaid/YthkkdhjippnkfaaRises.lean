/- WindowRises, its cases joined. -/
import Derived.Test.YthkkdhjippnkfaaRisesLt
import Derived.Test.YthkkdhjippnkfaaRisesEq
import Derived.Test.YthkkdhjippnkfaaRisesGt
namespace Go.Proofs.Ythkkdhjippnkfaa
open Go.ChangeShapes Go.WideShapes Go.ChangeAt Go.RowKit Go.Sort
theorem rises_any (n a b : Int) (w : World) (hn0 : -9223372036854775808 ≤ n) (hn1 : n ≤ 9223372036854775807)
    (ha0 : -9223372036854775808 ≤ a) (ha1 : a ≤ 9223372036854775807) (hb0 : -9223372036854775808 ≤ b) (hb1 : b ≤ 9223372036854775807) :
    Calls Try.prog 8 #[.int .i64 n, .int .i64 a, .int .i64 b] w fun e w' => e = .returned (.bool true) ∧ Below w.heap.size w w' := by
  obtain ⟨l, hl⟩ : ∃ l, wit n 0 2147483647 = l := ⟨_, rfl⟩
  obtain ⟨i, hi⟩ : ∃ i, wit a 0 2147483647 = i := ⟨_, rfl⟩
  obtain ⟨j, hj⟩ : ∃ j, wit b 0 2147483647 = j := ⟨_, rfl⟩
  have hl0 : 0 ≤ l := hl ▸ wit_lo n 0 2147483647 (by omega)
  have hl1 : l ≤ 2147483647 := hl ▸ wit_hi n 0 2147483647 (by omega)
  have hi0 : 0 ≤ i := hi ▸ wit_lo a 0 2147483647 (by omega)
  have hi1 : i ≤ 2147483647 := hi ▸ wit_hi a 0 2147483647 (by omega)
  have hj0 : 0 ≤ j := hj ▸ wit_lo b 0 2147483647 (by omega)
  have hj1 : j ≤ 2147483647 := hj ▸ wit_hi b 0 2147483647 (by omega)
  have Hl := Lib.hid hl
  have Hi := Lib.hid hi
  have Hj := Lib.hid hj
  clear hl hi hj
  rcases Int.lt_trichotomy i j with hij | hij | hij
  · by_cases q1 : l + j ≤ 2147483647
    · by_cases s1 : j ≤ l
      · exact rises_ltTT n a b l i j w Hl Hi Hj hn0 hn1 ha0 ha1 hb0 hb1 hl0 hl1 hi0 hi1 hj0 hj1 (by omega) (by omega) (by omega) (by omega)
      · by_cases s2 : i ≤ l
        · exact rises_ltTM n a b l i j w Hl Hi Hj hn0 hn1 ha0 ha1 hb0 hb1 hl0 hl1 hi0 hi1 hj0 hj1 (by omega) (by omega) (by omega) (by omega) (by omega)
        · exact rises_ltTF n a b l i j w Hl Hi Hj hn0 hn1 ha0 ha1 hb0 hb1 hl0 hl1 hi0 hi1 hj0 hj1 (by omega) (by omega) (by omega) (by omega) (by omega)
    · by_cases q2 : l + i ≤ 2147483647
      · by_cases s1 : j ≤ l
        · exact rises_ltMT n a b l i j w Hl Hi Hj hn0 hn1 ha0 ha1 hb0 hb1 hl0 hl1 hi0 hi1 hj0 hj1 (by omega) (by omega) (by omega) (by omega) (by omega)
        · by_cases s2 : i ≤ l
          · exact rises_ltMM n a b l i j w Hl Hi Hj hn0 hn1 ha0 ha1 hb0 hb1 hl0 hl1 hi0 hi1 hj0 hj1 (by omega) (by omega) (by omega) (by omega) (by omega) (by omega)
          · exact rises_ltMF n a b l i j w Hl Hi Hj hn0 hn1 ha0 ha1 hb0 hb1 hl0 hl1 hi0 hi1 hj0 hj1 (by omega) (by omega) (by omega) (by omega) (by omega) (by omega)
      · by_cases s1 : j ≤ l
        · exact rises_ltFT n a b l i j w Hl Hi Hj hn0 hn1 ha0 ha1 hb0 hb1 hl0 hl1 hi0 hi1 hj0 hj1 (by omega) (by omega) (by omega) (by omega) (by omega)
        · by_cases s2 : i ≤ l
          · exact rises_ltFM n a b l i j w Hl Hi Hj hn0 hn1 ha0 ha1 hb0 hb1 hl0 hl1 hi0 hi1 hj0 hj1 (by omega) (by omega) (by omega) (by omega) (by omega) (by omega)
          · exact rises_ltFF n a b l i j w Hl Hi Hj hn0 hn1 ha0 ha1 hb0 hb1 hl0 hl1 hi0 hi1 hj0 hj1 (by omega) (by omega) (by omega) (by omega) (by omega) (by omega)
  · subst hij
    by_cases q1 : l + i ≤ 2147483647
    · by_cases s1 : i ≤ l
      · exact rises_eqTT n a b l i w Hl Hi Hj hn0 hn1 ha0 ha1 hb0 hb1 hl0 hl1 hi0 hi1 (by omega) (by omega)
      · exact rises_eqTF n a b l i w Hl Hi Hj hn0 hn1 ha0 ha1 hb0 hb1 hl0 hl1 hi0 hi1 (by omega) (by omega)
    · by_cases s1 : i ≤ l
      · exact rises_eqFT n a b l i w Hl Hi Hj hn0 hn1 ha0 ha1 hb0 hb1 hl0 hl1 hi0 hi1 (by omega) (by omega)
      · exact rises_eqFF n a b l i w Hl Hi Hj hn0 hn1 ha0 ha1 hb0 hb1 hl0 hl1 hi0 hi1 (by omega) (by omega)
  · by_cases q1 : l + i ≤ 2147483647
    · by_cases s1 : i ≤ l
      · exact rises_gtTT n a b l i j w Hl Hi Hj hn0 hn1 ha0 ha1 hb0 hb1 hl0 hl1 hi0 hi1 hj0 hj1 (by omega) (by omega) (by omega) (by omega)
      · by_cases s2 : j ≤ l
        · exact rises_gtTM n a b l i j w Hl Hi Hj hn0 hn1 ha0 ha1 hb0 hb1 hl0 hl1 hi0 hi1 hj0 hj1 (by omega) (by omega) (by omega) (by omega) (by omega)
        · exact rises_gtTF n a b l i j w Hl Hi Hj hn0 hn1 ha0 ha1 hb0 hb1 hl0 hl1 hi0 hi1 hj0 hj1 (by omega) (by omega) (by omega) (by omega) (by omega)
    · by_cases q2 : l + j ≤ 2147483647
      · by_cases s1 : i ≤ l
        · exact rises_gtMT n a b l i j w Hl Hi Hj hn0 hn1 ha0 ha1 hb0 hb1 hl0 hl1 hi0 hi1 hj0 hj1 (by omega) (by omega) (by omega) (by omega) (by omega)
        · by_cases s2 : j ≤ l
          · exact rises_gtMM n a b l i j w Hl Hi Hj hn0 hn1 ha0 ha1 hb0 hb1 hl0 hl1 hi0 hi1 hj0 hj1 (by omega) (by omega) (by omega) (by omega) (by omega) (by omega)
          · exact rises_gtMF n a b l i j w Hl Hi Hj hn0 hn1 ha0 ha1 hb0 hb1 hl0 hl1 hi0 hi1 hj0 hj1 (by omega) (by omega) (by omega) (by omega) (by omega) (by omega)
      · by_cases s1 : i ≤ l
        · exact rises_gtFT n a b l i j w Hl Hi Hj hn0 hn1 ha0 ha1 hb0 hb1 hl0 hl1 hi0 hi1 hj0 hj1 (by omega) (by omega) (by omega) (by omega) (by omega)
        · by_cases s2 : j ≤ l
          · exact rises_gtFM n a b l i j w Hl Hi Hj hn0 hn1 ha0 ha1 hb0 hb1 hl0 hl1 hi0 hi1 hj0 hj1 (by omega) (by omega) (by omega) (by omega) (by omega) (by omega)
          · exact rises_gtFF n a b l i j w Hl Hi Hj hn0 hn1 ha0 ha1 hb0 hb1 hl0 hl1 hi0 hi1 hj0 hj1 (by omega) (by omega) (by omega) (by omega) (by omega) (by omega)
end Go.Proofs.Ythkkdhjippnkfaa
