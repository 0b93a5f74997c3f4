/- StreamParts. -/
import Derived.Test.YtgbjagmhibknoaaRuns
import Derived.Test.YtgbjagmhibknoaaApp
import Derived.Laws.OwnMore
namespace Go.Proofs.Ytgbjagmhibknoaa
open Go.ChangeShapes Go.WideShapes Go.ChangeAt Go.RowKit
set_option linter.unusedVariables false

/-- Two rows, one behind the other. -/
def both (Y Z : Nat → Int) (n : Nat) : Nat → Int := fun i => if i < n then Y i else Z (i - n)
theorem st_both1 (Y Z : Nat → Int) (s : Int) (n : Nat) : ∀ j, j ≤ n → st (both Y Z n) s j = st Y s j
  | 0, _ => rfl
  | j + 1, h => by
    show nS (st (both Y Z n) s j) (both Y Z n j) = nS (st Y s j) (Y j)
    rw [st_both1 Y Z s n j (by omega), both, if_pos (by omega)]
theorem st_both2 (Y Z : Nat → Int) (s : Int) (n : Nat) : ∀ j, st (both Y Z n) s (n + j) = st Z (st Y s n) j
  | 0 => st_both1 Y Z s n n (Nat.le_refl _)
  | j + 1 => by
    show nS (st (both Y Z n) s (n + j)) (both Y Z n (n + j)) = nS (st Z (st Y s n) j) (Z j)
    rw [st_both2 Y Z s n j, both, if_neg (by omega), Nat.add_sub_cancel_left]
theorem stops_both1 {Y Z : Nat → Int} {s : Int} {n k m : Nat} (h : Stops Y s n m) (hm : m < n) : Stops (both Y Z n) s (n + k) m :=
  ⟨by omega, fun j hj => by rw [st_both1 Y Z s n j (by omega), both, if_pos (by omega)]; exact h.2.1 j hj, fun _ => by rw [st_both1 Y Z s n m (by omega), both, if_pos hm]; exact h.2.2 hm⟩
theorem stops_both2 {Y Z : Nat → Int} {s : Int} {n k m : Nat} (h : Stops Y s n n) (h' : Stops Z (st Y s n) k m) : Stops (both Y Z n) s (n + k) (n + m) :=
  ⟨by have := h'.1; omega, fun j hj => by
    by_cases hjn : j < n
    · rw [st_both1 Y Z s n j (by omega), both, if_pos hjn]; exact h.2.1 j hjn
    · obtain ⟨q, rfl⟩ : ∃ q, j = n + q := ⟨j - n, by omega⟩
      rw [st_both2, both, if_neg hjn, Nat.add_sub_cancel_left]; exact h'.2.1 q (by omega), fun hlt => by
    rw [st_both2, both, if_neg (by omega), Nat.add_sub_cancel_left]; exact h'.2.2 (by omega)⟩

def intsOf (Z : Nat → Int) (n : Nat) : List Value := (List.range n).map fun i => .int .i64 (Z i)
theorem intsOf_get (Z : Nat → Int) (n j : Nat) (h : j < n) : (intsOf Z n)[j]? = some (.int .i64 (Z j)) := by simp [intsOf, h]
theorem ints_both (Y Z : Nat → Int) (n k : Nat) : intsOf Y n ++ intsOf Z k = intsOf (both Y Z n) (n + k) := by
  apply List.ext_getElem?
  intro j
  by_cases h1 : j < n
  · rw [List.getElem?_append_left (by simp [intsOf, h1]), intsOf_get _ _ _ h1, intsOf_get _ _ _ (by omega), both, if_pos h1]
  · rw [List.getElem?_append_right (by simp [intsOf]; omega)]
    have e : (intsOf Y n).length = n := by simp [intsOf]
    rw [e]
    by_cases h2 : j < n + k
    · rw [intsOf_get _ _ _ (by omega), intsOf_get _ _ _ h2, both, if_neg h1]
    · rw [List.getElem?_eq_none (by simp [intsOf]; omega), List.getElem?_eq_none (by simp [intsOf]; omega)]
/-- An own row of numbers can be read. -/
theorem row_own {w : World} {B n : Nat} {v : Value} {Z : Nat → Int} (h : w.ownsRow B 3 1 v n (intsOf Z n)) (hn : n ≤ 1000) (hz : ∀ i, i < n → -9223372036854775808 ≤ Z i ∧ Z i ≤ 9223372036854775807) : Row1 w v n Z := by
  have hlt := h.lt
  rcases h.2 with ⟨rfl, rfl⟩ | ⟨g, cap, cur, rfl, hB, hh, hkc, hm, hs, ht⟩
  · exact ⟨_, _, rfl, by omega, hz, fun h => absurd h (Nat.lt_irrefl _)⟩
  · refine ⟨_, _, rfl, by omega, hz, fun _ => ⟨g, 0, rfl, (hlt g rfl).2, fun i hi => ?_⟩⟩
    have := h.cellAt i (by omega)
    rw [Nat.zero_add, this, intsOf_get _ _ _ hi]

theorem below_alloc_self (w : World) (o : Obj) : Below w.heap.size w (w.alloc o) := (Below.refl _ _).alloc (Nat.le_refl _) o
theorem ints_one (Z : Nat → Int) (n : Nat) : ∀ u ∈ intsOf Z n, u.oneCell' = true := fun u hu => by
  simp [intsOf] at hu
  obtain ⟨q, _, rfl⟩ := hu
  rfl
theorem Row1.src {w : World} {A : Option Addr} {n cap : Nat} {Z : Nat → Int} (h : Row1 w (.slice A n cap) n Z) :
    (A = none → n = 0) ∧ ∀ ad, A = some ad → ∀ j u, (intsOf Z n)[j]? = some u → w.cell? (ad.add j) = some u := by
  obtain ⟨A', cap', he, _, _, hc⟩ := h
  cases he
  refine ⟨fun hA => ?_, fun ad hA j u hj => ?_⟩
  · rcases Nat.eq_zero_or_pos n with h | h
    · exact h
    · obtain ⟨b, off, h1, _⟩ := hc h
      rw [hA] at h1; cases h1
  · have hjn : j < n := by
      have := (List.getElem?_eq_some_iff.1 hj).1
      simpa [intsOf] using this
    obtain ⟨b, off, h1, h2, h3⟩ := hc (by omega)
    rw [hA] at h1
    cases h1
    rw [intsOf_get _ _ _ hjn] at hj
    rw [add_plain, h3 j hjn]
    exact hj

theorem info3 : (Try.prog.info? 3).map (fun i => (i.zero, i.size, i.bytes)) = some (some (.int .i64 0), 1, 8) := by kernel_rfl

set_option maxHeartbeats 4000000 in
set_option maxRecDepth 100000 in
theorem parts_any (s : Int) (v1 v2 : Value) (n1 n2 : Nat) (Z1 Z2 : Nat → Int) (w : World) (hR1 : Row1 w v1 n1 Z1) (hR2 : Row1 w v2 n2 Z2) :
    Calls Try.prog 8 #[.int .i64 s, v1, v2] w fun e w' => e = .returned (.bool true) ∧ Below w.heap.size w w' := by
  have HR1 := Lib.hid hR1
  have HR2 := Lib.hid hR2
  obtain ⟨A1, cap1, rfl, hn1, hZ1, hc1⟩ := hR1
  obtain ⟨A2, cap2, rfl, hn2, hZ2, hc2⟩ := hR2
  have HZ1 := Lib.hid hZ1
  have HZ2 := Lib.hid hZ2
  have HC1 := Lib.hid hc1
  have HC2 := Lib.hid hc2
  clear hZ1 hZ2 hc1 hc2
  by_cases g1 : 50 < n1
  · go_enter Try.func8, Try.ntmps8
    go_wp2_with (go_at_call 3; refine (runs_any _).mono ?_; rintro e w2 ⟨rfl, hB2⟩)
    go_ret
    exact ⟨rfl, hB2⟩
  by_cases g2 : 50 < n2
  · have g3 : decide ((50 : Int) < (n2 : Int)) = true := by simp; omega
    go_enter Try.func8, Try.ntmps8
    go_wp2_with (go_at_call 3; refine (runs_any _).mono ?_; rintro e w2 ⟨rfl, hB2⟩)
    go_ret
    exact ⟨rfl, hB2⟩
  have g4 : decide ((50 : Int) < (n2 : Int)) = false := by simp; omega
  obtain ⟨i0, hi, hz0, hz1, hz2⟩ := info_parts info3
  go_enter Try.func8, Try.ntmps8
  go_wp2_with fail
  refine (run_any _ _ n1 Z1 _ HR1.out).mono ?_
  rintro e w1 ⟨m1, hs1, rfl, rfl⟩
  have HS1 := Lib.hid hs1
  have hm1 : m1 ≤ n1 := hs1.1
  clear hs1
  go_wp2_with fail
  refine (run_any _ _ n2 Z2 _ HR2.out).mono ?_
  rintro e w1 ⟨m2, hs2, rfl, rfl⟩
  have HS2 := Lib.hid hs2
  have hm2 : m2 ≤ n2 := hs2.1
  clear hs2
  have HRa := (HR1.out.below (below_alloc_self w (.cells #[] 3)) (Nat.le_refl _))
  have HAS := Lib.hid (Row1.src HRa)
  clear HRa
  go_wp2_with (first
    | (at_builtin
       refine wpList_append_src rfl (.tmp 36) (.tmp 37) 24 rfl w.heap.size 3 i0 _ 1 8 Try.underlying24 hi hz0 hz1 hz2 rfl (by decide) (.slice (some ⟨w.heap.size, 0, none⟩) 0 0) 0 [] rfl (World.ownsRow_lit (base := w.heap.size) w #[] 0 (Nat.le_refl _) (by decide) rfl) A1 n1 cap1 (intsOf Z1 n1) rfl HAS.out.1 (by simp [intsOf]) HAS.out.2 (ints_one _ _) ?a4 ?a5 ?a6 ?_
       (case a4 => unfold maxLen; omega)
       (case a5 => omega)
       (case a6 => simp)
       intro va wa hown1 hg1
       simp only [Nat.zero_add, List.nil_append] at hown1
       have hBa : Below w.heap.size w wa := (below_alloc_self w _).grown hg1 (by simp) (by intro g hg; simp [Value.ownBlock] at hg; omega)
       have HRb := Lib.hid (Row1.src (HR2.out.below hBa (Nat.le_refl _)))
       have hBas := hBa.size
       clear hg1)
    | (at_builtin
       refine wpList_append_src rfl (.tmp 38) (.tmp 39) 24 rfl w.heap.size 3 i0 _ 1 8 Try.underlying24 hi hz0 hz1 hz2 rfl (by decide) va n1 _ rfl hown1 A2 n2 cap2 (intsOf Z2 n2) rfl HRb.out.1 (by simp [intsOf]) HRb.out.2 (ints_one _ _) ?a4 ?a5 hBas ?_
       (case a4 => unfold maxLen; omega)
       (case a5 => omega)
       intro vb wb hown2 hg2
       rw [ints_both] at hown2
       have hBb : Below w.heap.size w wb := hBa.grown hg2 hBas (fun g hg => (hown1.lt g hg).1)
       clear hg2 hown1))
  have hz3 : ∀ i, i < n1 + n2 → -9223372036854775808 ≤ both Z1 Z2 n1 i ∧ both Z1 Z2 n1 i ≤ 9223372036854775807 := fun i hi => by
    unfold both; split
    · rename_i h; exact HZ1.out i h
    · exact HZ2.out (i - n1) (by omega)
  refine (run_any _ _ (n1 + n2) (both Z1 Z2 n1) _ (row_own hown2 (by omega) hz3)).mono ?_
  rintro e w1 ⟨m3, hs3, rfl, rfl⟩
  have HS3 := Lib.hid hs3
  clear hs3 hz3 hown2 HAS HRb
  by_cases hlt : m1 < n1
  · obtain rfl := HS3.out.one (stops_both1 HS1.out hlt)
    rw [st_both1 Z1 Z2 s n1 _ (by omega)]
    go_wp2_with (go_at_call 3; refine (runs_any _).mono ?_; rintro e w2 ⟨rfl, hB2⟩)
    go_ret
    exact ⟨rfl, hBb.trans (hB2.mono hBb.size)⟩
  · obtain rfl : m1 = n1 := by omega
    obtain rfl := HS3.out.one (stops_both2 HS1.out HS2.out)
    rw [st_both2]
    go_wp2_with (go_at_call 3; refine (runs_any _).mono ?_; rintro e w2 ⟨rfl, hB2⟩)
    go_ret
    exact ⟨rfl, hBb.trans (hB2.mono hBb.size)⟩
end Go.Proofs.Ytgbjagmhibknoaa
