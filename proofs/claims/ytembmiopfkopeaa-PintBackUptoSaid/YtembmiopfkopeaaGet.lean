/- The contract of Get. -/
import Derived.Test.YtembmiopfkopeaaKit
import Derived.Deep.DeepCutAuto
namespace Go.Proofs.Ytembmiopfkopeaa
open Go.ChangeShapes Go.WideShapes Go.ChangeAt Go.RowKit
set_option linter.unusedVariables false
set_option linter.unusedSimpArgs false

theorem getG_step (L : List Int) (i a : Nat) (x : Int) (h : i < 5) : getG L (5 - i) x a = if a = L.length then (0, 0, 3) else
    if 2147483647 < x + L.getD a 0 % 128 * 2 ^ (7 * i) then (0, 0, 2) else
    if L.getD a 0 < 128 then (x + L.getD a 0 % 128 * 2 ^ (7 * i), (a : Int) + 1, 0) else getG L (5 - (i + 1)) (x + L.getD a 0 % 128 * 2 ^ (7 * i)) (a + 1) := by
  rcases (show i = 0 ∨ i = 1 ∨ i = 2 ∨ i = 3 ∨ i = 4 by omega) with rfl | rfl | rfl | rfl | rfl <;> rfl

set_option maxHeartbeats 1000000 in
set_option maxRecDepth 100000 in
theorem get_any (v : Value) (L : List Int) (a n : Int) (w : World) (hR : BS w v L) (hL : Byt L) (a1 : -9223372036854775808 ≤ a) (a2 : a ≤ 9223372036854775807) (n1 : -9223372036854775808 ≤ n) (n2 : n ≤ 9223372036854775807) :
    Calls Try.prog 16 #[v, .int .i64 a, .int .i64 n] w fun e w' => e = .returned (tup (getL L a n)) ∧ Below w.heap.size w w' := by
  obtain ⟨A, cap, rfl, hlc, hcm, hcell⟩ := hR
  unfold maxLen at hcm
  have HC := Lib.hid hcell
  have HL := Lib.hid hL
  clear hcell hL
  have hr : getL L a n = getL L a n := rfl
  generalize hres : getL L a n = res at hr ⊢
  clear hr
  unfold getL at hres
  by_cases hbad : n < 1 ∨ 8 < n ∨ a < 0 ∨ (L.length : Int) < a
  · rw [if_pos hbad] at hres
    subst hres
    go_enter Try.func16, Try.ntmps16
    rcases (show n < 1 ∨ (1 ≤ n ∧ 8 < n) ∨ (1 ≤ n ∧ n ≤ 8 ∧ a < 0) ∨ (1 ≤ n ∧ n ≤ 8 ∧ 0 ≤ a ∧ (L.length : Int) < a) by omega) with g1 | ⟨g1, g2⟩ | ⟨g1, g2, g3⟩ | ⟨g1, g2, g3, g4⟩ <;>
    · go_wp2_with fail
      go_returns
      exact ⟨rfl, Below.refl _ _⟩
  rw [if_neg hbad] at hres
  have h1 : 1 ≤ n := by omega
  have h2 : n ≤ 8 := by omega
  have h3 : 0 ≤ a := by omega
  have h4 : a ≤ (L.length : Int) := by omega
  by_cases hend : a = (L.length : Int)
  · rw [if_pos hend] at hres
    subst hres
    go_enter Try.func16, Try.ntmps16
    go_wp2_with fail
    go_returns
    exact ⟨rfl, Below.refl _ _⟩
  rw [if_neg hend] at hres
  obtain ⟨k, rfl⟩ := Int.eq_ofNat_of_zero_le h3
  simp only [Int.toNat_natCast] at hres
  have hk : k < L.length := by omega
  have hki : (k : Int) < (L.length : Int) := by omega
  obtain ⟨b, off, rfl, gb, q⟩ := HC.out (by omega)
  have e0 : w.cell? ⟨b, off + k, none⟩ = some (.int .u8 (L.getD k 0)) := by simpa using q k 0 hk (by omega)
  have hb0 := (HL.out.at k).1
  have hb1 := (HL.out.at k).2
  have hand := and_pw (L.getD k 0) n h1 h2 hb0 hb1
  have hm0 : 0 ≤ L.getD k 0 % pw n ∧ L.getD k 0 % pw n ≤ 255 := by rcases pw_cases h1 h2 with ⟨rfl, e⟩ | ⟨rfl, e⟩ | ⟨rfl, e⟩ | ⟨rfl, e⟩ | ⟨rfl, e⟩ | ⟨rfl, e⟩ | ⟨rfl, e⟩ | ⟨rfl, e⟩ <;> rw [e] <;> omega
  generalize L.getD k 0 = c at *
  generalize hc2 : c % pw n = c2 at *
  have hbad1 : ¬ n < 1 := by omega
  have hbad2 : ¬ 8 < n := by omega
  have hbad3 : ¬ (k : Int) < 0 := by omega
  have hbad4 : ¬ (L.length : Int) < (k : Int) := by omega
  by_cases hlt : c2 < pw n - 1
  · rw [if_pos hlt] at hres
    subst hres
    go_enter Try.func16, Try.ntmps16
    go_wp2_with (go_at_call 19; refine (full_any _ _ h1 h2).mono ?_; rintro e w1 ⟨rfl, rfl⟩)
    go_returns
    exact ⟨rfl, Below.refl _ _⟩
  · rw [if_neg hlt] at hres
    go_enter Try.func16, Try.ntmps16
    go_wp2_with (go_at_call 19; refine (full_any _ _ h1 h2).mono ?_; rintro e w1 ⟨rfl, rfl⟩)
    go_loopw [1, 10, 11] (fun s1 s10 s11 wr => ∃ (i a : Nat) (x : Int), s1 = .int .i64 a ∧ s10 = .int .i64 x ∧ s11 = .int .i64 i ∧ i ≤ 5 ∧ a ≤ L.length ∧ 0 ≤ x ∧ x ≤ 2147483647 ∧ getG L (5 - i) x a = res ∧ Below w.heap.size w wr) (fun _ _ s11 _ => 5 - (intOf s11).toNat)
    case atStart => exact ⟨0, k + 1, c2, rfl, rfl, rfl, by omega, by omega, by omega, by omega, hres, Below.refl _ _⟩
    case round =>
      obtain ⟨i, a, x, rfl, rfl, rfl, hi, ha, hx0, hx1, hg, hB⟩ := hrel
      by_cases hi5 : i = 5
      · subst hi5
        have hg' : (0, 0, 2) = res := hg
        subst hg'
        go_wp2_with fail
        go_returns
        exact ⟨rfl, hB⟩
      have hi4 : i < 5 := by omega
      rw [getG_step L i a x hi4] at hg
      by_cases hae : a = L.length
      · rw [if_pos hae] at hg
        subst hg
        subst hae
        rcases (show i = 0 ∨ i = 1 ∨ i = 2 ∨ i = 3 ∨ i = 4 by omega) with rfl | rfl | rfl | rfl | rfl <;>
        · go_wp2_with fail
          go_returns
          exact ⟨rfl, hB⟩
      rw [if_neg hae] at hg
      have hka : a < L.length := by omega
      have hka1 : (a : Int) < (L.length : Int) := by omega
      have hka2 : ¬ (L.length : Int) ≤ (a : Int) := by omega
      have hka3 : 0 ≤ (a : Int) := by omega
      have ea : wr.cell? ⟨b, off + a, none⟩ = some (.int .u8 (L.getD a 0)) := by rw [hB.cell (p := ⟨b, _, none⟩) gb]; simpa using q a 0 hka (by omega)
      have hd0 := (HL.out.at a).1
      have hd1 := (HL.out.at a).2
      generalize L.getD a 0 = d at *
      have hd2 := i64_and127 d
      have hd3 : 0 ≤ d % 128 ∧ d % 128 ≤ 127 := by omega
      generalize hdd : d % 128 = d7 at *
      obtain ⟨hd3, hd4⟩ := hd3
      have hov0 : 0 ≤ x + d7 * 2 ^ (7 * i) ∧ x + d7 * 2 ^ (7 * i) ≤ 1000000000000 := by
        rcases (show i = 0 ∨ i = 1 ∨ i = 2 ∨ i = 3 ∨ i = 4 by omega) with rfl | rfl | rfl | rfl | rfl <;> simp <;> omega
      by_cases hov : 2147483647 < x + d7 * 2 ^ (7 * i)
      · rw [if_pos hov] at hg
        subst hg
        rcases (show i = 0 ∨ i = 1 ∨ i = 2 ∨ i = 3 ∨ i = 4 by omega) with rfl | rfl | rfl | rfl | rfl <;> simp at hov hov0 <;>
        · go_wp2_with fail
          go_returns
          exact ⟨rfl, hB⟩
      rw [if_neg hov] at hg
      by_cases hd : d < 128
      · rw [if_pos hd] at hg
        subst hg
        rcases (show i = 0 ∨ i = 1 ∨ i = 2 ∨ i = 3 ∨ i = 4 by omega) with rfl | rfl | rfl | rfl | rfl <;> simp at hov hov0 <;>
        · go_wp2_with fail
          go_returns
          exact ⟨rfl, hB⟩
      · rw [if_neg hd] at hg
        rcases (show i = 0 ∨ i = 1 ∨ i = 2 ∨ i = 3 ∨ i = 4 by omega) with rfl | rfl | rfl | rfl | rfl <;> simp at hov hov0
        · go_wp2_with fail
          go_roundw
          case rel => exact ⟨1, a + 1, x + d7, by go_num, rfl, rfl, by omega, by omega, by omega, by omega, by simpa using hg, hB⟩
          case measure => simp [intOf]
        · go_wp2_with fail
          go_roundw
          case rel => exact ⟨2, a + 1, x + d7 * 128, by go_num, rfl, rfl, by omega, by omega, by omega, by omega, by simpa using hg, hB⟩
          case measure => simp [intOf]
        · go_wp2_with fail
          go_roundw
          case rel => exact ⟨3, a + 1, x + d7 * 16384, by go_num, rfl, rfl, by omega, by omega, by omega, by omega, by simpa using hg, hB⟩
          case measure => simp [intOf]
        · go_wp2_with fail
          go_roundw
          case rel => exact ⟨4, a + 1, x + d7 * 2097152, by go_num, rfl, rfl, by omega, by omega, by omega, by omega, by simpa using hg, hB⟩
          case measure => simp [intOf]
        · go_wp2_with fail
          go_roundw
          case rel => exact ⟨5, a + 1, x + d7 * 268435456, by go_num, rfl, rfl, by omega, by omega, by omega, by omega, by simpa using hg, hB⟩
          case measure => simp [intOf]
end Go.Proofs.Ytembmiopfkopeaa
