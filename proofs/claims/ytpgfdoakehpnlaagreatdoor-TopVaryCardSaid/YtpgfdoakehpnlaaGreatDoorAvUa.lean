import Derived.Test.YtpgfdoakehpnlaaGreatDoorAvU
set_option linter.unusedVariables false
set_option linter.unusedSimpArgs false
namespace Go.AM.Pi
open Go Go.Proofs Go.ChangeShapes Go.WideShapes Go.ChangeAt Go.RowKit
set_option linter.unusedVariables false
set_option linter.unusedSimpArgs false
/-! # pint.Get leaves the world as it is -/
set_option linter.unusedVariables false
set_option linter.unusedSimpArgs false

theorem getG_step (L : List Int) (i a : Nat) (x : Int) (h : i < 5) : getG L (5 - i) x a = if a = L.length then (0, 0, 3) else
    if 2147483647 < x + L.getD a 0 % 128 * 2 ^ (7 * i) then (0, 0, 2) else
    if L.getD a 0 < 128 then (x + L.getD a 0 % 128 * 2 ^ (7 * i), (a : Int) + 1, 0) else getG L (5 - (i + 1)) (x + L.getD a 0 % 128 * 2 ^ (7 * i)) (a + 1) := by
  rcases (show i = 0 ∨ i = 1 ∨ i = 2 ∨ i = 3 ∨ i = 4 by omega) with rfl | rfl | rfl | rfl | rfl <;> rfl

set_option maxHeartbeats 1000000 in
set_option maxRecDepth 100000 in
theorem get_still (v : Value) (L : List Int) (a n : Int) (w : World) (hR : BS w v L) (hLn : L.length ≤ 4611686018427387904) (hL : Byt L) (a1 : -9223372036854775808 ≤ a) (a2 : a ≤ 9223372036854775807) (n1 : -9223372036854775808 ≤ n) (n2 : n ≤ 9223372036854775807) :
    Calls Tryz.prog 360 #[v, .int .i64 a, .int .i64 n] w fun e w' => e = .returned (tup (getL L a n)) ∧ w' = w := by
  obtain ⟨A, cap, rfl, hlc, hcm, hcell⟩ := hR
  have HC := Lib.hid hcell
  have HL := Lib.hid hL
  clear hcell hL
  have hr : getL L a n = getL L a n := rfl
  generalize hres : getL L a n = res at hr ⊢
  clear hr
  unfold getL at hres
  by_cases hbad : n < 1 ∨ 8 < n ∨ a < 0 ∨ (L.length : Int) < a
  · rw [if_pos hbad] at hres
    subst hres
    go_enter Tryz.func360, Tryz.ntmps360
    rcases (show n < 1 ∨ (1 ≤ n ∧ 8 < n) ∨ (1 ≤ n ∧ n ≤ 8 ∧ a < 0) ∨ (1 ≤ n ∧ n ≤ 8 ∧ 0 ≤ a ∧ (L.length : Int) < a) by omega) with g1 | ⟨g1, g2⟩ | ⟨g1, g2, g3⟩ | ⟨g1, g2, g3, g4⟩ <;>
    · go_wp2_with fail
      go_returns
      exact ⟨rfl, rfl⟩
  rw [if_neg hbad] at hres
  have h1 : 1 ≤ n := by omega
  have h2 : n ≤ 8 := by omega
  have h3 : 0 ≤ a := by omega
  have h4 : a ≤ (L.length : Int) := by omega
  by_cases hend : a = (L.length : Int)
  · rw [if_pos hend] at hres
    subst hres
    go_enter Tryz.func360, Tryz.ntmps360
    go_wp2_with fail
    go_returns
    exact ⟨rfl, rfl⟩
  rw [if_neg hend] at hres
  obtain ⟨k, rfl⟩ := Int.eq_ofNat_of_zero_le h3
  simp only [Int.toNat_natCast] at hres
  have hk : k < L.length := by omega
  have hki : (k : Int) < (L.length : Int) := by omega
  obtain ⟨b, off, rfl, gb, q⟩ := HC.out (by omega)
  have e0 : w.cell? ⟨b, off + k, none⟩ = some (.int .u8 (L.getD k 0)) := by simpa using q k 0 hk (by omega)
  have hb0 := (HL.out.at k).1
  have hb1 := (HL.out.at k).2
  have hand := and_pw (L.getD k 0) n h1 h2 hb0 hb1
  have hm0 : 0 ≤ L.getD k 0 % pw n ∧ L.getD k 0 % pw n ≤ 255 := by rcases pw_cases h1 h2 with ⟨rfl, e⟩ | ⟨rfl, e⟩ | ⟨rfl, e⟩ | ⟨rfl, e⟩ | ⟨rfl, e⟩ | ⟨rfl, e⟩ | ⟨rfl, e⟩ | ⟨rfl, e⟩ <;> rw [e] <;> omega
  generalize L.getD k 0 = c at *
  generalize hc2 : c % pw n = c2 at *
  have hbad1 : ¬ n < 1 := by omega
  have hbad2 : ¬ 8 < n := by omega
  have hbad3 : ¬ (k : Int) < 0 := by omega
  have hbad4 : ¬ (L.length : Int) < (k : Int) := by omega
  by_cases hlt : c2 < pw n - 1
  · rw [if_pos hlt] at hres
    subst hres
    go_enter Tryz.func360, Tryz.ntmps360
    go_wp2_with (go_at_call 208; refine (full_any _ _ h1 h2).mono ?_; rintro e w1 ⟨rfl, rfl⟩)
    go_returns
    exact ⟨rfl, rfl⟩
  · rw [if_neg hlt] at hres
    go_enter Tryz.func360, Tryz.ntmps360
    go_wp2_with (go_at_call 208; refine (full_any _ _ h1 h2).mono ?_; rintro e w1 ⟨rfl, rfl⟩)
    go_loopw [1, 10, 11] (fun s1 s10 s11 wr => ∃ (i a : Nat) (x : Int), s1 = .int .i64 a ∧ s10 = .int .i64 x ∧ s11 = .int .i64 i ∧ i ≤ 5 ∧ a ≤ L.length ∧ 0 ≤ x ∧ x ≤ 2147483647 ∧ getG L (5 - i) x a = res ∧ wr = w) (fun _ _ s11 _ => 5 - (intOf s11).toNat)
    case atStart => exact ⟨0, k + 1, c2, rfl, rfl, rfl, by omega, by omega, by omega, by omega, hres, rfl⟩
    case round =>
      obtain ⟨i, a, x, rfl, rfl, rfl, hi, ha, hx0, hx1, hg, rfl⟩ := hrel
      by_cases hi5 : i = 5
      · subst hi5
        have hg' : (0, 0, 2) = res := hg
        subst hg'
        go_wp2_with fail
        go_returns
        exact ⟨rfl, rfl⟩
      have hi4 : i < 5 := by omega
      rw [getG_step L i a x hi4] at hg
      by_cases hae : a = L.length
      · rw [if_pos hae] at hg
        subst hg
        subst hae
        rcases (show i = 0 ∨ i = 1 ∨ i = 2 ∨ i = 3 ∨ i = 4 by omega) with rfl | rfl | rfl | rfl | rfl <;>
        · go_wp2_with fail
          go_returns
          exact ⟨rfl, rfl⟩
      rw [if_neg hae] at hg
      have hka : a < L.length := by omega
      have hka1 : (a : Int) < (L.length : Int) := by omega
      have hka2 : ¬ (L.length : Int) ≤ (a : Int) := by omega
      have hka3 : 0 ≤ (a : Int) := by omega
      have ea : wr.cell? ⟨b, off + a, none⟩ = some (.int .u8 (L.getD a 0)) := by simpa using q a 0 hka (by omega)
      have hd0 := (HL.out.at a).1
      have hd1 := (HL.out.at a).2
      generalize L.getD a 0 = d at *
      have hd2 := i64_and127 d
      have hd3 : 0 ≤ d % 128 ∧ d % 128 ≤ 127 := by omega
      generalize hdd : d % 128 = d7 at *
      obtain ⟨hd3, hd4⟩ := hd3
      have hov0 : 0 ≤ x + d7 * 2 ^ (7 * i) ∧ x + d7 * 2 ^ (7 * i) ≤ 1000000000000 := by
        rcases (show i = 0 ∨ i = 1 ∨ i = 2 ∨ i = 3 ∨ i = 4 by omega) with rfl | rfl | rfl | rfl | rfl <;> simp <;> omega
      by_cases hov : 2147483647 < x + d7 * 2 ^ (7 * i)
      · rw [if_pos hov] at hg
        subst hg
        rcases (show i = 0 ∨ i = 1 ∨ i = 2 ∨ i = 3 ∨ i = 4 by omega) with rfl | rfl | rfl | rfl | rfl <;> simp at hov hov0 <;>
        · go_wp2_with fail
          go_returns
          exact ⟨rfl, rfl⟩
      rw [if_neg hov] at hg
      by_cases hd : d < 128
      · rw [if_pos hd] at hg
        subst hg
        rcases (show i = 0 ∨ i = 1 ∨ i = 2 ∨ i = 3 ∨ i = 4 by omega) with rfl | rfl | rfl | rfl | rfl <;> simp at hov hov0 <;>
        · go_wp2_with fail
          go_returns
          exact ⟨rfl, rfl⟩
      · rw [if_neg hd] at hg
        rcases (show i = 0 ∨ i = 1 ∨ i = 2 ∨ i = 3 ∨ i = 4 by omega) with rfl | rfl | rfl | rfl | rfl <;> simp at hov hov0
        · go_wp2_with fail
          go_roundw
          case rel => exact ⟨1, a + 1, x + d7, by go_num, rfl, rfl, by omega, by omega, by omega, by omega, by simpa using hg, by first | rfl | trivial⟩
          case measure => simp [intOf]
        · go_wp2_with fail
          go_roundw
          case rel => exact ⟨2, a + 1, x + d7 * 128, by go_num, rfl, rfl, by omega, by omega, by omega, by omega, by simpa using hg, by first | rfl | trivial⟩
          case measure => simp [intOf]
        · go_wp2_with fail
          go_roundw
          case rel => exact ⟨3, a + 1, x + d7 * 16384, by go_num, rfl, rfl, by omega, by omega, by omega, by omega, by simpa using hg, by first | rfl | trivial⟩
          case measure => simp [intOf]
        · go_wp2_with fail
          go_roundw
          case rel => exact ⟨4, a + 1, x + d7 * 2097152, by go_num, rfl, rfl, by omega, by omega, by omega, by omega, by simpa using hg, by first | rfl | trivial⟩
          case measure => simp [intOf]
        · go_wp2_with fail
          go_roundw
          case rel => exact ⟨5, a + 1, x + d7 * 268435456, by go_num, rfl, rfl, by omega, by omega, by omega, by omega, by simpa using hg, by first | rfl | trivial⟩
          case measure => simp [intOf]
end Go.AM.Pi
namespace Go.AM.Pi
open Go Go.Proofs Go.ChangeShapes Go.WideShapes Go.ChangeAt Go.RowKit
set_option linter.unusedVariables false
set_option linter.unusedSimpArgs false
/-! # pint: what Put wrote Get reads -/
set_option linter.unusedVariables false
set_option linter.unusedSimpArgs false

/-- The pieces of a number, and j empty ones behind. -/
def tailJ : Nat → Int → Nat → List Int
  | 0, x, _ => [x]
  | f + 1, x, j => if x < 128 ∧ j = 0 then [x] else (x % 128 + 128) :: tailJ f (x / 128) (if x < 128 then j - 1 else j)
theorem tailJ_end (f : Nat) (x : Int) (h : x < 128) : tailJ (f + 1) x 0 = [x] := by rw [tailJ, if_pos ⟨h, rfl⟩]
theorem tailJ_more (f : Nat) (x : Int) (j : Nat) (h : ¬ (x < 128 ∧ j = 0)) : tailJ (f + 1) x j = (x % 128 + 128) :: tailJ f (x / 128) (if x < 128 then j - 1 else j) := by rw [tailJ, if_neg h]
theorem tailJ_pos (f : Nat) (x : Int) (j : Nat) : 0 < (tailJ f x j).length := by
  cases f with
  | zero => exact Nat.zero_lt_one
  | succ f => rw [tailJ]; split <;> simp
theorem tail_J : ∀ (f g : Nat) (x : Int), 0 ≤ x → x < 128 ^ (f + 1) → x < 128 ^ (g + 1) → tailL f x = tailJ g x 0
  | 0, 0, x, _, _, _ => rfl
  | 0, g + 1, x, _, h, _ => by rw [tailJ_end g x (by simpa using h)]; rfl
  | f + 1, 0, x, _, _, h => by rw [tail_small (f + 1) x (by simpa using h)]; rfl
  | f + 1, g + 1, x, h0, h1, h2 => by
    by_cases hx : x < 128
    · rw [tail_small _ _ hx, tailJ_end _ _ hx]
    · rw [tail_big _ _ hx, tailJ_more _ _ _ (by omega), if_neg hx, tail_J f g (x / 128) (by omega) (Int.ediv_lt_of_lt_mul (by decide) (by rw [Int.pow_succ] at h1; exact h1)) (Int.ediv_lt_of_lt_mul (by decide) (by rw [Int.pow_succ] at h2; exact h2))]
/-- In L, from a on, there stands M. -/
def Sits (L : List Int) (a : Nat) (M : List Int) : Prop := a + M.length ≤ L.length ∧ ∀ j, j < M.length → L.getD (a + j) 0 = M.getD j 0
theorem Sits.cons {L M : List Int} {a : Nat} {c : Int} (h : Sits L a (c :: M)) : L.getD a 0 = c ∧ a < L.length ∧ Sits L (a + 1) M := by
  obtain ⟨h1, h2⟩ := h
  rw [List.length_cons] at h1
  refine ⟨?_, by omega, by omega, fun j hj => ?_⟩
  · simpa using h2 0 (by simp)
  · have := h2 (j + 1) (by simp; omega)
    rw [show a + 1 + j = a + (j + 1) by omega, this]
    simp
theorem sits_mid (A M B : List Int) : Sits (A ++ M ++ B) A.length M := by
  refine ⟨by simp, fun j hj => ?_⟩
  rw [List.getD_eq_getElem?_getD, List.getD_eq_getElem?_getD, List.append_assoc, List.getElem?_append_right (by omega), show A.length + j - A.length = j by omega, List.getElem?_append_left hj]
theorem sits_end (A M : List Int) : Sits (A ++ M) A.length M := by simpa using sits_mid A M []

theorem gok5 (L : List Int) (f : Nat) (x : Int) (j : Nat) (acc : Int) (a : Nat) (hf : 0 ≤ f) (hS : Sits L a (tailJ f x j)) (hn : (tailJ f x j).length ≤ 0) (h0 : 0 ≤ x) (h1 : 0 ≤ acc) (h2 : acc + x * 34359738368 ≤ 2147483647) :
    getG L 0 acc a = (acc + x * 34359738368, ((a + (tailJ f x j).length : Nat) : Int), 0) := by
  have := tailJ_pos f x j
  omega

theorem gok4 (L : List Int) (f : Nat) (x : Int) (j : Nat) (acc : Int) (a : Nat) (hf : 1 ≤ f) (hS : Sits L a (tailJ f x j)) (hn : (tailJ f x j).length ≤ 1) (h0 : 0 ≤ x) (h1 : 0 ≤ acc) (h2 : acc + x * 268435456 ≤ 2147483647) :
    getG L 1 acc a = (acc + x * 268435456, ((a + (tailJ f x j).length : Nat) : Int), 0) := by
  cases f with
  | zero => omega
  | succ f =>
    have hg := getG_step L 4 a acc (by decide)
    simp only [show 5 - 4 = 1 from rfl, show (2 : Int) ^ (7 * 4) = 268435456 from rfl, show 5 - (4 + 1) = 0 from rfl] at hg
    rw [hg]
    by_cases hc : x < 128 ∧ j = 0
    · obtain ⟨hx, rfl⟩ := hc
      rw [tailJ_end f x hx] at hS ⊢
      obtain ⟨e1, e2, -⟩ := hS.cons
      rw [if_neg (by omega), e1, if_neg (by omega), if_pos hx]
      simp only [Prod.mk.injEq, List.length_singleton]
      refine ⟨by omega, by omega, trivial⟩
    · rw [tailJ_more f x j hc] at hS hn ⊢
      obtain ⟨e1, e2, e3⟩ := hS.cons
      rw [List.length_cons] at hn
      rw [if_neg (by omega), e1, if_neg (by omega), if_neg (by omega), gok5 L f (x / 128) _ _ (a + 1) (by omega) e3 (by omega) (by omega) (by omega) (by omega)]
      simp only [Prod.mk.injEq, List.length_cons]
      refine ⟨by omega, by omega, trivial⟩

theorem gok3 (L : List Int) (f : Nat) (x : Int) (j : Nat) (acc : Int) (a : Nat) (hf : 2 ≤ f) (hS : Sits L a (tailJ f x j)) (hn : (tailJ f x j).length ≤ 2) (h0 : 0 ≤ x) (h1 : 0 ≤ acc) (h2 : acc + x * 2097152 ≤ 2147483647) :
    getG L 2 acc a = (acc + x * 2097152, ((a + (tailJ f x j).length : Nat) : Int), 0) := by
  cases f with
  | zero => omega
  | succ f =>
    have hg := getG_step L 3 a acc (by decide)
    simp only [show 5 - 3 = 2 from rfl, show (2 : Int) ^ (7 * 3) = 2097152 from rfl, show 5 - (3 + 1) = 1 from rfl] at hg
    rw [hg]
    by_cases hc : x < 128 ∧ j = 0
    · obtain ⟨hx, rfl⟩ := hc
      rw [tailJ_end f x hx] at hS ⊢
      obtain ⟨e1, e2, -⟩ := hS.cons
      rw [if_neg (by omega), e1, if_neg (by omega), if_pos hx]
      simp only [Prod.mk.injEq, List.length_singleton]
      refine ⟨by omega, by omega, trivial⟩
    · rw [tailJ_more f x j hc] at hS hn ⊢
      obtain ⟨e1, e2, e3⟩ := hS.cons
      rw [List.length_cons] at hn
      rw [if_neg (by omega), e1, if_neg (by omega), if_neg (by omega), gok4 L f (x / 128) _ _ (a + 1) (by omega) e3 (by omega) (by omega) (by omega) (by omega)]
      simp only [Prod.mk.injEq, List.length_cons]
      refine ⟨by omega, by omega, trivial⟩

theorem gok2 (L : List Int) (f : Nat) (x : Int) (j : Nat) (acc : Int) (a : Nat) (hf : 3 ≤ f) (hS : Sits L a (tailJ f x j)) (hn : (tailJ f x j).length ≤ 3) (h0 : 0 ≤ x) (h1 : 0 ≤ acc) (h2 : acc + x * 16384 ≤ 2147483647) :
    getG L 3 acc a = (acc + x * 16384, ((a + (tailJ f x j).length : Nat) : Int), 0) := by
  cases f with
  | zero => omega
  | succ f =>
    have hg := getG_step L 2 a acc (by decide)
    simp only [show 5 - 2 = 3 from rfl, show (2 : Int) ^ (7 * 2) = 16384 from rfl, show 5 - (2 + 1) = 2 from rfl] at hg
    rw [hg]
    by_cases hc : x < 128 ∧ j = 0
    · obtain ⟨hx, rfl⟩ := hc
      rw [tailJ_end f x hx] at hS ⊢
      obtain ⟨e1, e2, -⟩ := hS.cons
      rw [if_neg (by omega), e1, if_neg (by omega), if_pos hx]
      simp only [Prod.mk.injEq, List.length_singleton]
      refine ⟨by omega, by omega, trivial⟩
    · rw [tailJ_more f x j hc] at hS hn ⊢
      obtain ⟨e1, e2, e3⟩ := hS.cons
      rw [List.length_cons] at hn
      rw [if_neg (by omega), e1, if_neg (by omega), if_neg (by omega), gok3 L f (x / 128) _ _ (a + 1) (by omega) e3 (by omega) (by omega) (by omega) (by omega)]
      simp only [Prod.mk.injEq, List.length_cons]
      refine ⟨by omega, by omega, trivial⟩

theorem gok1 (L : List Int) (f : Nat) (x : Int) (j : Nat) (acc : Int) (a : Nat) (hf : 4 ≤ f) (hS : Sits L a (tailJ f x j)) (hn : (tailJ f x j).length ≤ 4) (h0 : 0 ≤ x) (h1 : 0 ≤ acc) (h2 : acc + x * 128 ≤ 2147483647) :
    getG L 4 acc a = (acc + x * 128, ((a + (tailJ f x j).length : Nat) : Int), 0) := by
  cases f with
  | zero => omega
  | succ f =>
    have hg := getG_step L 1 a acc (by decide)
    simp only [show 5 - 1 = 4 from rfl, show (2 : Int) ^ (7 * 1) = 128 from rfl, show 5 - (1 + 1) = 3 from rfl] at hg
    rw [hg]
    by_cases hc : x < 128 ∧ j = 0
    · obtain ⟨hx, rfl⟩ := hc
      rw [tailJ_end f x hx] at hS ⊢
      obtain ⟨e1, e2, -⟩ := hS.cons
      rw [if_neg (by omega), e1, if_neg (by omega), if_pos hx]
      simp only [Prod.mk.injEq, List.length_singleton]
      refine ⟨by omega, by omega, trivial⟩
    · rw [tailJ_more f x j hc] at hS hn ⊢
      obtain ⟨e1, e2, e3⟩ := hS.cons
      rw [List.length_cons] at hn
      rw [if_neg (by omega), e1, if_neg (by omega), if_neg (by omega), gok2 L f (x / 128) _ _ (a + 1) (by omega) e3 (by omega) (by omega) (by omega) (by omega)]
      simp only [Prod.mk.injEq, List.length_cons]
      refine ⟨by omega, by omega, trivial⟩

theorem gok0 (L : List Int) (f : Nat) (x : Int) (j : Nat) (acc : Int) (a : Nat) (hf : 5 ≤ f) (hS : Sits L a (tailJ f x j)) (hn : (tailJ f x j).length ≤ 5) (h0 : 0 ≤ x) (h1 : 0 ≤ acc) (h2 : acc + x * 1 ≤ 2147483647) :
    getG L 5 acc a = (acc + x * 1, ((a + (tailJ f x j).length : Nat) : Int), 0) := by
  cases f with
  | zero => omega
  | succ f =>
    have hg := getG_step L 0 a acc (by decide)
    simp only [show 5 - 0 = 5 from rfl, show (2 : Int) ^ (7 * 0) = 1 from rfl, show 5 - (0 + 1) = 4 from rfl] at hg
    rw [hg]
    by_cases hc : x < 128 ∧ j = 0
    · obtain ⟨hx, rfl⟩ := hc
      rw [tailJ_end f x hx] at hS ⊢
      obtain ⟨e1, e2, -⟩ := hS.cons
      rw [if_neg (by omega), e1, if_neg (by omega), if_pos hx]
      simp only [Prod.mk.injEq, List.length_singleton]
      refine ⟨by omega, by omega, trivial⟩
    · rw [tailJ_more f x j hc] at hS hn ⊢
      obtain ⟨e1, e2, e3⟩ := hS.cons
      rw [List.length_cons] at hn
      rw [if_neg (by omega), e1, if_neg (by omega), if_neg (by omega), gok1 L f (x / 128) _ _ (a + 1) (by omega) e3 (by omega) (by omega) (by omega) (by omega)]
      simp only [Prod.mk.injEq, List.length_cons]
      refine ⟨by omega, by omega, trivial⟩

theorem pw_bounds {k : Int} (h1 : 1 ≤ k) (h2 : k ≤ 8) : 2 ≤ pw k ∧ pw k ≤ 256 := by
  rcases pw_cases h1 h2 with ⟨rfl, e⟩ | ⟨rfl, e⟩ | ⟨rfl, e⟩ | ⟨rfl, e⟩ | ⟨rfl, e⟩ | ⟨rfl, e⟩ | ⟨rfl, e⟩ | ⟨rfl, e⟩ <;> rw [e] <;> omega
theorem put_small {k t x : Int} (h1 : 1 ≤ k) (h2 : k ≤ 8) (x0 : 0 ≤ x) (x1 : x ≤ 2147483647) (h : x < pw k - 1) : putL k t x = [t / pw k * pw k + x] := by
  rw [putL, if_neg (by omega), if_pos h]
theorem put_big {k t x : Int} (h1 : 1 ≤ k) (h2 : k ≤ 8) (x0 : 0 ≤ x) (x1 : x ≤ 2147483647) (h : ¬ x < pw k - 1) : putL k t x = (t / pw k * pw k + (pw k - 1)) :: tailJ 12 (x - (pw k - 1)) 0 := by
  have := pw_bounds h1 h2
  rw [putL, if_neg (by omega), if_neg h, tail_J 5 12 _ (by omega) (by simp; omega) (by simp; omega)]
/-- How many pieces. -/
def tl (x : Int) : Nat := if x < 128 then 1 else if x < 16384 then 2 else if x < 2097152 then 3 else if x < 268435456 then 4 else 5
theorem tailJ_len (f : Nat) (x : Int) (h0 : 0 ≤ x) (h1 : x < 34359738368) : (tailJ (f + 5) x 0).length = tl x := by
  unfold tl
  by_cases c1 : x < 128
  · rw [tailJ_end _ _ c1, if_pos c1]; rfl
  rw [if_neg c1, tailJ_more _ _ _ (by omega), if_neg c1, List.length_cons]
  by_cases c2 : x < 16384
  · rw [tailJ_end _ _ (by omega), if_pos c2]; rfl
  rw [if_neg c2, tailJ_more _ _ _ (by omega), if_neg (by omega), List.length_cons]
  by_cases c3 : x < 2097152
  · rw [tailJ_end _ _ (by omega), if_pos c3]; rfl
  rw [if_neg c3, tailJ_more _ _ _ (by omega), if_neg (by omega), List.length_cons]
  by_cases c4 : x < 268435456
  · rw [tailJ_end _ _ (by omega), if_pos c4]; rfl
  rw [if_neg c4, tailJ_more _ _ _ (by omega), if_neg (by omega), List.length_cons, tailJ_end _ _ (by omega)]
  rfl
theorem tl_mono {x y : Int} (h : x ≤ y) : tl x ≤ tl y := by
  unfold tl
  repeat' split
  all_goals omega
theorem tl_le (x : Int) : 1 ≤ tl x ∧ tl x ≤ 5 := by unfold tl; refine ⟨?_, ?_⟩ <;> (repeat' split) <;> omega
theorem head_mod {t P v : Int} (hP : 0 < P) (h0 : 0 ≤ v) (h1 : v < P) : (t / P * P + v) % P = v := by
  rw [Int.add_comm, Int.add_mul_emod_self_right]
  exact Int.emod_eq_of_lt h0 h1
theorem head_div {t P v : Int} (hP : 0 < P) (h0 : 0 ≤ v) (h1 : v < P) : (t / P * P + v) / P = t / P := by
  rw [Int.add_comm, Int.add_mul_ediv_right _ _ (by omega), Int.ediv_eq_zero_of_lt h0 h1]
  omega
theorem get_head {A M B : List Int} {c : Int} : (A ++ (c :: M) ++ B).getD A.length 0 = c := by
  have := (sits_mid A (c :: M) B).cons.1
  exact this
theorem get_put (A B : List Int) {k t x : Int} (h1 : 1 ≤ k) (h2 : k ≤ 8) (x0 : 0 ≤ x) (x1 : x ≤ 2147483647) :
    getL (A ++ putL k t x ++ B) (A.length : Int) k = (x, ((A.length + (putL k t x).length : Nat) : Int), 0) := by
  have hp := pw_bounds h1 h2
  by_cases h : x < pw k - 1
  · rw [put_small h1 h2 x0 x1 h, getL]
    simp only [Int.toNat_natCast]
    rw [if_neg (by simp; omega), if_neg (by simp; omega), get_head, head_mod (by omega) x0 (by omega), if_pos h]
    simp
  · rw [put_big h1 h2 x0 x1 h, getL]
    simp only [Int.toNat_natCast]
    rw [if_neg (by simp; omega), if_neg (by simp; omega), get_head, head_mod (by omega) (by omega) (by omega), if_neg (by omega)]
    have hs := (sits_mid A ((t / pw k * pw k + (pw k - 1)) :: tailJ 12 (x - (pw k - 1)) 0) B).cons.2.2
    have hl : (tailJ 12 (x - (pw k - 1)) 0).length = tl (x - (pw k - 1)) := tailJ_len 7 (x - (pw k - 1)) (by omega) (by omega)
    have := tl_le (x - (pw k - 1))
    rw [gok0 _ 12 (x - (pw k - 1)) 0 (pw k - 1) (A.length + 1) (by omega) hs (by omega) (by omega) (by omega) (by omega)]
    simp only [List.length_cons, Prod.mk.injEq]
    refine ⟨by omega, by omega, trivial⟩
theorem tailJ_byt : ∀ (f : Nat) (x : Int) (j : Nat), 0 ≤ x → x < 128 ^ (f + 1) → Byt (tailJ f x j)
  | 0, x, j, h0, h1 => fun y hy => by
    obtain rfl : y = x := by simpa [tailJ] using hy
    have : y < 128 := by simpa using h1
    omega
  | f + 1, x, j, h0, h1 => fun y hy => by
    rw [tailJ] at hy
    split at hy
    · rename_i h
      obtain rfl : y = x := by simpa using hy
      omega
    · rcases List.mem_cons.1 hy with rfl | hy
      · omega
      · exact tailJ_byt f (x / 128) _ (by omega) (Int.ediv_lt_of_lt_mul (by decide) (by rw [Int.pow_succ] at h1; exact h1)) y hy
theorem put_byt {k t x : Int} (h1 : 1 ≤ k) (h2 : k ≤ 8) (x0 : 0 ≤ x) (x1 : x ≤ 2147483647) (t0 : 0 ≤ t) (t1 : t ≤ 255) : Byt (putL k t x) := fun y hy => by
  have hp := pw_bounds h1 h2
  have hd : 0 ≤ t / pw k * pw k ∧ t / pw k * pw k + pw k ≤ 256 := by
    rcases pw_cases h1 h2 with ⟨rfl, e⟩ | ⟨rfl, e⟩ | ⟨rfl, e⟩ | ⟨rfl, e⟩ | ⟨rfl, e⟩ | ⟨rfl, e⟩ | ⟨rfl, e⟩ | ⟨rfl, e⟩ <;> rw [e] <;> omega
  by_cases h : x < pw k - 1
  · rw [put_small h1 h2 x0 x1 h] at hy
    obtain rfl : y = t / pw k * pw k + x := by simpa using hy
    omega
  · rw [put_big h1 h2 x0 x1 h] at hy
    rcases List.mem_cons.1 hy with rfl | hy
    · omega
    · exact tailJ_byt 12 _ _ (by omega) (by simp; omega) y hy
theorem byt_app {L M : List Int} (h : Byt L) (h' : Byt M) : Byt (L ++ M) := fun y hy => by
  rcases List.mem_append.1 hy with hy | hy
  · exact h y hy
  · exact h' y hy
/-- The first byte that is put. -/
theorem put_head {k t x : Int} (h1 : 1 ≤ k) (h2 : k ≤ 8) (x0 : 0 ≤ x) (x1 : x ≤ 2147483647) : ∃ d M, putL k t x = d :: M ∧ d / pw k = t / pw k := by
  have hp := pw_bounds h1 h2
  by_cases h : x < pw k - 1
  · exact ⟨_, _, put_small h1 h2 x0 x1 h, head_div (by omega) x0 (by omega)⟩
  · exact ⟨_, _, put_big h1 h2 x0 x1 h, head_div (by omega) (by omega) (by omega)⟩

end Go.AM.Pi
