/- Put and Get: the plain laws. -/
import Derived.Test.YtembmiopfkopeaaGet
import Derived.Test.YtembmiopfkopeaaPutK
namespace Go.Proofs.Ytembmiopfkopeaa
open Go.ChangeShapes Go.WideShapes Go.ChangeAt Go.RowKit
set_option linter.unusedVariables false
set_option linter.unusedSimpArgs false

/-- The pieces of a number, and j empty ones behind. -/
def tailJ : Nat → Int → Nat → List Int
  | 0, x, _ => [x]
  | f + 1, x, j => if x < 128 ∧ j = 0 then [x] else (x % 128 + 128) :: tailJ f (x / 128) (if x < 128 then j - 1 else j)
theorem tailJ_end (f : Nat) (x : Int) (h : x < 128) : tailJ (f + 1) x 0 = [x] := by rw [tailJ, if_pos ⟨h, rfl⟩]
theorem tailJ_more (f : Nat) (x : Int) (j : Nat) (h : ¬ (x < 128 ∧ j = 0)) : tailJ (f + 1) x j = (x % 128 + 128) :: tailJ f (x / 128) (if x < 128 then j - 1 else j) := by rw [tailJ, if_neg h]
theorem tailJ_pos (f : Nat) (x : Int) (j : Nat) : 0 < (tailJ f x j).length := by
  cases f with
  | zero => exact Nat.zero_lt_one
  | succ f => rw [tailJ]; split <;> simp
theorem tail_J : ∀ (f g : Nat) (x : Int), 0 ≤ x → x < 128 ^ (f + 1) → x < 128 ^ (g + 1) → tailL f x = tailJ g x 0
  | 0, 0, x, _, _, _ => rfl
  | 0, g + 1, x, _, h, _ => by rw [tailJ_end g x (by simpa using h)]; rfl
  | f + 1, 0, x, _, _, h => by rw [tail_small (f + 1) x (by simpa using h)]; rfl
  | f + 1, g + 1, x, h0, h1, h2 => by
    by_cases hx : x < 128
    · rw [tail_small _ _ hx, tailJ_end _ _ hx]
    · rw [tail_big _ _ hx, tailJ_more _ _ _ (by omega), if_neg hx, tail_J f g (x / 128) (by omega) (Int.ediv_lt_of_lt_mul (by decide) (by rw [Int.pow_succ] at h1; exact h1)) (Int.ediv_lt_of_lt_mul (by decide) (by rw [Int.pow_succ] at h2; exact h2))]
/-- In L, from a on, there stands M. -/
def Sits (L : List Int) (a : Nat) (M : List Int) : Prop := a + M.length ≤ L.length ∧ ∀ j, j < M.length → L.getD (a + j) 0 = M.getD j 0
theorem Sits.cons {L M : List Int} {a : Nat} {c : Int} (h : Sits L a (c :: M)) : L.getD a 0 = c ∧ a < L.length ∧ Sits L (a + 1) M := by
  obtain ⟨h1, h2⟩ := h
  rw [List.length_cons] at h1
  refine ⟨?_, by omega, by omega, fun j hj => ?_⟩
  · simpa using h2 0 (by simp)
  · have := h2 (j + 1) (by simp; omega)
    rw [show a + 1 + j = a + (j + 1) by omega, this]
    simp
theorem sits_mid (A M B : List Int) : Sits (A ++ M ++ B) A.length M := by
  refine ⟨by simp, fun j hj => ?_⟩
  rw [List.getD_eq_getElem?_getD, List.getD_eq_getElem?_getD, List.append_assoc, List.getElem?_append_right (by omega), show A.length + j - A.length = j by omega, List.getElem?_append_left hj]
theorem sits_end (A M : List Int) : Sits (A ++ M) A.length M := by simpa using sits_mid A M []

theorem gok5 (L : List Int) (f : Nat) (x : Int) (j : Nat) (acc : Int) (a : Nat) (hf : 0 ≤ f) (hS : Sits L a (tailJ f x j)) (hn : (tailJ f x j).length ≤ 0) (h0 : 0 ≤ x) (h1 : 0 ≤ acc) (h2 : acc + x * 34359738368 ≤ 2147483647) :
    getG L 0 acc a = (acc + x * 34359738368, ((a + (tailJ f x j).length : Nat) : Int), 0) := by
  have := tailJ_pos f x j
  omega

theorem gok4 (L : List Int) (f : Nat) (x : Int) (j : Nat) (acc : Int) (a : Nat) (hf : 1 ≤ f) (hS : Sits L a (tailJ f x j)) (hn : (tailJ f x j).length ≤ 1) (h0 : 0 ≤ x) (h1 : 0 ≤ acc) (h2 : acc + x * 268435456 ≤ 2147483647) :
    getG L 1 acc a = (acc + x * 268435456, ((a + (tailJ f x j).length : Nat) : Int), 0) := by
  cases f with
  | zero => omega
  | succ f =>
    have hg := getG_step L 4 a acc (by decide)
    simp only [show 5 - 4 = 1 from rfl, show (2 : Int) ^ (7 * 4) = 268435456 from rfl, show 5 - (4 + 1) = 0 from rfl] at hg
    rw [hg]
    by_cases hc : x < 128 ∧ j = 0
    · obtain ⟨hx, rfl⟩ := hc
      rw [tailJ_end f x hx] at hS ⊢
      obtain ⟨e1, e2, -⟩ := hS.cons
      rw [if_neg (by omega), e1, if_neg (by omega), if_pos hx]
      simp only [Prod.mk.injEq, List.length_singleton]
      refine ⟨by omega, by omega, trivial⟩
    · rw [tailJ_more f x j hc] at hS hn ⊢
      obtain ⟨e1, e2, e3⟩ := hS.cons
      rw [List.length_cons] at hn
      rw [if_neg (by omega), e1, if_neg (by omega), if_neg (by omega), gok5 L f (x / 128) _ _ (a + 1) (by omega) e3 (by omega) (by omega) (by omega) (by omega)]
      simp only [Prod.mk.injEq, List.length_cons]
      refine ⟨by omega, by omega, trivial⟩

theorem gok3 (L : List Int) (f : Nat) (x : Int) (j : Nat) (acc : Int) (a : Nat) (hf : 2 ≤ f) (hS : Sits L a (tailJ f x j)) (hn : (tailJ f x j).length ≤ 2) (h0 : 0 ≤ x) (h1 : 0 ≤ acc) (h2 : acc + x * 2097152 ≤ 2147483647) :
    getG L 2 acc a = (acc + x * 2097152, ((a + (tailJ f x j).length : Nat) : Int), 0) := by
  cases f with
  | zero => omega
  | succ f =>
    have hg := getG_step L 3 a acc (by decide)
    simp only [show 5 - 3 = 2 from rfl, show (2 : Int) ^ (7 * 3) = 2097152 from rfl, show 5 - (3 + 1) = 1 from rfl] at hg
    rw [hg]
    by_cases hc : x < 128 ∧ j = 0
    · obtain ⟨hx, rfl⟩ := hc
      rw [tailJ_end f x hx] at hS ⊢
      obtain ⟨e1, e2, -⟩ := hS.cons
      rw [if_neg (by omega), e1, if_neg (by omega), if_pos hx]
      simp only [Prod.mk.injEq, List.length_singleton]
      refine ⟨by omega, by omega, trivial⟩
    · rw [tailJ_more f x j hc] at hS hn ⊢
      obtain ⟨e1, e2, e3⟩ := hS.cons
      rw [List.length_cons] at hn
      rw [if_neg (by omega), e1, if_neg (by omega), if_neg (by omega), gok4 L f (x / 128) _ _ (a + 1) (by omega) e3 (by omega) (by omega) (by omega) (by omega)]
      simp only [Prod.mk.injEq, List.length_cons]
      refine ⟨by omega, by omega, trivial⟩

theorem gok2 (L : List Int) (f : Nat) (x : Int) (j : Nat) (acc : Int) (a : Nat) (hf : 3 ≤ f) (hS : Sits L a (tailJ f x j)) (hn : (tailJ f x j).length ≤ 3) (h0 : 0 ≤ x) (h1 : 0 ≤ acc) (h2 : acc + x * 16384 ≤ 2147483647) :
    getG L 3 acc a = (acc + x * 16384, ((a + (tailJ f x j).length : Nat) : Int), 0) := by
  cases f with
  | zero => omega
  | succ f =>
    have hg := getG_step L 2 a acc (by decide)
    simp only [show 5 - 2 = 3 from rfl, show (2 : Int) ^ (7 * 2) = 16384 from rfl, show 5 - (2 + 1) = 2 from rfl] at hg
    rw [hg]
    by_cases hc : x < 128 ∧ j = 0
    · obtain ⟨hx, rfl⟩ := hc
      rw [tailJ_end f x hx] at hS ⊢
      obtain ⟨e1, e2, -⟩ := hS.cons
      rw [if_neg (by omega), e1, if_neg (by omega), if_pos hx]
      simp only [Prod.mk.injEq, List.length_singleton]
      refine ⟨by omega, by omega, trivial⟩
    · rw [tailJ_more f x j hc] at hS hn ⊢
      obtain ⟨e1, e2, e3⟩ := hS.cons
      rw [List.length_cons] at hn
      rw [if_neg (by omega), e1, if_neg (by omega), if_neg (by omega), gok3 L f (x / 128) _ _ (a + 1) (by omega) e3 (by omega) (by omega) (by omega) (by omega)]
      simp only [Prod.mk.injEq, List.length_cons]
      refine ⟨by omega, by omega, trivial⟩

theorem gok1 (L : List Int) (f : Nat) (x : Int) (j : Nat) (acc : Int) (a : Nat) (hf : 4 ≤ f) (hS : Sits L a (tailJ f x j)) (hn : (tailJ f x j).length ≤ 4) (h0 : 0 ≤ x) (h1 : 0 ≤ acc) (h2 : acc + x * 128 ≤ 2147483647) :
    getG L 4 acc a = (acc + x * 128, ((a + (tailJ f x j).length : Nat) : Int), 0) := by
  cases f with
  | zero => omega
  | succ f =>
    have hg := getG_step L 1 a acc (by decide)
    simp only [show 5 - 1 = 4 from rfl, show (2 : Int) ^ (7 * 1) = 128 from rfl, show 5 - (1 + 1) = 3 from rfl] at hg
    rw [hg]
    by_cases hc : x < 128 ∧ j = 0
    · obtain ⟨hx, rfl⟩ := hc
      rw [tailJ_end f x hx] at hS ⊢
      obtain ⟨e1, e2, -⟩ := hS.cons
      rw [if_neg (by omega), e1, if_neg (by omega), if_pos hx]
      simp only [Prod.mk.injEq, List.length_singleton]
      refine ⟨by omega, by omega, trivial⟩
    · rw [tailJ_more f x j hc] at hS hn ⊢
      obtain ⟨e1, e2, e3⟩ := hS.cons
      rw [List.length_cons] at hn
      rw [if_neg (by omega), e1, if_neg (by omega), if_neg (by omega), gok2 L f (x / 128) _ _ (a + 1) (by omega) e3 (by omega) (by omega) (by omega) (by omega)]
      simp only [Prod.mk.injEq, List.length_cons]
      refine ⟨by omega, by omega, trivial⟩

theorem gok0 (L : List Int) (f : Nat) (x : Int) (j : Nat) (acc : Int) (a : Nat) (hf : 5 ≤ f) (hS : Sits L a (tailJ f x j)) (hn : (tailJ f x j).length ≤ 5) (h0 : 0 ≤ x) (h1 : 0 ≤ acc) (h2 : acc + x * 1 ≤ 2147483647) :
    getG L 5 acc a = (acc + x * 1, ((a + (tailJ f x j).length : Nat) : Int), 0) := by
  cases f with
  | zero => omega
  | succ f =>
    have hg := getG_step L 0 a acc (by decide)
    simp only [show 5 - 0 = 5 from rfl, show (2 : Int) ^ (7 * 0) = 1 from rfl, show 5 - (0 + 1) = 4 from rfl] at hg
    rw [hg]
    by_cases hc : x < 128 ∧ j = 0
    · obtain ⟨hx, rfl⟩ := hc
      rw [tailJ_end f x hx] at hS ⊢
      obtain ⟨e1, e2, -⟩ := hS.cons
      rw [if_neg (by omega), e1, if_neg (by omega), if_pos hx]
      simp only [Prod.mk.injEq, List.length_singleton]
      refine ⟨by omega, by omega, trivial⟩
    · rw [tailJ_more f x j hc] at hS hn ⊢
      obtain ⟨e1, e2, e3⟩ := hS.cons
      rw [List.length_cons] at hn
      rw [if_neg (by omega), e1, if_neg (by omega), if_neg (by omega), gok1 L f (x / 128) _ _ (a + 1) (by omega) e3 (by omega) (by omega) (by omega) (by omega)]
      simp only [Prod.mk.injEq, List.length_cons]
      refine ⟨by omega, by omega, trivial⟩

theorem glong5 (L : List Int) (f : Nat) (x : Int) (j : Nat) (acc : Int) (a : Nat) (hf : 0 ≤ f) (hS : Sits L a (tailJ f x j)) (hn : 0 < (tailJ f x j).length) (h0 : 0 ≤ x) (h1 : 0 ≤ acc) (h2 : acc + x * 34359738368 ≤ 2147483647) :
    getG L 0 acc a = (0, 0, 2) := by
  rfl

theorem glong4 (L : List Int) (f : Nat) (x : Int) (j : Nat) (acc : Int) (a : Nat) (hf : 1 ≤ f) (hS : Sits L a (tailJ f x j)) (hn : 1 < (tailJ f x j).length) (h0 : 0 ≤ x) (h1 : 0 ≤ acc) (h2 : acc + x * 268435456 ≤ 2147483647) :
    getG L 1 acc a = (0, 0, 2) := by
  cases f with
  | zero => omega
  | succ f =>
    have hg := getG_step L 4 a acc (by decide)
    simp only [show 5 - 4 = 1 from rfl, show (2 : Int) ^ (7 * 4) = 268435456 from rfl, show 5 - (4 + 1) = 0 from rfl] at hg
    rw [hg]
    by_cases hc : x < 128 ∧ j = 0
    · obtain ⟨hx, rfl⟩ := hc
      rw [tailJ_end f x hx, List.length_singleton] at hn
      omega
    · rw [tailJ_more f x j hc] at hS hn
      obtain ⟨e1, e2, e3⟩ := hS.cons
      rw [List.length_cons] at hn
      rw [if_neg (by omega), e1, if_neg (by omega), if_neg (by omega), glong5 L f (x / 128) _ _ (a + 1) (by omega) e3 (by omega) (by omega) (by omega) (by omega)]

theorem glong3 (L : List Int) (f : Nat) (x : Int) (j : Nat) (acc : Int) (a : Nat) (hf : 2 ≤ f) (hS : Sits L a (tailJ f x j)) (hn : 2 < (tailJ f x j).length) (h0 : 0 ≤ x) (h1 : 0 ≤ acc) (h2 : acc + x * 2097152 ≤ 2147483647) :
    getG L 2 acc a = (0, 0, 2) := by
  cases f with
  | zero => omega
  | succ f =>
    have hg := getG_step L 3 a acc (by decide)
    simp only [show 5 - 3 = 2 from rfl, show (2 : Int) ^ (7 * 3) = 2097152 from rfl, show 5 - (3 + 1) = 1 from rfl] at hg
    rw [hg]
    by_cases hc : x < 128 ∧ j = 0
    · obtain ⟨hx, rfl⟩ := hc
      rw [tailJ_end f x hx, List.length_singleton] at hn
      omega
    · rw [tailJ_more f x j hc] at hS hn
      obtain ⟨e1, e2, e3⟩ := hS.cons
      rw [List.length_cons] at hn
      rw [if_neg (by omega), e1, if_neg (by omega), if_neg (by omega), glong4 L f (x / 128) _ _ (a + 1) (by omega) e3 (by omega) (by omega) (by omega) (by omega)]

theorem glong2 (L : List Int) (f : Nat) (x : Int) (j : Nat) (acc : Int) (a : Nat) (hf : 3 ≤ f) (hS : Sits L a (tailJ f x j)) (hn : 3 < (tailJ f x j).length) (h0 : 0 ≤ x) (h1 : 0 ≤ acc) (h2 : acc + x * 16384 ≤ 2147483647) :
    getG L 3 acc a = (0, 0, 2) := by
  cases f with
  | zero => omega
  | succ f =>
    have hg := getG_step L 2 a acc (by decide)
    simp only [show 5 - 2 = 3 from rfl, show (2 : Int) ^ (7 * 2) = 16384 from rfl, show 5 - (2 + 1) = 2 from rfl] at hg
    rw [hg]
    by_cases hc : x < 128 ∧ j = 0
    · obtain ⟨hx, rfl⟩ := hc
      rw [tailJ_end f x hx, List.length_singleton] at hn
      omega
    · rw [tailJ_more f x j hc] at hS hn
      obtain ⟨e1, e2, e3⟩ := hS.cons
      rw [List.length_cons] at hn
      rw [if_neg (by omega), e1, if_neg (by omega), if_neg (by omega), glong3 L f (x / 128) _ _ (a + 1) (by omega) e3 (by omega) (by omega) (by omega) (by omega)]

theorem glong1 (L : List Int) (f : Nat) (x : Int) (j : Nat) (acc : Int) (a : Nat) (hf : 4 ≤ f) (hS : Sits L a (tailJ f x j)) (hn : 4 < (tailJ f x j).length) (h0 : 0 ≤ x) (h1 : 0 ≤ acc) (h2 : acc + x * 128 ≤ 2147483647) :
    getG L 4 acc a = (0, 0, 2) := by
  cases f with
  | zero => omega
  | succ f =>
    have hg := getG_step L 1 a acc (by decide)
    simp only [show 5 - 1 = 4 from rfl, show (2 : Int) ^ (7 * 1) = 128 from rfl, show 5 - (1 + 1) = 3 from rfl] at hg
    rw [hg]
    by_cases hc : x < 128 ∧ j = 0
    · obtain ⟨hx, rfl⟩ := hc
      rw [tailJ_end f x hx, List.length_singleton] at hn
      omega
    · rw [tailJ_more f x j hc] at hS hn
      obtain ⟨e1, e2, e3⟩ := hS.cons
      rw [List.length_cons] at hn
      rw [if_neg (by omega), e1, if_neg (by omega), if_neg (by omega), glong2 L f (x / 128) _ _ (a + 1) (by omega) e3 (by omega) (by omega) (by omega) (by omega)]

theorem glong0 (L : List Int) (f : Nat) (x : Int) (j : Nat) (acc : Int) (a : Nat) (hf : 5 ≤ f) (hS : Sits L a (tailJ f x j)) (hn : 5 < (tailJ f x j).length) (h0 : 0 ≤ x) (h1 : 0 ≤ acc) (h2 : acc + x * 1 ≤ 2147483647) :
    getG L 5 acc a = (0, 0, 2) := by
  cases f with
  | zero => omega
  | succ f =>
    have hg := getG_step L 0 a acc (by decide)
    simp only [show 5 - 0 = 5 from rfl, show (2 : Int) ^ (7 * 0) = 1 from rfl, show 5 - (0 + 1) = 4 from rfl] at hg
    rw [hg]
    by_cases hc : x < 128 ∧ j = 0
    · obtain ⟨hx, rfl⟩ := hc
      rw [tailJ_end f x hx, List.length_singleton] at hn
      omega
    · rw [tailJ_more f x j hc] at hS hn
      obtain ⟨e1, e2, e3⟩ := hS.cons
      rw [List.length_cons] at hn
      rw [if_neg (by omega), e1, if_neg (by omega), if_neg (by omega), glong1 L f (x / 128) _ _ (a + 1) (by omega) e3 (by omega) (by omega) (by omega) (by omega)]

theorem gcut5 (L : List Int) (f : Nat) (x : Int) (j : Nat) (acc : Int) (a m : Nat) (hf : 0 ≤ f) (hS : Sits L a ((tailJ f x j).take m)) (hL : L.length = a + m) (hm : m < (tailJ f x j).length) (hn : (tailJ f x j).length ≤ 0) (h0 : 0 ≤ x) (h1 : 0 ≤ acc) (h2 : acc + x * 34359738368 ≤ 2147483647) :
    getG L 0 acc a = (0, 0, 3) := by
  have := tailJ_pos f x j
  omega

theorem gcut4 (L : List Int) (f : Nat) (x : Int) (j : Nat) (acc : Int) (a m : Nat) (hf : 1 ≤ f) (hS : Sits L a ((tailJ f x j).take m)) (hL : L.length = a + m) (hm : m < (tailJ f x j).length) (hn : (tailJ f x j).length ≤ 1) (h0 : 0 ≤ x) (h1 : 0 ≤ acc) (h2 : acc + x * 268435456 ≤ 2147483647) :
    getG L 1 acc a = (0, 0, 3) := by
  cases f with
  | zero => omega
  | succ f =>
    have hg := getG_step L 4 a acc (by decide)
    simp only [show 5 - 4 = 1 from rfl, show (2 : Int) ^ (7 * 4) = 268435456 from rfl, show 5 - (4 + 1) = 0 from rfl] at hg
    rw [hg]
    cases m with
    | zero => rw [if_pos (by omega)]
    | succ m =>
      by_cases hc : x < 128 ∧ j = 0
      · obtain ⟨hx, rfl⟩ := hc
        rw [tailJ_end f x hx, List.length_singleton] at hm
        omega
      · rw [tailJ_more f x j hc] at hS hn hm
        rw [List.take_succ_cons] at hS
        obtain ⟨e1, e2, e3⟩ := hS.cons
        rw [List.length_cons] at hn hm
        rw [if_neg (by omega), e1, if_neg (by omega), if_neg (by omega), gcut5 L f (x / 128) _ _ (a + 1) m (by omega) e3 (by omega) (by omega) (by omega) (by omega) (by omega) (by omega)]

theorem gcut3 (L : List Int) (f : Nat) (x : Int) (j : Nat) (acc : Int) (a m : Nat) (hf : 2 ≤ f) (hS : Sits L a ((tailJ f x j).take m)) (hL : L.length = a + m) (hm : m < (tailJ f x j).length) (hn : (tailJ f x j).length ≤ 2) (h0 : 0 ≤ x) (h1 : 0 ≤ acc) (h2 : acc + x * 2097152 ≤ 2147483647) :
    getG L 2 acc a = (0, 0, 3) := by
  cases f with
  | zero => omega
  | succ f =>
    have hg := getG_step L 3 a acc (by decide)
    simp only [show 5 - 3 = 2 from rfl, show (2 : Int) ^ (7 * 3) = 2097152 from rfl, show 5 - (3 + 1) = 1 from rfl] at hg
    rw [hg]
    cases m with
    | zero => rw [if_pos (by omega)]
    | succ m =>
      by_cases hc : x < 128 ∧ j = 0
      · obtain ⟨hx, rfl⟩ := hc
        rw [tailJ_end f x hx, List.length_singleton] at hm
        omega
      · rw [tailJ_more f x j hc] at hS hn hm
        rw [List.take_succ_cons] at hS
        obtain ⟨e1, e2, e3⟩ := hS.cons
        rw [List.length_cons] at hn hm
        rw [if_neg (by omega), e1, if_neg (by omega), if_neg (by omega), gcut4 L f (x / 128) _ _ (a + 1) m (by omega) e3 (by omega) (by omega) (by omega) (by omega) (by omega) (by omega)]

theorem gcut2 (L : List Int) (f : Nat) (x : Int) (j : Nat) (acc : Int) (a m : Nat) (hf : 3 ≤ f) (hS : Sits L a ((tailJ f x j).take m)) (hL : L.length = a + m) (hm : m < (tailJ f x j).length) (hn : (tailJ f x j).length ≤ 3) (h0 : 0 ≤ x) (h1 : 0 ≤ acc) (h2 : acc + x * 16384 ≤ 2147483647) :
    getG L 3 acc a = (0, 0, 3) := by
  cases f with
  | zero => omega
  | succ f =>
    have hg := getG_step L 2 a acc (by decide)
    simp only [show 5 - 2 = 3 from rfl, show (2 : Int) ^ (7 * 2) = 16384 from rfl, show 5 - (2 + 1) = 2 from rfl] at hg
    rw [hg]
    cases m with
    | zero => rw [if_pos (by omega)]
    | succ m =>
      by_cases hc : x < 128 ∧ j = 0
      · obtain ⟨hx, rfl⟩ := hc
        rw [tailJ_end f x hx, List.length_singleton] at hm
        omega
      · rw [tailJ_more f x j hc] at hS hn hm
        rw [List.take_succ_cons] at hS
        obtain ⟨e1, e2, e3⟩ := hS.cons
        rw [List.length_cons] at hn hm
        rw [if_neg (by omega), e1, if_neg (by omega), if_neg (by omega), gcut3 L f (x / 128) _ _ (a + 1) m (by omega) e3 (by omega) (by omega) (by omega) (by omega) (by omega) (by omega)]

theorem gcut1 (L : List Int) (f : Nat) (x : Int) (j : Nat) (acc : Int) (a m : Nat) (hf : 4 ≤ f) (hS : Sits L a ((tailJ f x j).take m)) (hL : L.length = a + m) (hm : m < (tailJ f x j).length) (hn : (tailJ f x j).length ≤ 4) (h0 : 0 ≤ x) (h1 : 0 ≤ acc) (h2 : acc + x * 128 ≤ 2147483647) :
    getG L 4 acc a = (0, 0, 3) := by
  cases f with
  | zero => omega
  | succ f =>
    have hg := getG_step L 1 a acc (by decide)
    simp only [show 5 - 1 = 4 from rfl, show (2 : Int) ^ (7 * 1) = 128 from rfl, show 5 - (1 + 1) = 3 from rfl] at hg
    rw [hg]
    cases m with
    | zero => rw [if_pos (by omega)]
    | succ m =>
      by_cases hc : x < 128 ∧ j = 0
      · obtain ⟨hx, rfl⟩ := hc
        rw [tailJ_end f x hx, List.length_singleton] at hm
        omega
      · rw [tailJ_more f x j hc] at hS hn hm
        rw [List.take_succ_cons] at hS
        obtain ⟨e1, e2, e3⟩ := hS.cons
        rw [List.length_cons] at hn hm
        rw [if_neg (by omega), e1, if_neg (by omega), if_neg (by omega), gcut2 L f (x / 128) _ _ (a + 1) m (by omega) e3 (by omega) (by omega) (by omega) (by omega) (by omega) (by omega)]

theorem gcut0 (L : List Int) (f : Nat) (x : Int) (j : Nat) (acc : Int) (a m : Nat) (hf : 5 ≤ f) (hS : Sits L a ((tailJ f x j).take m)) (hL : L.length = a + m) (hm : m < (tailJ f x j).length) (hn : (tailJ f x j).length ≤ 5) (h0 : 0 ≤ x) (h1 : 0 ≤ acc) (h2 : acc + x * 1 ≤ 2147483647) :
    getG L 5 acc a = (0, 0, 3) := by
  cases f with
  | zero => omega
  | succ f =>
    have hg := getG_step L 0 a acc (by decide)
    simp only [show 5 - 0 = 5 from rfl, show (2 : Int) ^ (7 * 0) = 1 from rfl, show 5 - (0 + 1) = 4 from rfl] at hg
    rw [hg]
    cases m with
    | zero => rw [if_pos (by omega)]
    | succ m =>
      by_cases hc : x < 128 ∧ j = 0
      · obtain ⟨hx, rfl⟩ := hc
        rw [tailJ_end f x hx, List.length_singleton] at hm
        omega
      · rw [tailJ_more f x j hc] at hS hn hm
        rw [List.take_succ_cons] at hS
        obtain ⟨e1, e2, e3⟩ := hS.cons
        rw [List.length_cons] at hn hm
        rw [if_neg (by omega), e1, if_neg (by omega), if_neg (by omega), gcut1 L f (x / 128) _ _ (a + 1) m (by omega) e3 (by omega) (by omega) (by omega) (by omega) (by omega) (by omega)]

end Go.Proofs.Ytembmiopfkopeaa
