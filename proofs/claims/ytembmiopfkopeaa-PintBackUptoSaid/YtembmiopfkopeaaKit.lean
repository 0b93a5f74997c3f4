/- Package pint: plain functions, and the contracts of full and Within. -/
import Derived.Test.YtembmiopfkopeaaMisc
import Derived.Test.YtembmiopfkopeaaOpen
import Derived.Laws.BitsAll
import Derived.Laws.BitsAllLaws
import Derived.Laws.Bits128
namespace Go.Proofs.Ytembmiopfkopeaa
open Go.ChangeShapes Go.WideShapes Go.ChangeAt Go.RowKit
set_option linter.unusedVariables false
set_option linter.unusedSimpArgs false

def bv (L : List Int) : List Value := L.map (Value.int .u8)
/-- v is a slice of the bytes L. -/
def BS (w : World) (v : Value) (L : List Int) : Prop := Rowy w v L.length 1 (fun i _ => .int .u8 (L.getD i 0))
def Byt (L : List Int) : Prop := ∀ x ∈ L, 0 ≤ x ∧ x ≤ 255
theorem Byt.at {L : List Int} (h : Byt L) (i : Nat) : 0 ≤ L.getD i 0 ∧ L.getD i 0 ≤ 255 := by
  by_cases hi : i < L.length
  · rw [List.getD_eq_getElem?_getD, List.getElem?_eq_getElem hi]; exact h _ (List.getElem_mem hi)
  · rw [List.getD_eq_getElem?_getD, List.getElem?_eq_none (by omega)]; decide
/-- 2 to the n, n from 1 to 8. -/
def pw (n : Int) : Int := 2 ^ n.toNat
theorem pw_cases {n : Int} (h1 : 1 ≤ n) (h2 : n ≤ 8) : (n = 1 ∧ pw n = 2) ∨ (n = 2 ∧ pw n = 4) ∨ (n = 3 ∧ pw n = 8) ∨ (n = 4 ∧ pw n = 16) ∨ (n = 5 ∧ pw n = 32) ∨ (n = 6 ∧ pw n = 64) ∨ (n = 7 ∧ pw n = 128) ∨ (n = 8 ∧ pw n = 256) := by
  rcases (show n = 1 ∨ n = 2 ∨ n = 3 ∨ n = 4 ∨ n = 5 ∨ n = 6 ∨ n = 7 ∨ n = 8 by omega) with rfl | rfl | rfl | rfl | rfl | rfl | rfl | rfl <;> simp [pw]
/-- The pieces of a number. -/
def tailL : Nat → Int → List Int
  | 0, v => [v]
  | f + 1, v => if v < 128 then [v] else (v % 128 + 128) :: tailL f (v / 128)
def putL (n top v : Int) : List Int :=
  if n < 1 ∨ 8 < n ∨ v < 0 ∨ 2147483647 < v then [] else
  if v < pw n - 1 then [top / pw n * pw n + v] else (top / pw n * pw n + (pw n - 1)) :: tailL 5 (v - (pw n - 1))
def getG (L : List Int) : Nat → Int → Nat → Int × Int × Int
  | 0, _, _ => (0, 0, 2)
  | f + 1, v, a => if a = L.length then (0, 0, 3) else
    if 2147483647 < v + L.getD a 0 % 128 * 2 ^ (7 * (4 - f)) then (0, 0, 2) else
    if L.getD a 0 < 128 then (v + L.getD a 0 % 128 * 2 ^ (7 * (4 - f)), (a : Int) + 1, 0) else getG L f (v + L.getD a 0 % 128 * 2 ^ (7 * (4 - f))) (a + 1)
def getL (L : List Int) (a n : Int) : Int × Int × Int :=
  if n < 1 ∨ 8 < n ∨ a < 0 ∨ (L.length : Int) < a then (0, 0, 1) else if a = L.length then (0, 0, 3) else
  if L.getD a.toNat 0 % pw n < pw n - 1 then (L.getD a.toNat 0 % pw n, a + 1, 0) else getG L 5 (L.getD a.toNat 0 % pw n) (a.toNat + 1)
abbrev tup (r : Int × Int × Int) : Value := .tuple #[.int .i64 r.1, .int .i64 r.2.1, .int .i64 r.2.2]

theorem i64_and_nat (a b : Nat) (ha : a < 9223372036854775808) (hb : b < 9223372036854775808) : bits .and .i64 (a : Int) (b : Int) = ((a &&& b : Nat) : Int) := by
  have e : ∀ c : Nat, c < 9223372036854775808 → (BitVec.ofInt 64 (c : Int)).toNat = c := fun c hc => by rw [BitVec.ofInt_natCast, BitVec.toNat_ofNat]; exact Nat.mod_eq_of_lt (by omega)
  show IntKind.i64.wrap ((BitVec.ofInt 64 (a : Int) &&& BitVec.ofInt 64 (b : Int)).toNat : Int) = _
  rw [BitVec.toNat_and, e a ha, e b hb, IntKind.wrap_i64]
  have : a &&& b ≤ a := Nat.and_le_left
  omega
theorem and_pw (c n : Int) (h1 : 1 ≤ n) (h2 : n ≤ 8) (c0 : 0 ≤ c) (c1 : c ≤ 255) : bits .and .i64 c (pw n - 1) = c % pw n := by
  obtain ⟨k, rfl⟩ := Int.eq_ofNat_of_zero_le c0
  have key : ∀ m : Nat, m ≤ 8 → bits .and .i64 (k : Int) (((2 ^ m - 1 : Nat)) : Int) = ((k % 2 ^ m : Nat) : Int) := fun m hm => by
    have : 2 ^ m ≤ 2 ^ 8 := Nat.pow_le_pow_right (by decide) hm
    rw [i64_and_nat _ _ (by omega) (by omega), Nat.and_two_pow_sub_one_eq_mod]
  rcases pw_cases h1 h2 with ⟨rfl, e⟩ | ⟨rfl, e⟩ | ⟨rfl, e⟩ | ⟨rfl, e⟩ | ⟨rfl, e⟩ | ⟨rfl, e⟩ | ⟨rfl, e⟩ | ⟨rfl, e⟩ <;> rw [e]
  · exact key 1 (by decide)
  · exact key 2 (by decide)
  · exact key 3 (by decide)
  · exact key 4 (by decide)
  · exact key 5 (by decide)
  · exact key 6 (by decide)
  · exact key 7 (by decide)
  · exact key 8 (by decide)
/-- The first byte: top's bits, and the number's. -/
theorem head_key (t v m : Nat) (hm : m ≤ 8) (ht : t < 256) (hv : v < 2 ^ m) : ((t &&& (255 - (2 ^ m - 1))) ||| v) = t / 2 ^ m * 2 ^ m + v := by
  have hp : 2 ^ m ≤ 2 ^ 8 := Nat.pow_le_pow_right (by decide) hm
  have e1 : t &&& (255 - (2 ^ m - 1)) = 2 ^ m * (t / 2 ^ m) := by
    apply Nat.eq_of_testBit_eq
    intro i
    rw [Nat.testBit_and, Nat.testBit_two_pow_mul, Nat.testBit_div_two_pow]
    by_cases hi : i < 8
    · have hx : (255 - (2 ^ m - 1)).testBit i = decide (m ≤ i) := by
        rcases (show m = 0 ∨ m = 1 ∨ m = 2 ∨ m = 3 ∨ m = 4 ∨ m = 5 ∨ m = 6 ∨ m = 7 ∨ m = 8 by omega) with rfl | rfl | rfl | rfl | rfl | rfl | rfl | rfl | rfl <;>
        rcases (show i = 0 ∨ i = 1 ∨ i = 2 ∨ i = 3 ∨ i = 4 ∨ i = 5 ∨ i = 6 ∨ i = 7 by omega) with rfl | rfl | rfl | rfl | rfl | rfl | rfl | rfl <;> decide
      rw [hx]
      by_cases hmi : m ≤ i
      · simp [hmi, show i - m + m = i by omega]
      · simp [hmi]
    · have h2 : t.testBit i = false := Nat.testBit_lt_two_pow (Nat.lt_of_lt_of_le ht (by have : 2 ^ 8 ≤ 2 ^ i := Nat.pow_le_pow_right (by decide) (by omega); omega))
      rw [h2, Bool.false_and]
      by_cases hmi : m ≤ i
      · simp [hmi, show i - m + m = i by omega, h2]
      · simp [hmi]
  rw [e1, Nat.mul_comm (2 ^ m), Nat.mul_comm (t / 2 ^ m), ← Nat.two_pow_add_eq_or_of_lt hv]
theorem u8_head (t v n : Int) (h1 : 1 ≤ n) (h2 : n ≤ 8) (t0 : 0 ≤ t) (t1 : t ≤ 255) (v0 : 0 ≤ v) (v1 : v < pw n) : bits .or .u8 (bits .andNot .u8 t (pw n - 1)) v = t / pw n * pw n + v := by
  obtain ⟨a, rfl⟩ := Int.eq_ofNat_of_zero_le t0
  obtain ⟨b, rfl⟩ := Int.eq_ofNat_of_zero_le v0
  have key : ∀ m : Nat, m ≤ 8 → b < 2 ^ m → bits .or .u8 (bits .andNot .u8 (a : Int) (((2 ^ m - 1 : Nat)) : Int)) (b : Int) = ((a / 2 ^ m * 2 ^ m + b : Nat) : Int) := fun m hm hb => by
    have : 2 ^ m ≤ 2 ^ 8 := Nat.pow_le_pow_right (by decide) hm
    rw [u8_andNot_nat _ _ (by omega) (by omega), u8_or_nat _ _ (Nat.lt_of_le_of_lt Nat.and_le_left (by omega)) (by omega), head_key a b m hm (by omega) hb]
  rcases pw_cases h1 h2 with ⟨rfl, e⟩ | ⟨rfl, e⟩ | ⟨rfl, e⟩ | ⟨rfl, e⟩ | ⟨rfl, e⟩ | ⟨rfl, e⟩ | ⟨rfl, e⟩ | ⟨rfl, e⟩ <;> rw [e] at v1 ⊢
  · exact key 1 (by decide) (by omega)
  · exact key 2 (by decide) (by omega)
  · exact key 3 (by decide) (by omega)
  · exact key 4 (by decide) (by omega)
  · exact key 5 (by decide) (by omega)
  · exact key 6 (by decide) (by omega)
  · exact key 7 (by decide) (by omega)
  · exact key 8 (by decide) (by omega)
/-- All of the number's bits. -/
theorem or_key (t m : Nat) (hm : m ≤ 8) (ht : t < 256) : (t ||| (2 ^ m - 1)) = t / 2 ^ m * 2 ^ m + (2 ^ m - 1) := by
  have hp : 0 < 2 ^ m := Nat.two_pow_pos m
  rw [Nat.mul_comm, Nat.two_pow_add_eq_or_of_lt (by omega)]
  apply Nat.eq_of_testBit_eq
  intro i
  rw [Nat.testBit_or, Nat.testBit_or, Nat.testBit_two_pow_mul, Nat.testBit_div_two_pow, Nat.testBit_two_pow_sub_one]
  by_cases hmi : m ≤ i
  · simp [hmi, show i - m + m = i by omega]
  · simp [show i < m by omega]
theorem u8_or_mask (t n : Int) (h1 : 1 ≤ n) (h2 : n ≤ 8) (t0 : 0 ≤ t) (t1 : t ≤ 255) : bits .or .u8 t (pw n - 1) = t / pw n * pw n + (pw n - 1) := by
  obtain ⟨a, rfl⟩ := Int.eq_ofNat_of_zero_le t0
  have key : ∀ m : Nat, m ≤ 8 → bits .or .u8 (a : Int) (((2 ^ m - 1 : Nat)) : Int) = ((a / 2 ^ m * 2 ^ m + (2 ^ m - 1) : Nat) : Int) := fun m hm => by
    have : 2 ^ m ≤ 2 ^ 8 := Nat.pow_le_pow_right (by decide) hm
    rw [u8_or_nat _ _ (by omega) (by omega), or_key a m hm (by omega)]
  rcases pw_cases h1 h2 with ⟨rfl, e⟩ | ⟨rfl, e⟩ | ⟨rfl, e⟩ | ⟨rfl, e⟩ | ⟨rfl, e⟩ | ⟨rfl, e⟩ | ⟨rfl, e⟩ | ⟨rfl, e⟩ <;> rw [e]
  · exact key 1 (by decide)
  · exact key 2 (by decide)
  · exact key 3 (by decide)
  · exact key 4 (by decide)
  · exact key 5 (by decide)
  · exact key 6 (by decide)
  · exact key 7 (by decide)
  · exact key 8 (by decide)

theorem full_any (n : Int) (w : World) (h1 : 1 ≤ n) (h2 : n ≤ 8) : Calls Try.prog 19 #[.int .i64 n] w fun e w' => e = .returned (.int .i64 (pw n - 1)) ∧ w = w' := by
  rcases pw_cases h1 h2 with ⟨rfl, e⟩ | ⟨rfl, e⟩ | ⟨rfl, e⟩ | ⟨rfl, e⟩ | ⟨rfl, e⟩ | ⟨rfl, e⟩ | ⟨rfl, e⟩ | ⟨rfl, e⟩ <;> rw [e] <;>
  · go_enter Try.func19, Try.ntmps19
    go_wp2
    go_returns
    exact ⟨rfl, rfl⟩
end Go.Proofs.Ytembmiopfkopeaa
