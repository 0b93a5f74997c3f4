/- The shapes, turned from w10: numbers in bytes. -/
import Derived.Test.YtdlmocjkhkopgaaMisc
import Derived.Test.YtdlmocjkhkopgaaOpen
import Derived.Laws.BitsAll
import Derived.Laws.BitsAllLaws
import Derived.Laws.Bits128
import Derived.BigQuiet
import Derived.Deep.DeepCutAuto
import Derived.Deep.RegionHeld3
import Derived.Lib.QuietBelow
namespace Go.Proofs.Ytdlmocjkhkopgaa.Sh
open Go.ChangeShapes Go.WideShapes Go.ChangeAt Go.RowKit
set_option linter.unusedVariables false
set_option linter.unusedSimpArgs false
def bv (L : List Int) : List Value := L.map (Value.int .u8)
/-- v is a slice of the bytes L. -/
def BS (w : World) (v : Value) (L : List Int) : Prop := Rowy w v L.length 1 (fun i _ => .int .u8 (L.getD i 0))
def Byt (L : List Int) : Prop := ∀ x ∈ L, 0 ≤ x ∧ x ≤ 255
theorem Byt.at {L : List Int} (h : Byt L) (i : Nat) : 0 ≤ L.getD i 0 ∧ L.getD i 0 ≤ 255 := by
  by_cases hi : i < L.length
  · rw [List.getD_eq_getElem?_getD, List.getElem?_eq_getElem hi]; exact h _ (List.getElem_mem hi)
  · rw [List.getD_eq_getElem?_getD, List.getElem?_eq_none (by omega)]; decide
theorem i64_and_nat (a b : Nat) (ha : a < 9223372036854775808) (hb : b < 9223372036854775808) : bits .and .i64 (a : Int) (b : Int) = ((a &&& b : Nat) : Int) := by
  have e : ∀ c : Nat, c < 9223372036854775808 → (BitVec.ofInt 64 (c : Int)).toNat = c := fun c hc => by rw [BitVec.ofInt_natCast, BitVec.toNat_ofNat]; exact Nat.mod_eq_of_lt (by omega)
  show IntKind.i64.wrap ((BitVec.ofInt 64 (a : Int) &&& BitVec.ofInt 64 (b : Int)).toNat : Int) = _
  rw [BitVec.toNat_and, e a ha, e b hb, IntKind.wrap_i64]
  have : a &&& b ≤ a := Nat.and_le_left
  omega

theorem i64_or_nat (a b : Nat) (ha : a < 4294967296) (hb : b < 4294967296) : bits .or .i64 (a : Int) (b : Int) = ((a ||| b : Nat) : Int) := by
  have e : ∀ c : Nat, c < 4294967296 → (BitVec.ofInt 64 (c : Int)).toNat = c := fun c hc => by rw [BitVec.ofInt_natCast, BitVec.toNat_ofNat]; exact Nat.mod_eq_of_lt (by omega)
  show IntKind.i64.wrap ((BitVec.ofInt 64 (a : Int) ||| BitVec.ofInt 64 (b : Int)).toNat : Int) = _
  rw [BitVec.toNat_or, e a ha, e b hb, IntKind.wrap_i64]
  have : a ||| b < 2 ^ 32 := Nat.or_lt_two_pow (by omega) (by omega)
  omega
theorem or_join (x y m : Int) (i : Nat) (hm : m = 2 ^ i) (hx : 0 ≤ x) (hx1 : x < 4294967296) (hx2 : x % m = 0) (hy : 0 ≤ y) (hy1 : y < m) (hi : i ≤ 32) : bits .or .i64 x y = x + y := by
  obtain ⟨a, rfl⟩ := Int.eq_ofNat_of_zero_le hx
  obtain ⟨b, rfl⟩ := Int.eq_ofNat_of_zero_le hy
  subst hm
  have h2 : (2 : Int) ^ i = ((2 ^ i : Nat) : Int) := by simp
  rw [h2] at hx2 hy1
  have hb : b < 2 ^ i := by omega
  have hi2 : 2 ^ i ≤ 2 ^ 32 := Nat.pow_le_pow_right (by decide) hi
  rw [i64_or_nat a b (by omega) (by omega), nat_join i a b (by omega) hb]
  simp
/-- The number of four bytes. -/
def num (L : List Int) (o : Nat) : Int := L.getD o 0 * 16777216 + L.getD (o + 1) 0 * 65536 + L.getD (o + 2) 0 * 256 + L.getD (o + 3) 0
theorem num_rng {L : List Int} (h : Byt L) (o : Nat) : 0 ≤ num L o ∧ num L o ≤ 4294967295 := by
  have h0 := h.at o
  have h1 := h.at (o + 1)
  have h2 := h.at (o + 2)
  have h3 := h.at (o + 3)
  unfold num
  omega
theorem num_or (a b c d : Int) (ha : 0 ≤ a ∧ a ≤ 255) (hb : 0 ≤ b ∧ b ≤ 255) (hc : 0 ≤ c ∧ c ≤ 255) (hd : 0 ≤ d ∧ d ≤ 255) :
    bits .or .i64 (bits .or .i64 (bits .or .i64 (a * 16777216) (b * 65536)) (c * 256)) d = a * 16777216 + b * 65536 + c * 256 + d := by
  rw [or_join (a * 16777216) (b * 65536) 16777216 24 (by decide) (by omega) (by omega) (by omega) (by omega) (by omega) (by omega),
    or_join (a * 16777216 + b * 65536) (c * 256) 65536 16 (by decide) (by omega) (by omega) (by omega) (by omega) (by omega) (by omega),
    or_join (a * 16777216 + b * 65536 + c * 256) d 256 8 (by decide) (by omega) (by omega) (by omega) (by omega) (by omega) (by omega)]
theorem and_bare (x : Int) (h0 : 0 ≤ x) (h1 : x ≤ 4294967295) : bits .and .i64 x 2147483647 = x % 2147483648 := by
  obtain ⟨a, rfl⟩ := Int.eq_ofNat_of_zero_le h0
  have := i64_and_nat a 2147483647 (by omega) (by omega)
  rw [show ((2147483647 : Nat) : Int) = 2147483647 from rfl] at this
  rw [this, show 2147483647 = 2 ^ 31 - 1 from rfl, Nat.and_two_pow_sub_one_eq_mod]
  omega
set_option maxHeartbeats 1000000 in
set_option maxRecDepth 100000 in
theorem number_q (v : Value) (L : List Int) (w : World) (hR : BS w v L) (hb : Byt L) (hn : 4 ≤ L.length) :
    Calls Try.prog 28 #[v] w fun e w' => e = .returned (.int .i64 (num L 0)) ∧ ∃ nq, w' = w.drewN nq := by
  have p0 := hb.at 0
  have p1 := hb.at 1
  have p2 := hb.at 2
  have p3 := hb.at 3
  obtain ⟨A, cap, rfl, hk, hm, hc⟩ := hR
  obtain ⟨b, off, rfl, gb, q⟩ := hc (by omega)
  have e0 : w.cell? ⟨b, off, none⟩ = some (.int .u8 (L.getD 0 0)) := by simpa using q 0 0 (by omega) (by omega)
  have e1 : w.cell? ⟨b, off + 1, none⟩ = some (.int .u8 (L.getD 1 0)) := by simpa using q 1 0 (by omega) (by omega)
  have e2 : w.cell? ⟨b, off + 2, none⟩ = some (.int .u8 (L.getD 2 0)) := by simpa using q 2 0 (by omega) (by omega)
  have e3 : w.cell? ⟨b, off + 3, none⟩ = some (.int .u8 (L.getD 3 0)) := by simpa using q 3 0 (by omega) (by omega)
  have hN : num L 0 = L.getD 0 0 * 16777216 + L.getD 1 0 * 65536 + L.getD 2 0 * 256 + L.getD 3 0 := rfl
  have HN := Lib.hid hN
  clear hN hc q hb
  generalize L.getD 0 0 = a0 at *
  generalize L.getD 1 0 = a1 at *
  generalize L.getD 2 0 = a2 at *
  generalize L.getD 3 0 = a3 at *
  have n0 : (0 : Int) < (L.length : Int) := by omega
  have n1 : (1 : Int) < (L.length : Int) := by omega
  have n2 : (2 : Int) < (L.length : Int) := by omega
  have n3 : (3 : Int) < (L.length : Int) := by omega
  generalize L.length = n at *
  go_enter Try.func28, Try.ntmps28
  go_wp2_with fail
  go_quiet (fail)
  go_wp2_with fail
  go_ret
  exact ⟨ret_int (by rw [HN.out]; exact num_or a0 a1 a2 a3 p0 p1 p2 p3), _, rfl⟩
theorem number_any (v : Value) (L : List Int) (w : World) (hR : BS w v L) (hb : Byt L) (hn : 4 ≤ L.length) :
    Calls Try.prog 28 #[v] w fun e w' => e = .returned (.int .i64 (num L 0)) ∧ Below w.heap.size w w' :=
  (number_q v L w hR hb hn).mono fun e w' ⟨h1, nq, h2⟩ => ⟨h1, by subst h2; exact below_drewN (Below.refl _ _) _⟩
theorem u8_and_127 (a : Int) (h0 : 0 ≤ a) (h1 : a ≤ 255) : bits .and .u8 a 127 = a % 128 := by
  rw [u8_and a 127 h0 (by omega) (by omega) (by omega), show (127 : Int).toNat = 2 ^ 7 - 1 from rfl, Nat.and_two_pow_sub_one_eq_mod]
  omega
set_option maxHeartbeats 1000000 in
theorem bare_any (v : Value) (L : List Int) (w : World) (hR : BS w v L) (hb : Byt L) (hn : 4 ≤ L.length) :
    Calls Try.prog 31 #[v] w fun e w' => e = .returned (.int .i64 (num L 0 % 2147483648)) ∧ Below w.heap.size w w' := by
  have HB := Lib.hid (and_bare _ (num_rng hb 0).1 (num_rng hb 0).2)
  have HR := Lib.hid hR
  have HY := Lib.hid hb
  clear hR hb
  go_enter Try.func31, Try.ntmps31
  go_wp2_with (go_at_call 28; refine (number_any _ L _ HR.out HY.out hn).mono ?_; rintro e w1 ⟨rfl, hB1⟩)
  go_ret
  exact ⟨ret_int HB.out, hB1⟩

end Go.Proofs.Ytdlmocjkhkopgaa.Sh
