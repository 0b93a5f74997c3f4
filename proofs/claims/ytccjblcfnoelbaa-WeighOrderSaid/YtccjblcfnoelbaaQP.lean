/- Q: plain functions. -/
import Derived.Test.YtccjblcfnoelbaaKitC
import Derived.Deep.DeepCutAuto
namespace Go.Proofs.Ytccjblcfnoelbaa
open Go.ChangeShapes Go.WideShapes Go.ChangeAt Go.RowKit
set_option linter.unusedVariables false
set_option linter.unusedSimpArgs false

/-- Byte i of a text. -/
def bt (s : ByteArray) (i : Nat) : Int := if h : i < s.size then ((s[i]'h).toNat : Int) else 0
theorem bt_get (s : ByteArray) (i : Nat) (h : i < s.size) : bt s i = ((s[i]'h).toNat : Int) := by unfold bt; rw [dif_pos h]
theorem bt_lo (s : ByteArray) (i : Nat) : 0 ≤ bt s i := by unfold bt; split <;> omega
theorem bt_hi (s : ByteArray) (i : Nat) : bt s i ≤ 255 := by
  unfold bt
  split
  · have := (s[i]).toNat_lt; omega
  · omega
theorem ba_nil (s : ByteArray) (h : s.size = 0) : s = ⟨#[]⟩ := by
  obtain ⟨d⟩ := s
  have : d.size = 0 := h
  rw [Array.eq_empty_of_size_eq_zero this]
def qgo (b : Nat → Int) (sz : Nat) : Nat → Nat → Int → Int → Option (Int × Int)
  | 0, i, n, u => some (n, u)
  | f + 1, i, n, u => if i < sz then (if b i < 48 ∨ 57 < b i ∨ (b 0 = 49 ∧ b i ≠ 48) then none else qgo b sz f (i + 1) (10 * n + (b i - 48)) (10 * u)) else some (n, u)
def rgo (b : Nat → Int) (sz : Nat) : Nat → Nat → Int → Int → Option (Int × Int)
  | 0, i, n, u => some (n, u)
  | f + 1, i, n, u => if i < sz then (if b i < 48 ∨ 57 < b i then none else rgo b sz f (i + 1) (10 * n + (b i - 48)) (10 * u)) else some (n, u)
def fdiv (n u : Int) : Nat := (FloatKind.f64.format.div (floatOfInt .f64 n) (floatOfInt .f64 u)).getD 0
def qend : Option (Int × Int) → Nat × Bool
  | none => (0, false)
  | some (n, u) => (fdiv n u, true)
def rend : Option (Int × Int) → Nat × Bool
  | none => (0, false)
  | some (n, u) => if u < n then (0, false) else (fdiv n u, true)
def qbad (s : ByteArray) : Prop := s.size < 1 ∨ 5 < s.size ∨ (bt s 0 ≠ 48 ∧ bt s 0 ≠ 49) ∨ (1 < s.size ∧ bt s 1 ≠ 46)
instance (s : ByteArray) : Decidable (qbad s) := by unfold qbad; infer_instance
def qv (s : ByteArray) : Nat × Bool := if s.size < 1 ∨ 5 < s.size ∨ (bt s 0 ≠ 48 ∧ bt s 0 ≠ 49) ∨ (1 < s.size ∧ bt s 1 ≠ 46) then (0, false) else qend (qgo (bt s) s.size 3 2 (bt s 0 - 48) 1)
def rv (s : ByteArray) : Nat × Bool := if s.size < 1 ∨ 5 < s.size ∨ (bt s 0 ≠ 48 ∧ bt s 0 ≠ 49) ∨ (1 < s.size ∧ bt s 1 ≠ 46) then (0, false) else rend (rgo (bt s) s.size 3 2 (bt s 0 - 48) 1)
theorem div_ok (n u : Int) (n0 : 0 ≤ n) (n1 : n ≤ 1000000) (u0 : 0 < u) (u1 : u ≤ 1000000) : FloatKind.f64.format.div (floatOfInt .f64 n) (floatOfInt .f64 u) = some (fdiv n u) := by
  obtain ⟨a, rfl⟩ := Int.eq_ofNat_of_zero_le n0
  obtain ⟨b, rfl⟩ := Int.eq_ofNat_of_zero_le (Int.le_of_lt u0)
  obtain ⟨p, hp1, hp2, hp3⟩ := ofInt_U a (by omega)
  obtain ⟨q, hq1, hq2, hq3⟩ := ofInt_U b (by omega)
  unfold fdiv
  rw [hp1, hq1]
  have rp : rung p = p := by unfold rung; omega
  have rq : rung q = q := by unfold rung; omega
  obtain ⟨m, e, hm1, hm2⟩ := read_fin p (by omega)
  obtain ⟨k, i, hk1, hk2⟩ := read_fin q (by omega)
  have hk0 : k ≠ 0 := by
    rintro rfl
    rw [rq, hq3, Nat.zero_mul] at hk2
    have := Nat.mul_pos (show 0 < b by omega) U_pos
    omega
  have : ∃ r, FloatKind.f64.format.div p q = some r := by
    show ∃ r, ((Ieee.double.read p).quotient _ (Ieee.double.read q)).map Ieee.double.write = some r
    rw [hm1, hk1]
    simp [Ieee.Datum.quotient, hk0]
  obtain ⟨r, hr⟩ := this
  rw [hr]
  rfl
end Go.Proofs.Ytccjblcfnoelbaa
