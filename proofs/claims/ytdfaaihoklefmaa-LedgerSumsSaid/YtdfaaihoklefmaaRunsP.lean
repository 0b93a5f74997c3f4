/- LedgerRuns: the plain facts. -/
import Derived.Test.YtdfaaihoklefmaaSum
namespace Go.Proofs.Ytdfaaihoklefmaa
open Go.ChangeShapes Go.WideShapes Go.ChangeAt Go.RowKit
set_option linter.unusedVariables false
set_option linter.unusedSimpArgs false

def g4 (a b c d : ByteArray) : Nat → ByteArray
  | 0 => a
  | 1 => b
  | 2 => c
  | _ => d
theorem rowy4 (w : World) (t : TypeId) (g : Nat) (hg : g = w.heap.size) (a b c d : ByteArray) : Rowy (w.alloc (.cells #[.string a, .string b, .string c, .string d] t)) (.slice (some ⟨g, 0, none⟩) 4 4) 4 1 (fun i _ => .string (g4 a b c d i)) := by
  subst hg
  refine ⟨_, _, rfl, Nat.le_refl _, by decide, fun _ => ⟨_, _, rfl, by simp, fun i j hi hj => ?_⟩⟩
  obtain rfl : j = 0 := by omega
  rw [(Blk.new w t _).cell]
  rcases (show i = 0 ∨ i = 1 ∨ i = 2 ∨ i = 3 by omega) with rfl | rfl | rfl | rfl <;> rfl
theorem rowy2 (w : World) (t : TypeId) (g : Nat) (hg : g = w.heap.size) (a b c d : ByteArray) : Rowy (w.alloc (.cells #[.string a, .string b] t)) (.slice (some ⟨g, 0, none⟩) 2 2) 2 1 (fun i _ => .string (g4 a b c d i)) := by
  subst hg
  refine ⟨_, _, rfl, Nat.le_refl _, by decide, fun _ => ⟨_, _, rfl, by simp, fun i j hi hj => ?_⟩⟩
  obtain rfl : j = 0 := by omega
  rw [(Blk.new w t _).cell]
  rcases (show i = 0 ∨ i = 1 by omega) with rfl | rfl <;> rfl
def T4 (a b c d : Talk) : Nat → Talk
  | 0 => a
  | 1 => b
  | 2 => c
  | _ => d
theorem rowyT (w : World) (g : Nat) (hg : g = w.heap.size) (a b c d : Talk) : Rowy (w.alloc (.cells #[.int .i64 a.p, .int .i64 a.l, .int .i64 a.s, .slice a.A a.n a.cap, .string a.body, .bool a.e, .bool a.r, .int .i64 a.c, .int .i64 a.a, .int .i64 b.p, .int .i64 b.l, .int .i64 b.s, .slice b.A b.n b.cap, .string b.body, .bool b.e, .bool b.r, .int .i64 b.c, .int .i64 b.a, .int .i64 c.p, .int .i64 c.l, .int .i64 c.s, .slice c.A c.n c.cap, .string c.body, .bool c.e, .bool c.r, .int .i64 c.c, .int .i64 c.a, .int .i64 d.p, .int .i64 d.l, .int .i64 d.s, .slice d.A d.n d.cap, .string d.body, .bool d.e, .bool d.r, .int .i64 d.c, .int .i64 d.a] 29)) (.slice (some ⟨g, 0, none⟩) 4 4) 4 9 (TV (T4 a b c d)) := by
  subst hg
  refine ⟨_, _, rfl, Nat.le_refl _, by decide, fun _ => ⟨_, _, rfl, by simp, fun i j hi hj => ?_⟩⟩
  rw [(Blk.new w 29 _).cell]
  rcases (show i = 0 ∨ i = 1 ∨ i = 2 ∨ i = 3 by omega) with rfl | rfl | rfl | rfl <;>
    rcases (show j = 0 ∨ j = 1 ∨ j = 2 ∨ j = 3 ∨ j = 4 ∨ j = 5 ∨ j = 6 ∨ j = 7 ∨ j = 8 by omega) with rfl | rfl | rfl | rfl | rfl | rfl | rfl | rfl | rfl <;> rfl
theorem Tok.nil (w : World) (F : Nat → ByteArray × ByteArray) (t : Talk) (hn : t.n = 0) (hA : t.A = none) (hc : t.cap = 0) : Tok w t F := by
  unfold Tok
  rw [hn, hA, hc]
  exact ⟨none, 0, rfl, Nat.le_refl _, Nat.zero_le _, fun h => absurd h (Nat.lt_irrefl _)⟩
/-- A text of three bytes. -/
abbrev b3 (x y z : UInt8) : ByteArray := ⟨#[x, y, z]⟩
theorem bt_b3 (x y z : UInt8) : (b3 x y z).size = 3 ∧ bt (b3 x y z) 0 = x.toNat ∧ bt (b3 x y z) 1 = y.toNat ∧ bt (b3 x y z) 2 = z.toNat := ⟨rfl, rfl, rfl, rfl⟩
theorem fv_first (a b c d : ByteArray) (n : Nat) : fst (fv (twos (g4 a b c d)) a (n + 1) 0) = b := by
  simp [fv, twos, g4, fst]
theorem fv_second (a b c d : ByteArray) (h : a ≠ c) (n : Nat) : fv (twos (g4 a b c d)) c (n + 2) 0 = some d := by
  simp [fv, twos, g4, h]
theorem fv_none (F : Nat → ByteArray × ByteArray) (nm : ByteArray) (i : Nat) : fv F nm 0 i = none := rfl
theorem ne_names : nStatus ≠ nLength ∧ nAge ≠ nVia ∧ nAge ≠ nStatus ∧ nVia ≠ nStatus ∧ nAge ≠ nLength ∧ nVia ≠ nLength := by
  refine ⟨?_, ?_, ?_, ?_, ?_, ?_⟩ <;> simp
/-- The proxy's own answer, of whatever status. -/
theorem own_three (A : Option Addr) (cap : Nat) (x : ByteArray) : ownF ⟨0, 0, 0, A, 2, cap, ⟨#[]⟩, false, false, 0, 0⟩ (twos (g4 nStatus x nLength ⟨#[48]⟩)) = decide (502 ≤ stF x ∧ stF x ≤ 504) := by
  unfold ownF
  rw [fv_first, fv_second _ _ _ _ ne_names.1]
  simp [fst, ByteArray.toList_eq]
theorem kd0 (A : Option Addr) (cap : Nat) : kd ⟨0, 0, 0, A, 2, cap, ⟨#[]⟩, true, false, 0, 0⟩ (twos (g4 nStatus (b3 53 48 50) nLength ⟨#[48]⟩)) = 2 := by
  unfold kd ownF
  rw [fv_first, fv_second _ _ _ _ ne_names.1]
  simp [fst, ByteArray.toList_eq, stF, bt_b3, dgt]
theorem st_empty : stF ⟨#[]⟩ = 0 := by
  unfold stF
  rw [if_neg (fun h => by have := h.1; simp [ByteArray.size] at this)]
theorem kd1 (A : Option Addr) (cap : Nat) : kd ⟨0, 0, 0, A, 2, cap, ⟨#[]⟩, true, false, 0, 0⟩ (twos (g4 nAge ⟨#[49]⟩ nVia tVia)) = 3 := by
  have h1 : fv (twos (g4 nAge ⟨#[49]⟩ nVia tVia)) nStatus 2 0 = none := by simp [fv, twos, g4, ne_names]
  have h2 : fv (twos (g4 nAge ⟨#[49]⟩ nVia tVia)) nAge 2 0 = some ⟨#[49]⟩ := by simp [fv, twos, g4]
  have h3 := fv_second nAge ⟨#[49]⟩ nVia tVia ne_names.2.1 0
  unfold kd storedF ownF
  simp only [h1, h2, h3]
  simp [fst, ByteArray.toList_eq, st_empty]
theorem st_nil : stF (fst none) = 0 := by simp [st_empty, fst]
theorem st_200 (c d : ByteArray) : stF (fst (fv (twos (g4 nStatus (b3 50 48 48) c d)) nStatus 1 0)) = 200 := by
  rw [fv_first]; simp [stF, bt_b3, dgt]
theorem st_2000 (c d : ByteArray) : stF (fst (fv (twos (g4 nStatus ⟨#[50, 48, 48, 48]⟩ c d)) nStatus 1 0)) = 0 := by
  rw [fv_first]; simp [stF, ByteArray.size]
theorem tal4 (K : Nat → Nat) (c0 c1 c2 c3 c4 c5 : Int) (h : Tal K 4 c0 c1 c2 c3 c4 c5) (h0 : K 0 = 2) (h1 : K 1 = 3) (h2 : K 2 = 1) (h3 : K 3 = 5) : c0 = 2 ∧ c1 = 1 ∧ c2 = 1 ∧ c3 = 1 ∧ c4 = 0 ∧ c5 = 1 := by
  unfold Tal cnt cnt cnt cnt cnt at h
  simp only [h0, h1, h2, h3] at h
  simpa using h
end Go.Proofs.Ytdfaaihoklefmaa
