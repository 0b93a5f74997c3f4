/- SettingLast: the plain law. -/
import Derived.Test.YtdlmocjkhkopgaaParts0
import Derived.Test.YtdlmocjkhkopgaaFirst
namespace Go.Proofs.Ytdlmocjkhkopgaa
open Go.ChangeShapes Go.WideShapes Go.ChangeAt Go.RowKit
set_option linter.unusedVariables false

/-- What setting k (1, 3, 6) has come to. -/
def fld (k : Int) (x : S5) : Int := if k = 1 then x.t else if k = 3 then x.s else x.l
theorem fld_same (k v : Int) (x : S5) (hk : k = 1 ∨ k = 3 ∨ k = 6) (h0 : 0 ≤ v) (h1 : v ≤ 2147483647) : fld k (upd x k v) = v := by
  have : clamp v = v := by unfold clamp; omega
  rcases hk with rfl | rfl | rfl <;> simp [fld, upd, this]
theorem fld_other (k i v : Int) (x : S5) (hk : k = 1 ∨ k = 3 ∨ k = 6) (h : i ≠ k) : fld k (upd x i v) = fld k x := by
  unfold upd fld
  rcases hk with rfl | rfl | rfl
  · simp [h]; split <;> (try rfl); split <;> (try rfl); split <;> (try rfl); split <;> rfl
  · simp [h]; split <;> (try rfl); split <;> (try rfl); split <;> (try rfl); split <;> rfl
  · simp [h]; split <;> (try rfl); split <;> (try rfl); split <;> (try rfl); split <;> rfl
theorem cv_kk (k v : Int) (hk : k = 1 ∨ k = 3 ∨ k = 6) : cv k v = 0 := by rcases hk with rfl | rfl | rfl <;> simp [cv]
/-- The list so far: fine, and the last setting k in it is want. -/
structure LInv (k : Int) (Z : Nat → Nat → Int) (n : Nat) (want : Int) (i : Nat) : Prop where
  fine : AllFine Z n
  none : i = 0 → n = 0 ∧ want = -1
  some : 0 < i → 0 ≤ want ∧ want ≤ 2147483647 ∧ fld k (ap Z firstS n) = want
  rng : ∀ a b, a < n → b < 2 → -9223372036854775808 ≤ Z a b ∧ Z a b ≤ 9223372036854775807
theorem rng_snoc {Z : Nat → Nat → Int} {n : Nat} {a b : Int} (h : ∀ p q, p < n → q < 2 → -9223372036854775808 ≤ Z p q ∧ Z p q ≤ 9223372036854775807)
    (ha : -9223372036854775808 ≤ a ∧ a ≤ 9223372036854775807) (hb : -9223372036854775808 ≤ b ∧ b ≤ 9223372036854775807) :
    ∀ p q, p < n + 1 → q < 2 → -9223372036854775808 ≤ bothZ Z (Z1 a b) n p q ∧ bothZ Z (Z1 a b) n p q ≤ 9223372036854775807 := fun p q hp hq => by
  unfold bothZ
  split
  · rename_i h'; exact h p q h' hq
  · unfold Z1; split
    · exact ha
    · exact hb
theorem ap_snoc (Z : Nat → Nat → Int) (n : Nat) (a b : Int) (x : S5) : ap (bothZ Z (Z1 a b) n) x (n + 1) = upd (ap Z x n) a b := ap_both2 Z (Z1 a b) x n 1
theorem fine_snoc {Z : Nat → Nat → Int} {n : Nat} {a b : Int} (h : AllFine Z n) (hc : cv a b = 0) : AllFine (bothZ Z (Z1 a b) n) (n + 1) :=
  fine_both2 h fun j hj => by obtain rfl : j = 0 := by omega
                              exact hc
/-- The setting itself is put behind. -/
theorem LInv.own {k : Int} {Z : Nat → Nat → Int} {n : Nat} {w0 : Int} {i : Nat} (h : LInv k Z n w0 i) (hk : k = 1 ∨ k = 3 ∨ k = 6) (want : Int) (h0 : 0 ≤ want) (h1 : want ≤ 2147483647) : LInv k (bothZ Z (Z1 k want) n) (n + 1) want (i + 1) :=
  ⟨fine_snoc h.fine (cv_kk k want hk), fun e => by omega, fun _ => ⟨h0, h1, by rw [ap_snoc]; exact fld_same k want _ hk h0 h1⟩, rng_snoc h.rng (by omega) (by omega)⟩
/-- Another one is put behind. -/
theorem LInv.other {k : Int} {Z : Nat → Nat → Int} {n : Nat} {want : Int} {i : Nat} (h : LInv k Z n want (i + 1)) (hk : k = 1 ∨ k = 3 ∨ k = 6) (a b : Int) (ha : a ≠ k) (hc : cv a b = 0)
    (h1 : -9223372036854775808 ≤ a ∧ a ≤ 9223372036854775807) (h2 : -9223372036854775808 ≤ b ∧ b ≤ 9223372036854775807) : LInv k (bothZ Z (Z1 a b) n) (n + 1) want (i + 1) :=
  ⟨fine_snoc h.fine hc, fun e => by omega, fun h' => ⟨(h.some h').1, (h.some h').2.1, by rw [ap_snoc, fld_other k a b _ hk ha]; exact (h.some h').2.2⟩, rng_snoc h.rng h1 h2⟩
theorem LInv.ans {k : Int} {Z : Nat → Nat → Int} {n : Nat} {want : Int} {i : Nat} (h : LInv k Z n want i) : Ans Z firstS n (ap Z firstS n) 0 := .inl ⟨h.fine, rfl, rfl⟩
theorem pairs_one2 (a b : Int) : pairsOf (Z1 a b) 1 = [.int .i64 a, .int .i64 b] := rfl
end Go.Proofs.Ytdlmocjkhkopgaa
