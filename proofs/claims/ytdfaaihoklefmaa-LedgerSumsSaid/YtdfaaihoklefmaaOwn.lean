/- Package ledger: Own, Stored, and the document's value. -/
import Derived.Test.YtdfaaihoklefmaaStatus
namespace Go.Proofs.Ytdfaaihoklefmaa
open Go.ChangeShapes Go.WideShapes Go.ChangeAt Go.RowKit
set_option linter.unusedVariables false
set_option linter.unusedSimpArgs false

abbrev nLength : ByteArray := ⟨#[99, 111, 110, 116, 101, 110, 116, 45, 108, 101, 110, 103, 116, 104]⟩
abbrev nAge : ByteArray := ⟨#[97, 103, 101]⟩
abbrev nVia : ByteArray := ⟨#[118, 105, 97]⟩
abbrev tVia : ByteArray := ⟨#[50, 32, 114, 101, 115, 101, 114, 118, 111, 105, 114]⟩
/-- Is it an answer of the proxy's own? -/
def ownF (t : Talk) (F : Nat → ByteArray × ByteArray) : Bool :=
  decide (502 ≤ stF (fst (fv F nStatus t.n 0)) ∧ stF (fst (fv F nStatus t.n 0)) ≤ 504 ∧ t.n = 2) && ((fst (fv F nLength t.n 0)).toList == [48]) && t.body.toList.isEmpty
def storedF (t : Talk) (F : Nat → ByteArray × ByteArray) : Bool :=
  (fv F nAge t.n 0).isSome && ((fst (fv F nVia t.n 0)).toList == tVia.toList) && !ownF t F
set_option maxHeartbeats 2000000 in
set_option maxRecDepth 100000 in
theorem own_any (t : Talk) (F : Nat → ByteArray × ByteArray) (w : World) (hR : Rowy w (.slice t.A t.n t.cap) t.n 2 (FV F)) :
    Calls Try.prog 14 #[t.val] w fun e w' => e = .returned (.bool (ownF t F)) ∧ Below w.heap.size w w' := by
  have HR := Lib.hid hR
  obtain ⟨p, l, s, A, n, cap, body, te, tr, c, a⟩ := t
  clear hR
  obtain ⟨x, hx⟩ : ∃ x, stF (fst (fv F nStatus n 0)) = x := ⟨_, rfl⟩
  obtain ⟨y, hy⟩ : ∃ y, fst (fv F nLength n 0) = y := ⟨_, rfl⟩
  unfold ownF
  simp only [hx, hy]
  go_enter Try.func14, Try.ntmps14
  go_wp2_with (first
    | (go_at_call 11; refine (value_any ⟨p, l, s, A, n, cap, body, te, tr, c, a⟩ F nLength _ (HR.out.below (by go_grown) (Nat.le_refl _))).mono ?_; rintro e w1 ⟨rfl, hB1⟩; rw [hy]; have hA1 : Below w.heap.size w w1 := Below.trans (by go_grown) (hB1.mono (by go_size)); have hs1 := hA1.size; obtain ⟨d1, f1⟩ := bcell hB1; have k1 : w.heap.size < w1.heap.size := Nat.lt_of_lt_of_le (by go_simp) hB1.size)
    | (go_at_call 9; refine (status_any ⟨p, l, s, A, n, cap, body, te, tr, c, a⟩ F _ (HR.out.below hA1 (Nat.le_refl _))).mono ?_; rintro e w2 ⟨rfl, hB2⟩; rw [hx]; have hA2 : Below w.heap.size w w2 := Below.trans hA1 (hB2.mono hs1); obtain ⟨d2, f2⟩ := bcell hB2))
  all_goals
    go_ret
    refine ⟨?_, hA2⟩
    simp_all
    try omega
set_option maxHeartbeats 2000000 in
set_option maxRecDepth 100000 in
theorem stored_any (t : Talk) (F : Nat → ByteArray × ByteArray) (w : World) (hR : Rowy w (.slice t.A t.n t.cap) t.n 2 (FV F)) :
    Calls Try.prog 15 #[t.val] w fun e w' => e = .returned (.bool (storedF t F)) ∧ Below w.heap.size w w' := by
  have HR := Lib.hid hR
  obtain ⟨p, l, s, A, n, cap, body, te, tr, c, a⟩ := t
  clear hR
  obtain ⟨x, hx⟩ : ∃ x, fv F nAge n 0 = x := ⟨_, rfl⟩
  obtain ⟨y, hy⟩ : ∃ y, fst (fv F nVia n 0) = y := ⟨_, rfl⟩
  obtain ⟨o, ho⟩ : ∃ o, ownF ⟨p, l, s, A, n, cap, body, te, tr, c, a⟩ F = o := ⟨_, rfl⟩
  unfold storedF
  simp only [hx, hy, ho]
  go_enter Try.func15, Try.ntmps15
  go_upto_region 2 with (go_at_call 11; refine (value_any ⟨p, l, s, A, n, cap, body, te, tr, c, a⟩ F nAge _ (HR.out.below (by go_grown) (Nat.le_refl _))).mono ?_; rintro e w1 ⟨rfl, hB1⟩; rw [hx]; have hA1 : Below w.heap.size w w1 := Below.trans (by go_grown) (hB1.mono (by go_size)); have hs1 := hA1.size; obtain ⟨d1, f1⟩ := bcell hB1; have k1 : w.heap.size < w1.heap.size := Nat.lt_of_lt_of_le (by go_simp) hB1.size)
  go_wp2_with (first
    | (go_at_call 11; refine (value_any ⟨p, l, s, A, n, cap, body, te, tr, c, a⟩ F nVia _ (HR.out.below hA1 (Nat.le_refl _))).mono ?_; rintro e w2 ⟨rfl, hB2⟩; rw [hy]; have hA2 : Below w.heap.size w w2 := Below.trans hA1 (hB2.mono hs1); have hs2 := hA2.size; obtain ⟨d2, f2⟩ := bcell hB2; have k2 : w.heap.size < w2.heap.size := Nat.lt_of_lt_of_le k1 hB2.size)
    | (go_at_call 14; refine (own_any ⟨p, l, s, A, n, cap, body, te, tr, c, a⟩ F _ (HR.out.below hA2 (Nat.le_refl _))).mono ?_; rintro e w3 ⟨rfl, hB3⟩; rw [ho]; have hA3 : Below w.heap.size w w3 := Below.trans hA2 (hB3.mono hs2)))
  all_goals
    go_ret
    refine ⟨?_, by assumption⟩
    simp_all
end Go.Proofs.Ytdfaaihoklefmaa
