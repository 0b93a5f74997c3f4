/- Package ledger: Value. -/
import Derived.Test.YtdfaaihoklefmaaMisc
import Derived.Test.YtdfaaihoklefmaaOpen
import Derived.ChangeMaps5
namespace Go.Proofs.Ytdfaaihoklefmaa
open Go.ChangeShapes Go.WideShapes Go.ChangeAt Go.RowKit
set_option linter.unusedVariables false
set_option linter.unusedSimpArgs false

/-- A talk: its cells, but for the fields' address. -/
structure Talk where
  p : Int
  l : Int
  s : Int
  A : Option Addr
  n : Nat
  cap : Nat
  body : ByteArray
  e : Bool
  r : Bool
  c : Int
  a : Int
abbrev Talk.cells (t : Talk) : Array Value := #[.int .i64 t.p, .int .i64 t.l, .int .i64 t.s, .slice t.A t.n t.cap, .string t.body, .bool t.e, .bool t.r, .int .i64 t.c, .int .i64 t.a]
abbrev Talk.val (t : Talk) : Value := .agg t.cells
/-- The fields' texts. -/
def FV (F : Nat → ByteArray × ByteArray) : Nat → Nat → Value := fun i j => if j = 0 then .string (F i).1 else .string (F i).2
def fv (F : Nat → ByteArray × ByteArray) (name : ByteArray) : Nat → Nat → Option ByteArray
  | 0, _ => none
  | f + 1, i => if (F i).1 = name then some (F i).2 else fv F name f (i + 1)
def fst (o : Option ByteArray) : ByteArray := o.getD ⟨#[]⟩
set_option maxHeartbeats 1000000 in
set_option maxRecDepth 100000 in
theorem value_any (t : Talk) (F : Nat → ByteArray × ByteArray) (name : ByteArray) (w : World) (hR : Rowy w (.slice t.A t.n t.cap) t.n 2 (FV F)) :
    Calls Try.prog 11 #[t.val, .string name] w fun e w' => e = .returned (.tuple #[.string (fst (fv F name t.n 0)), .bool (fv F name t.n 0).isSome]) ∧ Below w.heap.size w w' := by
  obtain ⟨p, l, s, A, n, cap, body, te, tr, c, a⟩ := t
  obtain ⟨A', cap', he, hlc, hcm, hcell⟩ := hR
  cases he
  have HC := Lib.hid hcell
  clear hcell
  unfold maxLen at hcm
  generalize hres : fv F name n 0 = res
  go_enter Try.func11, Try.ntmps11
  go_wp2_with fail
  go_loopw [11] (fun s11 wr => ∃ i : Nat, s11 = .int .i64 i ∧ i ≤ n ∧ fv F name (n - i) i = res ∧ Below w.heap.size w wr) (fun s11 _ => n - (intOf s11).toNat)
  case atStart => exact ⟨0, rfl, Nat.zero_le _, hres, by go_grown⟩
  case round =>
    obtain ⟨i, rfl, hi, hg, hB⟩ := hrel
    have hwr := hB.size
    by_cases hlt : i < n
    · obtain ⟨b, off, rfl, gb, q⟩ := HC.out (by omega)
      have e1 : wr.cell? ⟨b, off + i * 2, none⟩ = some (.string (F i).1) := by rw [hB.cell (p := ⟨b, _, none⟩) gb]; simpa [FV] using q i 0 hlt (by omega)
      have e2 : wr.cell? ⟨b, off + i * 2 + 1, none⟩ = some (.string (F i).2) := by rw [hB.cell (p := ⟨b, _, none⟩) gb]; simpa [FV, Nat.add_assoc] using q i 1 hlt (by omega)
      have hki : (i : Int) < (n : Int) := by omega
      have hk0 : 0 ≤ (i : Int) := by omega
      have hb1 : b < wr.heap.size := by omega
      obtain ⟨f, hf⟩ : ∃ f, n - i = f + 1 := ⟨n - i - 1, by omega⟩
      rw [hf, fv] at hg
      clear q
      generalize (F i).1 = x at *
      generalize (F i).2 = y at *
      by_cases hx : x = name
      · rw [if_pos hx] at hg
        subst hg
        have hx' : (x.toList == name.toList) = true := by subst hx; simp
        go_wp2_with fail
        go_returns
        exact ⟨rfl, by go_grown⟩
      · rw [if_neg hx] at hg
        have hx' : (x.toList == name.toList) = false := by
          rw [ByteArray.toList_eq, ByteArray.toList_eq]
          simp
          rintro h
          apply hx
          obtain ⟨dx⟩ := x
          obtain ⟨dn⟩ := name
          simp at h
          rw [h]
        go_wp2_with fail
        go_roundw
        case rel => exact ⟨i + 1, by go_num, by omega, by rw [show n - (i + 1) = f by omega]; exact hg, by go_grown⟩
        case measure => simp [intOf]; omega
    · obtain rfl : i = n := by omega
      rw [Nat.sub_self, fv] at hg
      subst hg
      go_wp2_with fail
      go_returns
      exact ⟨rfl, hB⟩
end Go.Proofs.Ytdfaaihoklefmaa
