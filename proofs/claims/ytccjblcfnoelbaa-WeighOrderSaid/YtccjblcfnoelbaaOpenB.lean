/- A number that is handed in; a slice of numbers. -/
import Derived.Test.YtccjblcfnoelbaaOpen
namespace Go.Proofs.Ytccjblcfnoelbaa
open Go.ChangeShapes Go.WideShapes Go.ChangeAt Go.RowKit Go.Deep
set_option linter.unusedVariables false
theorem f64_lt {b : Nat} (h : (Lit.float .f64 b).wf = true) : b < 18446744073709551616 := by simpa [Lit.wf] using h
theorem trod_f64 {H : Type} {enc : TypeId × Value → H} {w : World} {base : Nat} {sp : Nat → Bool} {held : Bool} {fuel : Nat} {cs : List Value} {x : DataW H × List MemPlace}
    (h : DataW.trod enc Try.prog w base sp held fuel 22 cs = some x) : ∃ b : Nat, cs = [.float .f64 b] ∧ b < 18446744073709551616 := by
  have ht := Try.underlying22
  cases fuel with
  | zero => simp [DataW.trod] at h
  | succ m =>
    unfold DataW.trod at h
    rw [ht] at h
    split at h <;> simp_all
    rename_i k b
    obtain ⟨h1, h2⟩ := h
    subst_vars
    exact f64_lt (by simp_all)
theorem open_floats {H : Type} {enc : TypeId × Value → H} {w : World} {base : Nat} {r : Reach} {b0 : Nat} {v : Value} {d : DataW H} {p : List MemPlace}
    (hv : Value.okWide Try.prog w r b0 33 v) (h : DataW.Trod enc Try.prog w base (fun _ => true) true 33 v d p) :
    ∃ (n : Nat) (Z : Nat → Nat), Rowy w v n 1 (fun i _ => .float .f64 (Z i)) ∧ ∀ i, i < n → Z i < 18446744073709551616 := by
  obtain ⟨n, V, hR, hi⟩ := open_rowy (C := 1) Try.underlying33 (by kernel_rfl) (by omega) hv h
  have key : ∀ i, i < n → ∃ z : Nat, V i 0 = .float .f64 z ∧ z < 18446744073709551616 := fun i hil => by
    obtain ⟨m, x, hx⟩ := hi i hil
    obtain ⟨z, h1, h2⟩ := trod_f64 hx
    exact ⟨z, by simpa using h1, h2⟩
  obtain ⟨Z, hZ⟩ := choose_lt (α := Nat) key
  refine ⟨n, Z, ?_, fun i h => (hZ i h).2⟩
  obtain ⟨A, cap, h1, h2, h3, h4⟩ := hR
  refine ⟨A, cap, h1, h2, h3, fun hn => ?_⟩
  obtain ⟨b, off, h5, h6, h7⟩ := h4 hn
  refine ⟨b, off, h5, h6, fun i j hil hj => ?_⟩
  obtain rfl : j = 0 := by omega
  rw [h7 i 0 hil hj, (hZ i hil).1]
end Go.Proofs.Ytccjblcfnoelbaa
