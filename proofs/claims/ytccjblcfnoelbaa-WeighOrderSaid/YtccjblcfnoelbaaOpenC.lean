/- Three whole numbers in an array. -/
import Derived.Test.YtccjblcfnoelbaaOpenB
import Derived.WideKeyArr2
import Derived.Laws.IdiomArrays
namespace Go.Proofs.Ytccjblcfnoelbaa
open Go.ChangeShapes Go.WideShapes Go.ChangeAt Go.RowKit Go.Deep
set_option linter.unusedVariables false
theorem open_three {H : Type} {enc : TypeId × Value → H} {w : World} {base : Nat} {r : Reach} {b0 : Nat} {v : Value} {d : DataW H} {p : List MemPlace}
    (hv : Value.okWide Try.prog w r b0 37 v) (h : DataW.Trod enc Try.prog w base (fun _ => true) true 37 v d p) :
    ∃ a b c : Int, v = .agg #[.int .i64 a, .int .i64 b, .int .i64 c] := by
  have hu : Try.prog.underlying 37 = some (.array 3 3) := Try.underlying37
  obtain ⟨cs, rfl, hs⟩ : ∃ cs : Array Value, v = .agg cs ∧ cs.size = 3 := by
    simp only [Value.okWide, hu] at hv
    obtain ⟨cs, h1, h2, _⟩ := hv
    exact ⟨cs, h1, by rw [h2]; kernel_rfl⟩
  obtain ⟨f, hx⟩ := h
  obtain ⟨xs, m, _, _, _, hl, hf⟩ := DataW.trod_array hu hx
  have e3 : Try.prog.cellsOf 3 = 1 := by kernel_rfl
  obtain ⟨L⟩ := cs
  match L, hs with
  | [c0, c1, c2], _ =>
    match xs, hl with
    | [y0, y1, y2], _ =>
      have f0 := hf 0 (by omega)
      have f1 := hf 1 (by omega)
      have f2 := hf 2 (by omega)
      rw [e3] at f0 f1 f2
      have f0 : DataW.trod enc Try.prog w base (fun _ => true) true m 3 [c0] = some y0 := f0
      have f1 : DataW.trod enc Try.prog w base (fun _ => true) true m 3 [c1] = some y1 := f1
      have f2 : DataW.trod enc Try.prog w base (fun _ => true) true m 3 [c2] = some y2 := f2
      obtain ⟨z0, h0, -, -⟩ := DataW.trod_int Try.underlying3 f0
      obtain ⟨z1, h1, -, -⟩ := DataW.trod_int Try.underlying3 f1
      obtain ⟨z2, h2, -, -⟩ := DataW.trod_int Try.underlying3 f2
      cases h0
      cases h1
      cases h2
      exact ⟨z0, z1, z2, rfl⟩
end Go.Proofs.Ytccjblcfnoelbaa
