/- A set that is handed in by value. -/
import Derived.Test.YtdlmocjkhkopgaaOpen
import Derived.Test.YtdlmocjkhkopgaaKit
namespace Go.Proofs.Ytdlmocjkhkopgaa
open Go.ChangeShapes Go.WideShapes Go.ChangeAt Go.RowKit
set_option linter.unusedVariables false

theorem open_set {H : Type} {enc : TypeId × Value → H} {w : World} {base : Nat} {r : Reach} {b0 : Nat} {v : Value} {d : DataW H} {p : List MemPlace} 
    (hv : Value.okWide Try.prog w r b0 23 v) (h : DataW.Trod enc Try.prog w base (fun _ => true) true 23 v d p) : ∃ x : S5, v = agg5 x := by
  obtain ⟨cs, rfl, hs⟩ := okWide_struct Try.underlying23 hv
  have hs5 : cs.size = 5 := hs.trans (by kernel_rfl)
  obtain ⟨f, hx⟩ := h
  obtain ⟨xs, m', _, _, _, hl, hf⟩ := DataW.trod_struct Try.underlying23 hx
  have e3 : Try.prog.cellsOf 3 = 1 := by kernel_rfl
  obtain ⟨L⟩ := cs
  match L, hs5 with
  | [c0, c1, c2, c3, c4], _ =>
    have hl5 : xs.length = 5 := hl
    match xs, hl5 with
    | [y0, y1, y2, y3, y4], _ =>
      have f0 : DataW.trod enc Try.prog w base (fun _ => true) true m' 3 (List.take (Try.prog.cellsOf 3) (List.drop 0 [c0, c1, c2, c3, c4])) = some y0 := hf 0 _ rfl
      rw [e3] at f0
      obtain ⟨z0, h0, -, -⟩ := DataW.trod_int Try.underlying3 f0
      have f1 : DataW.trod enc Try.prog w base (fun _ => true) true m' 3 (List.take (Try.prog.cellsOf 3) (List.drop 1 [c0, c1, c2, c3, c4])) = some y1 := hf 1 _ rfl
      rw [e3] at f1
      obtain ⟨z1, h1, -, -⟩ := DataW.trod_int Try.underlying3 f1
      have f2 : DataW.trod enc Try.prog w base (fun _ => true) true m' 3 (List.take (Try.prog.cellsOf 3) (List.drop 2 [c0, c1, c2, c3, c4])) = some y2 := hf 2 _ rfl
      rw [e3] at f2
      obtain ⟨z2, h2, -, -⟩ := DataW.trod_int Try.underlying3 f2
      have f3 : DataW.trod enc Try.prog w base (fun _ => true) true m' 3 (List.take (Try.prog.cellsOf 3) (List.drop 3 [c0, c1, c2, c3, c4])) = some y3 := hf 3 _ rfl
      rw [e3] at f3
      obtain ⟨z3, h3, -, -⟩ := DataW.trod_int Try.underlying3 f3
      have f4 : DataW.trod enc Try.prog w base (fun _ => true) true m' 3 (List.take (Try.prog.cellsOf 3) (List.drop 4 [c0, c1, c2, c3, c4])) = some y4 := hf 4 _ rfl
      rw [e3] at f4
      obtain ⟨z4, h4, -, -⟩ := DataW.trod_int Try.underlying3 f4
      obtain rfl : c0 = .int .i64 z0 := by simpa using h0
      obtain rfl : c1 = .int .i64 z1 := by simpa using h1
      obtain rfl : c2 = .int .i64 z2 := by simpa using h2
      obtain rfl : c3 = .int .i64 z3 := by simpa using h3
      obtain rfl : c4 = .int .i64 z4 := by simpa using h4
      exact ⟨⟨z0, z1, z2, z3, z4⟩, rfl⟩
end Go.Proofs.Ytdlmocjkhkopgaa
