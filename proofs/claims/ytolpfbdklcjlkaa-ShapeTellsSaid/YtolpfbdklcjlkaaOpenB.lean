/- A frame, a slice of bytes, that are handed in. -/
import Derived.Test.YtolpfbdklcjlkaaKit
import Derived.ChangeSlices
namespace Go.Proofs.Ytolpfbdklcjlkaa
open Go.ChangeShapes Go.WideShapes Go.ChangeAt Go.RowKit
set_option linter.unusedVariables false
set_option linter.unusedSimpArgs false

section
variable {H : Type} {enc : TypeId × Value → H} {w : World} {base : Nat}
theorem bytes_of {A : Option Addr} {len cap fuel : Nat} {x : DataW H × List MemPlace} (hf : DataW.trod enc Try.prog w base (fun _ => true) true fuel 22 [.slice A len cap] = some x) :
    ∃ L : List Int, BS w (.slice A len cap) L ∧ Byt L := by
  rcases Go.ChangeShapes.open_ints Try.underlying22 Try.underlying5 (by kernel_rfl) hf with ⟨hcs, _⟩ | ⟨a, len', cap', zs, hcs, hb, hl, hm, hz, hx, hc, hw⟩
  · simp at hcs
    obtain ⟨rfl, rfl, rfl⟩ := hcs
    exact ⟨[], ⟨none, 0, rfl, Nat.le_refl _, Nat.zero_le _, fun h => absurd h (Nat.lt_irrefl _)⟩, fun x hx => (List.not_mem_nil hx).elim⟩
  · simp at hcs
    obtain ⟨rfl, rfl, rfl⟩ := hcs
    simp only [if_true] at hz
    have hlen : (zs.take len).length = len := by simp; omega
    refine ⟨zs.take len, ⟨some a, cap, by rw [hlen], by omega, hm, fun hn => ?_⟩, fun x hx => bounds_u8 (hw x (List.mem_of_mem_take hx))⟩
    have hc0 := hc 0 (by omega)
    obtain ⟨b, off, spot⟩ := a
    have hspot : spot = none := by simpa using World.cell?_spot (by simpa [Addr.add] using hc0)
    subst hspot
    refine ⟨b, off, rfl, ?_, fun i j hi hj => ?_⟩
    · rcases Nat.lt_or_ge b w.heap.size with h | h
      · exact h
      · simp [World.cell?, Addr.add, Array.getElem?_eq_none h] at hc0
    · obtain rfl : j = 0 := by omega
      have := hc i (by omega)
      rw [add_plain] at this
      rw [show off + (i * 1 + 0) = off + i by omega, this]
      show some (Value.int .u8 (zs.getD i 0)) = some (Value.int .u8 ((zs.take len).getD i 0))
      rw [List.getD_eq_getElem?_getD, List.getD_eq_getElem?_getD, List.getElem?_take_of_lt (by omega)]
theorem open_bytes {r : Reach} {b0 : Nat} {v : Value} {d : DataW H} {p : List MemPlace}
    (hv : Value.okWide Try.prog w r b0 22 v) (h : DataW.Trod enc Try.prog w base (fun _ => true) true 22 v d p) :
    ∃ (A : Option Addr) (n cap : Nat) (L : List Int), v = .slice A n cap ∧ BS w (.slice A n cap) L ∧ Byt L := by
  obtain ⟨A, len, cap, rfl⟩ := okWide_slice Try.underlying22 hv
  obtain ⟨fuel, hf⟩ := h
  obtain ⟨L, h1, h2⟩ := bytes_of hf
  exact ⟨A, len, cap, L, rfl, h1, h2⟩
theorem ec3 : Try.prog.cellsOf 3 = 1 := by kernel_rfl
theorem ec22 : Try.prog.cellsOf 22 = 1 := by kernel_rfl
theorem trod_slice1 {fuel : Nat} {c : Value} {x : DataW H × List MemPlace} (h : DataW.trod enc Try.prog w base (fun _ => true) true fuel 22 [c] = some x) : ∃ A n cap, c = .slice A n cap := by
  rcases Go.Deep.open_slice Try.underlying22 h with ⟨hcs, _⟩ | ⟨a, len', cap', m, n, D, Pl, hcs, _⟩
  · simp at hcs; exact ⟨_, _, _, hcs⟩
  · simp at hcs; exact ⟨_, _, _, hcs⟩
theorem open_frame {r : Reach} {b0 : Nat} {v : Value} {d : DataW H} {p : List MemPlace}
    (hv : Value.okWide Try.prog w r b0 32 v) (h : DataW.Trod enc Try.prog w base (fun _ => true) true 32 v d p) :
    ∃ (ty fl st : Int) (A : Option Addr) (n cap : Nat) (L : List Int), v = .agg #[.int .i64 ty, .int .i64 fl, .int .i64 st, .slice A n cap] ∧ BS w (.slice A n cap) L ∧ Byt L := by
  obtain ⟨cs, rfl, hs⟩ := okWide_struct Try.underlying32 hv
  have hs4 : cs.toList.length = 4 := by rw [Array.length_toList]; exact hs.trans (by kernel_rfl)
  obtain ⟨f, hx⟩ := h
  obtain ⟨xs, m', _, _, _, hl, hf⟩ := DataW.trod_struct Try.underlying32 hx
  have hl4 : xs.length = 4 := hl
  obtain ⟨cs⟩ := cs
  match cs, hs4 with
  | [c0, c1, c2, c3], _ =>
    match xs, hl4 with
    | [y0, y1, y2, y3], _ =>
      have f0 : DataW.trod enc Try.prog w base (fun _ => true) true m' 3 (List.take (Try.prog.cellsOf 3) (List.drop 0 [c0, c1, c2, c3])) = some y0 := hf 0 _ rfl
      have f1 : DataW.trod enc Try.prog w base (fun _ => true) true m' 3 (List.take (Try.prog.cellsOf 3) (List.drop 1 [c0, c1, c2, c3])) = some y1 := hf 1 _ rfl
      have f2 : DataW.trod enc Try.prog w base (fun _ => true) true m' 3 (List.take (Try.prog.cellsOf 3) (List.drop 2 [c0, c1, c2, c3])) = some y2 := hf 2 _ rfl
      have f3 : DataW.trod enc Try.prog w base (fun _ => true) true m' 22 (List.take (Try.prog.cellsOf 22) (List.drop 3 [c0, c1, c2, c3])) = some y3 := hf 3 _ rfl
      rw [ec3] at f0 f1 f2
      rw [ec22] at f3
      obtain ⟨z0, h0, -, -⟩ := DataW.trod_int Try.underlying3 f0
      obtain ⟨z1, h1, -, -⟩ := DataW.trod_int Try.underlying3 f1
      obtain ⟨z2, h2, -, -⟩ := DataW.trod_int Try.underlying3 f2
      obtain rfl : c0 = .int .i64 z0 := by simpa using h0
      obtain rfl : c1 = .int .i64 z1 := by simpa using h1
      obtain rfl : c2 = .int .i64 z2 := by simpa using h2
      have f3' : DataW.trod enc Try.prog w base (fun _ => true) true m' 22 [c3] = some y3 := f3
      obtain ⟨A, n, cap, rfl⟩ := trod_slice1 f3'
      obtain ⟨L, hL1, hL2⟩ := bytes_of f3'
      exact ⟨z0, z1, z2, A, n, cap, L, rfl, hL1, hL2⟩
end
end Go.Proofs.Ytolpfbdklcjlkaa
