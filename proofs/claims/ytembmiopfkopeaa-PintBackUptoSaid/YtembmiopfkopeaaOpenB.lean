/- A slice of bytes that is handed in. -/
import Derived.Test.YtembmiopfkopeaaMem
import Derived.ChangeSlices
import Derived.SizedLaws
namespace Go.Proofs.Ytembmiopfkopeaa
open Go.ChangeShapes Go.WideShapes Go.ChangeAt Go.RowKit
set_option linter.unusedVariables false
theorem open_bytes {H : Type} {enc : TypeId × Value → H} {w : World} {base : Nat} {r : Reach} {b0 : Nat} {v : Value} {d : DataW H} {p : List MemPlace}
    (hv : Value.okWide Try.prog w r b0 23 v) (h : DataW.Trod enc Try.prog w base (fun _ => true) true 23 v d p) :
    ∃ L : List Int, BS w v L ∧ Byt L ∧ (L = [] ∨ ∃ elems spare, d = .slice elems spare ∧ elems.length = L.length) := by
  obtain ⟨A, len, cap, rfl⟩ := okWide_slice Try.underlying23 hv
  obtain ⟨fuel, hf⟩ := h
  rcases Go.ChangeShapes.open_ints Try.underlying23 Try.underlying5 (by kernel_rfl) hf with ⟨hcs, _⟩ | ⟨a, len', cap', zs, hcs, hb, hl, hm, hz, hx, hc, hw⟩
  · simp [Value.cells] at hcs
    obtain ⟨rfl, rfl, rfl⟩ := hcs
    exact ⟨[], ⟨none, 0, rfl, Nat.le_refl _, Nat.zero_le _, fun h => absurd h (Nat.lt_irrefl _)⟩, fun x hx => (List.not_mem_nil hx).elim, .inl rfl⟩
  · simp [Value.cells] at hcs
    obtain ⟨rfl, rfl, rfl⟩ := hcs
    simp only [if_true] at hz
    have hlen : (zs.take len).length = len := by simp; omega
    refine ⟨zs.take len, ⟨some a, cap, by rw [hlen], by omega, hm, fun hn => ?_⟩, fun x hx => bounds_u8 (hw x (List.mem_of_mem_take hx)), .inr ⟨_, _, by rw [Prod.mk.injEq] at hx; exact hx.1, by simp [lits]⟩⟩
    have hc0 := hc 0 (by omega)
    obtain ⟨b, off, spot⟩ := a
    have hspot : spot = none := by simpa using World.cell?_spot (by simpa [Addr.add] using hc0)
    subst hspot
    refine ⟨b, off, rfl, ?_, fun i j hi hj => ?_⟩
    · rcases Nat.lt_or_ge b w.heap.size with h | h
      · exact h
      · simp [World.cell?, Addr.add, Array.getElem?_eq_none h] at hc0
    · obtain rfl : j = 0 := by omega
      have := hc i (by omega)
      rw [add_plain] at this
      rw [show off + (i * 1 + 0) = off + i by omega, this]
      show some (Value.int .u8 (zs.getD i 0)) = some (Value.int .u8 ((zs.take len).getD i 0))
      rw [List.getD_eq_getElem?_getD, List.getD_eq_getElem?_getD, List.getElem?_take_of_lt (by omega)]
theorem len_le {H : Type} {P : Program} {ts : List TypeId} {ds : List (DataW H)} (h : (DataW.weightsEach P ts ds).all (· ≤ reachBytes) = true) {j : Nat} {t e : TypeId} {L : List Int} {d : DataW H}
    (ht : ts[j]? = some t) (hd : ds[j]? = some d) (hu : P.underlying t = some (.slice e)) (hb : P.bytesOf e = 1) (hL : L = [] ∨ ∃ elems spare, d = .slice elems spare ∧ elems.length = L.length) : L.length ≤ 140737488351232 := by
  rcases hL with rfl | ⟨elems, spare, rfl, hl⟩
  · simp
  · have := sized_slice h ht hd hu
    rw [hb, Nat.mul_one] at this
    have hr : reachBytes = 140737488351232 := by decide
    omega
end Go.Proofs.Ytembmiopfkopeaa
