/- A talk, talks, that are handed in. -/
import Derived.Test.YtdfaaihoklefmaaLight
namespace Go.Proofs.Ytdfaaihoklefmaa
open Go.ChangeShapes Go.WideShapes Go.ChangeAt Go.RowKit Go.Deep
set_option linter.unusedVariables false
set_option linter.unusedSimpArgs false

section
variable {H : Type} {enc : TypeId × Value → H} {P : Program} {w : World} {base : Nat}
theorem trod_rowy {t e : TypeId} {C fuel : Nat} {c : Value} {x : DataW H × List MemPlace} (ht : P.underlying t = some (.slice e)) (hC : P.cellsOf e = C) (hC0 : 0 < C)
    (hf : DataW.trod enc P w base (fun _ => true) true fuel t [c] = some x) :
    ∃ (A : Option Addr) (n cap : Nat) (V : Nat → Nat → Value), c = .slice A n cap ∧ Rowy w c n C V ∧ ∀ i, i < n → ∃ (m : Nat) (x : DataW H × List MemPlace), DataW.trod enc P w base (fun _ => true) true m e ((List.range C).map (V i)) = some x := by
  rcases open_slice ht hf with ⟨hcs, _⟩ | ⟨a, len, cap, m, n, D, Pl, hcs, hb, hl, hm, hmm, hx, hi⟩
  · simp at hcs
    subst hcs
    exact ⟨none, 0, 0, fun _ _ => undef, rfl, ⟨none, 0, rfl, Nat.le_refl _, Nat.zero_le _, fun h => absurd h (Nat.lt_irrefl _)⟩, fun i hi => absurd hi (Nat.not_lt_zero _)⟩
  · simp at hcs
    subst hcs
    simp only [if_true] at hmm
    rw [hC] at hi
    have key : ∀ i, i < len → ∃ L : List Value, L.length = C ∧ (∀ j, j < C → w.cell? ((a.add (i * C)).add j) = L[j]?) ∧ ∃ m x, DataW.trod enc P w base (fun _ => true) true m e L = some x := fun i hil => by
      obtain ⟨cs', h1, h2⟩ := hi i (by omega)
      obtain ⟨_, h3, h4⟩ := World.cells?_some h1
      exact ⟨cs', h3, h4, n, _, h2⟩
    obtain ⟨L, hL⟩ := choose_lt (α := List Value) key
    refine ⟨_, len, _, fun i j => (L i).getD j undef, rfl, ⟨some a, _, rfl, hl, hm, fun hn => ?_⟩, fun i hil => ?_⟩
    · have hc0 : w.cell? a = (L 0)[0]? := by
        have := (hL 0 hn).2.1 0 hC0
        simpa [Addr.add] using this
      have hlen := (hL 0 hn).1
      rw [List.getElem?_eq_getElem (by omega)] at hc0
      obtain ⟨b, off, spot⟩ := a
      have hspot : spot = none := by simpa using World.cell?_spot hc0
      subst hspot
      refine ⟨b, off, rfl, ?_, fun i j hil hjC => ?_⟩
      · rcases Nat.lt_or_ge b w.heap.size with h | h
        · exact h
        · simp [World.cell?, Array.getElem?_eq_none h] at hc0
      · have := (hL i hil).2.1 j hjC
        rw [add_add, add_plain] at this
        rw [this, List.getElem?_eq_getElem (by rw [(hL i hil).1]; exact hjC)]
        simp [List.getD, List.getElem?_eq_getElem (show j < (L i).length by rw [(hL i hil).1]; exact hjC)]
    · obtain ⟨h1, _, m, x, h3⟩ := hL i hil
      refine ⟨m, x, ?_⟩
      have e1 : (List.range C).map (fun j => (L i).getD j undef) = L i := by
        apply List.ext_getElem?
        intro j
        by_cases hj : j < C
        · simp [hj, List.getD, List.getElem?_eq_getElem (show j < (L i).length by omega)]
        · simp [hj, show (L i).length ≤ j by omega]
      rw [e1]
      exact h3

end
section
variable {H : Type} {enc : TypeId × Value → H} {w : World} {base : Nat}
theorem e9 : Try.prog.cellsOf 9 = 1 := by kernel_rfl
theorem e3 : Try.prog.cellsOf 3 = 1 := by kernel_rfl
theorem e4 : Try.prog.cellsOf 4 = 1 := by kernel_rfl
theorem e25 : Try.prog.cellsOf 25 = 1 := by kernel_rfl
theorem e27 : Try.prog.cellsOf 27 = 1 := by kernel_rfl
theorem trod_fields {fuel : Nat} {c : Value} {x : DataW H × List MemPlace} (h : DataW.trod enc Try.prog w base (fun _ => true) true fuel 25 [c] = some x) :
    ∃ (A : Option Addr) (n cap : Nat) (F : Nat → ByteArray × ByteArray), c = .slice A n cap ∧ Rowy w (.slice A n cap) n 2 (FV F) := by
  obtain ⟨A, n, cap, V, rfl, hR, hi⟩ := trod_rowy (C := 2) Try.underlying25 (by kernel_rfl) (by omega) h
  have key : ∀ i, i < n → ∃ z : ByteArray × ByteArray, V i 0 = .string z.1 ∧ V i 1 = .string z.2 := fun i hil => by
    obtain ⟨m, x, hx⟩ := hi i hil
    obtain ⟨xs, m', _, _, _, hl, hf⟩ := DataW.trod_struct Try.underlying35 hx
    have hl2 : xs.length = 2 := hl
    match xs, hl2 with
    | [y0, y1], _ =>
      have f0 : DataW.trod enc Try.prog w base (fun _ => true) true m' 9 (List.take (Try.prog.cellsOf 9) (List.drop 0 [V i 0, V i 1])) = some y0 := hf 0 _ rfl
      have f1 : DataW.trod enc Try.prog w base (fun _ => true) true m' 9 (List.take (Try.prog.cellsOf 9) (List.drop 1 [V i 0, V i 1])) = some y1 := hf 1 _ rfl
      rw [e9] at f0 f1
      obtain ⟨z0, h0, -, -⟩ := DataW.trod_string Try.underlying9 f0
      obtain ⟨z1, h1, -, -⟩ := DataW.trod_string Try.underlying9 f1
      exact ⟨(z0, z1), by simpa using h0, by simpa using h1⟩
  obtain ⟨F, hF⟩ := choose_lt (α := ByteArray × ByteArray) key
  refine ⟨A, n, cap, F, rfl, ?_⟩
  obtain ⟨A', cap', h1, h2, h3, h4⟩ := hR
  refine ⟨A', cap', h1, h2, h3, fun hn => ?_⟩
  obtain ⟨b, off, h5, h6, h7⟩ := h4 hn
  refine ⟨b, off, h5, h6, fun i j hil hj => ?_⟩
  rw [h7 i j hil hj]
  obtain ⟨q0, q1⟩ := hF i hil
  match j, hj with
  | 0, _ => rw [q0]; rfl
  | 1, _ => rw [q1]; rfl
set_option maxHeartbeats 1000000 in
theorem trod_talk {fuel : Nat} {L : List Value} {x : DataW H × List MemPlace} (hL : L.length = 9) (h : DataW.trod enc Try.prog w base (fun _ => true) true fuel 29 L = some x) :
    ∃ (t : Talk) (F : Nat → ByteArray × ByteArray), L = t.cells.toList ∧ Tok w t F := by
  obtain ⟨xs, m', _, _, _, hl, hf⟩ := DataW.trod_struct Try.underlying29 h
  have hl9 : xs.length = 9 := hl
  match L, hL with
  | [c0, c1, c2, c3, c4, c5, c6, c7, c8], _ =>
    match xs, hl9 with
    | [y0, y1, y2, y3, y4, y5, y6, y7, y8], _ =>
      have f0 : DataW.trod enc Try.prog w base (fun _ => true) true m' 3 (List.take (Try.prog.cellsOf 3) (List.drop 0 [c0, c1, c2, c3, c4, c5, c6, c7, c8])) = some y0 := hf 0 _ rfl
      rw [e3] at f0
      have f1 : DataW.trod enc Try.prog w base (fun _ => true) true m' 3 (List.take (Try.prog.cellsOf 3) (List.drop 1 [c0, c1, c2, c3, c4, c5, c6, c7, c8])) = some y1 := hf 1 _ rfl
      rw [e3] at f1
      have f2 : DataW.trod enc Try.prog w base (fun _ => true) true m' 3 (List.take (Try.prog.cellsOf 3) (List.drop 2 [c0, c1, c2, c3, c4, c5, c6, c7, c8])) = some y2 := hf 2 _ rfl
      rw [e3] at f2
      have f3 : DataW.trod enc Try.prog w base (fun _ => true) true m' 25 (List.take (Try.prog.cellsOf 25) (List.drop 3 [c0, c1, c2, c3, c4, c5, c6, c7, c8])) = some y3 := hf 3 _ rfl
      rw [e25] at f3
      have f4 : DataW.trod enc Try.prog w base (fun _ => true) true m' 9 (List.take (Try.prog.cellsOf 9) (List.drop 4 [c0, c1, c2, c3, c4, c5, c6, c7, c8])) = some y4 := hf 4 _ rfl
      rw [e9] at f4
      have f5 : DataW.trod enc Try.prog w base (fun _ => true) true m' 4 (List.take (Try.prog.cellsOf 4) (List.drop 5 [c0, c1, c2, c3, c4, c5, c6, c7, c8])) = some y5 := hf 5 _ rfl
      rw [e4] at f5
      have f6 : DataW.trod enc Try.prog w base (fun _ => true) true m' 4 (List.take (Try.prog.cellsOf 4) (List.drop 6 [c0, c1, c2, c3, c4, c5, c6, c7, c8])) = some y6 := hf 6 _ rfl
      rw [e4] at f6
      have f7 : DataW.trod enc Try.prog w base (fun _ => true) true m' 27 (List.take (Try.prog.cellsOf 27) (List.drop 7 [c0, c1, c2, c3, c4, c5, c6, c7, c8])) = some y7 := hf 7 _ rfl
      rw [e27] at f7
      have f8 : DataW.trod enc Try.prog w base (fun _ => true) true m' 3 (List.take (Try.prog.cellsOf 3) (List.drop 8 [c0, c1, c2, c3, c4, c5, c6, c7, c8])) = some y8 := hf 8 _ rfl
      rw [e3] at f8
      obtain ⟨z0, h0, -, -⟩ := DataW.trod_int Try.underlying3 f0
      obtain rfl : c0 = .int .i64 z0 := by simpa using h0
      obtain ⟨z1, h1, -, -⟩ := DataW.trod_int Try.underlying3 f1
      obtain rfl : c1 = .int .i64 z1 := by simpa using h1
      obtain ⟨z2, h2, -, -⟩ := DataW.trod_int Try.underlying3 f2
      obtain rfl : c2 = .int .i64 z2 := by simpa using h2
      obtain ⟨A, n, cap, F, rfl, hR⟩ := trod_fields (show DataW.trod enc Try.prog w base (fun _ => true) true m' 25 [c3] = some y3 from f3)
      obtain ⟨z4, h4, -, -⟩ := DataW.trod_string Try.underlying9 f4
      obtain rfl : c4 = .string z4 := by simpa using h4
      obtain ⟨z5, h5, -⟩ := DataW.trod_bool Try.underlying4 f5
      obtain rfl : c5 = .bool z5 := by simpa using h5
      obtain ⟨z6, h6, -⟩ := DataW.trod_bool Try.underlying4 f6
      obtain rfl : c6 = .bool z6 := by simpa using h6
      obtain ⟨z7, h7, -, -⟩ := DataW.trod_int Try.underlying27 f7
      obtain rfl : c7 = .int .i64 z7 := by simpa using h7
      obtain ⟨z8, h8, -, -⟩ := DataW.trod_int Try.underlying3 f8
      obtain rfl : c8 = .int .i64 z8 := by simpa using h8
      exact ⟨⟨z0, z1, z2, A, n, cap, z4, z5, z6, z7, z8⟩, F, rfl, hR⟩
theorem open_talk {r : Reach} {b0 : Nat} {v : Value} {d : DataW H} {p : List MemPlace}
    (hv : Value.okWide Try.prog w r b0 29 v) (h : DataW.Trod enc Try.prog w base (fun _ => true) true 29 v d p) :
    ∃ (t : Talk) (F : Nat → ByteArray × ByteArray), v = t.val ∧ Tok w t F := by
  obtain ⟨cs, rfl, hs⟩ := okWide_struct Try.underlying29 hv
  have hs9 : cs.toList.length = 9 := by rw [Array.length_toList]; exact hs.trans (by kernel_rfl)
  obtain ⟨f, hx⟩ := h
  obtain ⟨t, F, h1, h2⟩ := trod_talk hs9 hx
  refine ⟨t, F, ?_, h2⟩
  have : cs = t.cells := Array.toList_inj.1 h1
  rw [this]
theorem open_talks {r : Reach} {b0 : Nat} {v : Value} {d : DataW H} {p : List MemPlace}
    (hv : Value.okWide Try.prog w r b0 30 v) (h : DataW.Trod enc Try.prog w base (fun _ => true) true 30 v d p) :
    ∃ (A : Option Addr) (n cap : Nat) (T : Nat → Talk) (F : Nat → Nat → ByteArray × ByteArray), v = .slice A n cap ∧ Rowy w (.slice A n cap) n 9 (TV T) ∧ ∀ i, i < n → Tok w (T i) (F i) := by
  obtain ⟨n, V, hR, hi⟩ := open_rowy (C := 9) Try.underlying30 (by kernel_rfl) (by omega) hv h
  have key : ∀ i, i < n → ∃ z : Talk × (Nat → ByteArray × ByteArray), (List.range 9).map (V i) = z.1.cells.toList ∧ Tok w z.1 z.2 := fun i hil => by
    obtain ⟨m, x, hx⟩ := hi i hil
    obtain ⟨t, F, h1, h2⟩ := trod_talk (by simp) hx
    exact ⟨(t, F), h1, h2⟩
  haveI : Inhabited Talk := ⟨⟨0, 0, 0, none, 0, 0, ⟨#[]⟩, false, false, 0, 0⟩⟩
  obtain ⟨Z, hZ⟩ := choose_lt (α := Talk × (Nat → ByteArray × ByteArray)) key
  obtain ⟨A, cap, rfl, h2, h3, h4⟩ := hR
  refine ⟨A, n, cap, fun i => (Z i).1, fun i => (Z i).2, rfl, ⟨A, cap, rfl, h2, h3, fun hn => ?_⟩, fun i h => (hZ i h).2⟩
  obtain ⟨b, off, h5, h6, h7⟩ := h4 hn
  refine ⟨b, off, h5, h6, fun i j hil hj => ?_⟩
  rw [h7 i j hil hj]
  have e := congrArg (fun l => l.getD j undef) (hZ i hil).1
  simp [hj] at e
  rw [e]
  unfold TV
  rw [Array.getD_eq_getD_getElem?]
  rcases (show j = 0 ∨ j = 1 ∨ j = 2 ∨ j = 3 ∨ j = 4 ∨ j = 5 ∨ j = 6 ∨ j = 7 ∨ j = 8 by omega) with rfl | rfl | rfl | rfl | rfl | rfl | rfl | rfl | rfl <;> rfl
end
end Go.Proofs.Ytdfaaihoklefmaa
