/- An argument that is a slice, opened at every index: the cells of each element, and the element's own reading. -/
import Derived.Test.YtfkkhnceffhilaaFrame
import Derived.Deep.Slices
namespace Go.Proofs.Ytfkkhnceffhilaa
open Go.ChangeShapes Go.WideShapes Go.ChangeAt Go.RowKit Go.Deep

/-- The value v is a slice of n elements of C cells; cell j of element i holds V i j. -/
def Rowy (w : World) (v : Value) (n C : Nat) (V : Nat → Nat → Value) : Prop :=
  ∃ (A : Option Addr) (cap : Nat), v = .slice A n cap ∧ n ≤ cap ∧ cap ≤ maxLen ∧
    (0 < n → ∃ b off, A = some ⟨b, off, none⟩ ∧ b < w.heap.size ∧ ∀ i j, i < n → j < C → w.cell? ⟨b, off + (i * C + j), none⟩ = some (V i j))

section
variable {H : Type} {enc : TypeId × Value → H} {P : Program} {w : World} {base : Nat}
theorem open_rowy {r : Reach} {b0 : Nat} {t e : TypeId} {C : Nat} {v : Value} {d : DataW H} {p : List MemPlace} (ht : P.underlying t = some (.slice e)) (hC : P.cellsOf e = C) (hC0 : 0 < C)
    (hv : Value.okWide P w r b0 t v) (h : DataW.Trod enc P w base (fun _ => true) true t v d p) :
    ∃ (n : Nat) (V : Nat → Nat → Value), Rowy w v n C V ∧ ∀ i, i < n → ∃ (m : Nat) (x : DataW H × List MemPlace), DataW.trod enc P w base (fun _ => true) true m e ((List.range C).map (V i)) = some x := by
  obtain ⟨A, len, cap, rfl⟩ := okWide_slice ht hv
  obtain ⟨fuel, hf⟩ := h
  rcases open_slice ht hf with ⟨hcs, _⟩ | ⟨a, len', cap', m, n, D, Pl, hcs, hb, hl, hm, hmm, hx, hi⟩
  · simp [Value.cells] at hcs
    obtain ⟨rfl, rfl, rfl⟩ := hcs
    exact ⟨0, fun _ _ => undef, ⟨none, 0, rfl, Nat.le_refl _, Nat.zero_le _, fun h => absurd h (Nat.lt_irrefl _)⟩, fun i hi => absurd hi (Nat.not_lt_zero _)⟩
  · simp [Value.cells] at hcs
    obtain ⟨rfl, rfl, rfl⟩ := hcs
    simp only [if_true] at hmm
    rw [hC] at hi
    have key : ∀ i, i < len → ∃ L : List Value, L.length = C ∧ (∀ j, j < C → w.cell? ((a.add (i * C)).add j) = L[j]?) ∧ ∃ m x, DataW.trod enc P w base (fun _ => true) true m e L = some x := fun i hil => by
      obtain ⟨cs', h1, h2⟩ := hi i (by omega)
      obtain ⟨_, h3, h4⟩ := World.cells?_some h1
      exact ⟨cs', h3, h4, n, _, h2⟩
    obtain ⟨L, hL⟩ := choose_lt (α := List Value) key
    refine ⟨len, fun i j => (L i).getD j undef, ⟨some a, _, rfl, hl, hm, fun hn => ?_⟩, fun i hil => ?_⟩
    · have hc0 : w.cell? a = (L 0)[0]? := by
        have := (hL 0 hn).2.1 0 hC0
        simpa [Addr.add] using this
      have hlen := (hL 0 hn).1
      rw [List.getElem?_eq_getElem (by omega)] at hc0
      obtain ⟨b, off, spot⟩ := a
      have hspot : spot = none := by simpa using World.cell?_spot hc0
      subst hspot
      refine ⟨b, off, rfl, ?_, fun i j hil hjC => ?_⟩
      · rcases Nat.lt_or_ge b w.heap.size with h | h
        · exact h
        · simp [World.cell?, Array.getElem?_eq_none h] at hc0
      · have := (hL i hil).2.1 j hjC
        rw [add_add, add_plain] at this
        rw [this, List.getElem?_eq_getElem (by rw [(hL i hil).1]; exact hjC)]
        simp [List.getD, List.getElem?_eq_getElem (show j < (L i).length by rw [(hL i hil).1]; exact hjC)]
    · obtain ⟨h1, _, m, x, h3⟩ := hL i hil
      refine ⟨m, x, ?_⟩
      have e1 : (List.range C).map (fun j => (L i).getD j undef) = L i := by
        apply List.ext_getElem?
        intro j
        by_cases hj : j < C
        · simp [hj, List.getD, List.getElem?_eq_getElem (show j < (L i).length by omega)]
        · simp [hj, show (L i).length ≤ j by omega]
      rw [e1]
      exact h3

theorem wf64 {n : Int} (h : (Lit.int .i64 n).wf = true) : -9223372036854775808 ≤ n ∧ n ≤ 9223372036854775807 := bounds_i64 h

/-- A slice of int. -/
theorem open_ints64 {r : Reach} {b0 : Nat} {t e : TypeId} {v : Value} {d : DataW H} {p : List MemPlace} (ht : P.underlying t = some (.slice e)) (he : P.underlying e = some (.int .i64)) (hC : P.cellsOf e = 1)
    (hv : Value.okWide P w r b0 t v) (h : DataW.Trod enc P w base (fun _ => true) true t v d p) :
    ∃ (n : Nat) (Z : Nat → Int), Rowy w v n 1 (fun i _ => .int .i64 (Z i)) ∧ ∀ i, -9223372036854775808 ≤ Z i ∧ Z i ≤ 9223372036854775807 := by
  obtain ⟨n, V, hR, hi⟩ := open_rowy ht hC (by omega) hv h
  have key : ∀ i, i < n → ∃ z : Int, V i 0 = .int .i64 z ∧ -9223372036854775808 ≤ z ∧ z ≤ 9223372036854775807 := fun i hil => by
    obtain ⟨m, x, hx⟩ := hi i hil
    obtain ⟨z, h1, _, h3⟩ := DataW.trod_int he hx
    exact ⟨z, by simpa using h1, wf64 h3⟩
  obtain ⟨Z, hZ⟩ := choose_lt (α := Int) key
  refine ⟨n, fun i => if i < n then Z i else 0, ?_, fun i => ?_⟩
  · obtain ⟨A, cap, h1, h2, h3, h4⟩ := hR
    refine ⟨A, cap, h1, h2, h3, fun hn => ?_⟩
    obtain ⟨b, off, h5, h6, h7⟩ := h4 hn
    refine ⟨b, off, h5, h6, fun i j hil hj => ?_⟩
    obtain rfl : j = 0 := by omega
    rw [h7 i 0 hil hj, (hZ i hil).1]
    simp only [if_pos hil]
  · show -9223372036854775808 ≤ (if i < n then Z i else 0) ∧ (if i < n then Z i else 0) ≤ 9223372036854775807
    split
    · rename_i h; exact (hZ i h).2
    · omega

/-- A slice of a struct of three ints. -/
theorem open_ints3 {r : Reach} {b0 : Nat} {t e e0 e1 e2 : TypeId} {g0 g1 g2 : Field} {v : Value} {d : DataW H} {p : List MemPlace} (ht : P.underlying t = some (.slice e)) (he : P.underlying e = some (.struct #[g0, g1, g2])) (hC : P.cellsOf e = 3)
    (k0 : g0.type = e0 ∧ g0.offset = 0 ∧ P.cellsOf e0 = 1 ∧ P.underlying e0 = some (.int .i64)) (k1 : g1.type = e1 ∧ g1.offset = 1 ∧ P.cellsOf e1 = 1 ∧ P.underlying e1 = some (.int .i64)) (k2 : g2.type = e2 ∧ g2.offset = 2 ∧ P.cellsOf e2 = 1 ∧ P.underlying e2 = some (.int .i64))
    (hv : Value.okWide P w r b0 t v) (h : DataW.Trod enc P w base (fun _ => true) true t v d p) :
    ∃ (n : Nat) (Z : Nat → Nat → Int), Rowy w v n 3 (fun i j => .int .i64 (Z i j)) ∧ ∀ i j, i < n → j < 3 → -9223372036854775808 ≤ Z i j ∧ Z i j ≤ 9223372036854775807 := by
  obtain ⟨n, V, hR, hi⟩ := open_rowy ht hC (by omega) hv h
  obtain ⟨a0, b0, c0, d0⟩ := k0
  obtain ⟨a1, b1, c1, d1⟩ := k1
  obtain ⟨a2, b2, c2, d2⟩ := k2
  have key : ∀ i, i < n → ∃ z : Int × Int × Int, (V i 0 = .int .i64 z.1 ∧ -9223372036854775808 ≤ z.1 ∧ z.1 ≤ 9223372036854775807) ∧ (V i 1 = .int .i64 z.2.1 ∧ -9223372036854775808 ≤ z.2.1 ∧ z.2.1 ≤ 9223372036854775807) ∧ (V i 2 = .int .i64 z.2.2 ∧ -9223372036854775808 ≤ z.2.2 ∧ z.2.2 ≤ 9223372036854775807) := fun i hil => by
    obtain ⟨m, x, hx⟩ := hi i hil
    obtain ⟨xs, m', _, _, _, hl, hf⟩ := DataW.trod_struct he hx
    have f0 := hf 0 g0 rfl
    have f1 := hf 1 g1 rfl
    have f2 := hf 2 g2 rfl
    rw [a0, b0, c0] at f0
    rw [a1, b1, c1] at f1
    rw [a2, b2, c2] at f2
    match xs, hl with
    | [y0, y1, y2], _ =>
      obtain ⟨z0, h0, _, w0⟩ := DataW.trod_int d0 (show DataW.trod enc P w base (fun _ => true) true m' e0 _ = some y0 from f0)
      obtain ⟨z1, h1, _, w1⟩ := DataW.trod_int d1 (show DataW.trod enc P w base (fun _ => true) true m' e1 _ = some y1 from f1)
      obtain ⟨z2, h2, _, w2⟩ := DataW.trod_int d2 (show DataW.trod enc P w base (fun _ => true) true m' e2 _ = some y2 from f2)
      exact ⟨(z0, z1, z2), ⟨by simpa [List.range_succ] using h0, wf64 w0⟩, ⟨by simpa [List.range_succ] using h1, wf64 w1⟩, ⟨by simpa [List.range_succ] using h2, wf64 w2⟩⟩
  obtain ⟨Z, hZ⟩ := choose_lt (α := Int × Int × Int) key
  refine ⟨n, fun i j => if j = 0 then (Z i).1 else if j = 1 then (Z i).2.1 else (Z i).2.2, ?_, fun i j hil hj => ?_⟩
  · obtain ⟨A, cap, h1, h2, h3, h4⟩ := hR
    refine ⟨A, cap, h1, h2, h3, fun hn => ?_⟩
    obtain ⟨b, off, h5, h6, h7⟩ := h4 hn
    refine ⟨b, off, h5, h6, fun i j hil hj => ?_⟩
    rw [h7 i j hil hj]
    obtain ⟨q0, q1, q2⟩ := hZ i hil
    match j, hj with
    | 0, _ => simp [q0.1]
    | 1, _ => simp [q1.1]
    | 2, _ => simp [q2.1]
  · obtain ⟨q0, q1, q2⟩ := hZ i hil
    match j, hj with
    | 0, _ => simpa using q0.2
    | 1, _ => simpa using q1.2
    | 2, _ => simpa using q2.2

/-- A slice of a struct of two ints. -/
theorem open_ints2 {r : Reach} {b0 : Nat} {t e e0 e1 : TypeId} {g0 g1 : Field} {v : Value} {d : DataW H} {p : List MemPlace} (ht : P.underlying t = some (.slice e)) (he : P.underlying e = some (.struct #[g0, g1])) (hC : P.cellsOf e = 2)
    (k0 : g0.type = e0 ∧ g0.offset = 0 ∧ P.cellsOf e0 = 1 ∧ P.underlying e0 = some (.int .i64)) (k1 : g1.type = e1 ∧ g1.offset = 1 ∧ P.cellsOf e1 = 1 ∧ P.underlying e1 = some (.int .i64))
    (hv : Value.okWide P w r b0 t v) (h : DataW.Trod enc P w base (fun _ => true) true t v d p) :
    ∃ (n : Nat) (Z : Nat → Nat → Int), Rowy w v n 2 (fun i j => .int .i64 (Z i j)) ∧ ∀ i j, i < n → j < 2 → -9223372036854775808 ≤ Z i j ∧ Z i j ≤ 9223372036854775807 := by
  obtain ⟨n, V, hR, hi⟩ := open_rowy ht hC (by omega) hv h
  obtain ⟨a0, b0, c0, d0⟩ := k0
  obtain ⟨a1, b1, c1, d1⟩ := k1
  have key : ∀ i, i < n → ∃ z : Int × Int, (V i 0 = .int .i64 z.1 ∧ -9223372036854775808 ≤ z.1 ∧ z.1 ≤ 9223372036854775807) ∧ (V i 1 = .int .i64 z.2 ∧ -9223372036854775808 ≤ z.2 ∧ z.2 ≤ 9223372036854775807) := fun i hil => by
    obtain ⟨m, x, hx⟩ := hi i hil
    obtain ⟨xs, m', _, _, _, hl, hf⟩ := DataW.trod_struct he hx
    have f0 := hf 0 g0 rfl
    have f1 := hf 1 g1 rfl
    rw [a0, b0, c0] at f0
    rw [a1, b1, c1] at f1
    match xs, hl with
    | [y0, y1], _ =>
      obtain ⟨z0, h0, _, w0⟩ := DataW.trod_int d0 (show DataW.trod enc P w base (fun _ => true) true m' e0 _ = some y0 from f0)
      obtain ⟨z1, h1, _, w1⟩ := DataW.trod_int d1 (show DataW.trod enc P w base (fun _ => true) true m' e1 _ = some y1 from f1)
      exact ⟨(z0, z1), ⟨by simpa [List.range_succ] using h0, wf64 w0⟩, ⟨by simpa [List.range_succ] using h1, wf64 w1⟩⟩
  obtain ⟨Z, hZ⟩ := choose_lt (α := Int × Int) key
  refine ⟨n, fun i j => if j = 0 then (Z i).1 else (Z i).2, ?_, fun i j hil hj => ?_⟩
  · obtain ⟨A, cap, h1, h2, h3, h4⟩ := hR
    refine ⟨A, cap, h1, h2, h3, fun hn => ?_⟩
    obtain ⟨b, off, h5, h6, h7⟩ := h4 hn
    refine ⟨b, off, h5, h6, fun i j hil hj => ?_⟩
    rw [h7 i j hil hj]
    obtain ⟨q0, q1⟩ := hZ i hil
    match j, hj with
    | 0, _ => simp [q0.1]
    | 1, _ => simp [q1.1]
  · obtain ⟨q0, q1⟩ := hZ i hil
    match j, hj with
    | 0, _ => simpa using q0.2
    | 1, _ => simpa using q1.2

theorem Rowy.below {w w' : World} {v : Value} {n C : Nat} {V : Nat → Nat → Value} (h : Rowy w v n C V) {B : Nat} (hb : Below B w w') (hB : w.heap.size ≤ B) : Rowy w' v n C V := by
  obtain ⟨A, cap, h1, h2, h3, h4⟩ := h
  refine ⟨A, cap, h1, h2, h3, fun hn => ?_⟩
  obtain ⟨b, off, h5, h6, h7⟩ := h4 hn
  exact ⟨b, off, h5, Nat.lt_of_lt_of_le h6 hb.size, fun i j hi hj => by rw [hb.cell (p := ⟨b, _, none⟩) (by show b < B; omega)]; exact h7 i j hi hj⟩
end
end Go.Proofs.Ytfkkhnceffhilaa
