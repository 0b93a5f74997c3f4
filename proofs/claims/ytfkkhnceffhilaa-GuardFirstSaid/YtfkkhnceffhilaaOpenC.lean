/- Acts, rows of acts, bools that are handed in. -/
import Derived.Test.YtfkkhnceffhilaaKept
import Derived.ChangeSlices
namespace Go.Proofs.Ytfkkhnceffhilaa
open Go.ChangeShapes Go.WideShapes Go.ChangeAt Go.RowKit
set_option linter.unusedVariables false
set_option linter.unusedSimpArgs false

open Go.Deep
/-- A step of a play. -/
structure Act where
  k : Int
  n : Int
  a : Int
  d : Int
  ok : Bool
def Act.zero : Act := ⟨0, 0, 0, 0, false⟩
def actC (a : Act) : Nat → Value
  | 0 => .int .i64 a.k
  | 1 => .int .i64 a.n
  | 2 => .int .i64 a.a
  | 3 => .int .i64 a.d
  | _ => .bool a.ok
instance : Inhabited Act := ⟨Act.zero⟩
/-- v is a slice of the acts L. -/
def AS (w : World) (v : Value) (L : List Act) : Prop := Rowy w v L.length 5 (fun i j => actC (L.getD i Act.zero) j)
def I64 (x : Int) : Prop := -9223372036854775808 ≤ x ∧ x ≤ 9223372036854775807
def AOk (L : List Act) : Prop := ∀ a ∈ L, I64 a.k ∧ I64 a.n ∧ I64 a.a ∧ I64 a.d
section
variable {H : Type} {enc : TypeId × Value → H} {w : World} {base : Nat}
section
variable {P : Program}
theorem trod_rowy {fuel : Nat} {t e : TypeId} {C : Nat} {A : Option Addr} {len cap : Nat} {X : DataW H × List MemPlace} (ht : P.underlying t = some (.slice e)) (hC : P.cellsOf e = C) (hC0 : 0 < C)
    (hf : DataW.trod enc P w base (fun _ => true) true fuel t [.slice A len cap] = some X) :
    ∃ (V : Nat → Nat → Value), Rowy w (.slice A len cap) len C V ∧ ∀ i, i < len → ∃ (m : Nat) (x : DataW H × List MemPlace), DataW.trod enc P w base (fun _ => true) true m e ((List.range C).map (V i)) = some x := by
  rcases open_slice ht hf with ⟨hcs, _⟩ | ⟨a, len', cap', m, n, D, Pl, hcs, hb, hl, hm, hmm, hx, hi⟩
  · simp at hcs
    obtain ⟨rfl, rfl, rfl⟩ := hcs
    exact ⟨fun _ _ => undef, ⟨none, 0, rfl, Nat.le_refl _, Nat.zero_le _, fun h => absurd h (Nat.lt_irrefl _)⟩, fun i hi => absurd hi (Nat.not_lt_zero _)⟩
  · simp at hcs
    obtain ⟨rfl, rfl, rfl⟩ := hcs
    simp only [if_true] at hmm
    rw [hC] at hi
    have key : ∀ i, i < len → ∃ L : List Value, L.length = C ∧ (∀ j, j < C → w.cell? ((a.add (i * C)).add j) = L[j]?) ∧ ∃ m x, DataW.trod enc P w base (fun _ => true) true m e L = some x := fun i hil => by
      obtain ⟨cs', h1, h2⟩ := hi i (by omega)
      obtain ⟨_, h3, h4⟩ := World.cells?_some h1
      exact ⟨cs', h3, h4, n, _, h2⟩
    obtain ⟨L, hL⟩ := choose_lt (α := List Value) key
    refine ⟨fun i j => (L i).getD j undef, ⟨some a, _, rfl, hl, hm, fun hn => ?_⟩, fun i hil => ?_⟩
    · have hc0 : w.cell? a = (L 0)[0]? := by
        have := (hL 0 hn).2.1 0 hC0
        simpa [Addr.add] using this
      have hlen := (hL 0 hn).1
      rw [List.getElem?_eq_getElem (by omega)] at hc0
      obtain ⟨b, off, spot⟩ := a
      have hspot : spot = none := by simpa using World.cell?_spot hc0
      subst hspot
      refine ⟨b, off, rfl, ?_, fun i j hil hjC => ?_⟩
      · rcases Nat.lt_or_ge b w.heap.size with h | h
        · exact h
        · simp [World.cell?, Array.getElem?_eq_none h] at hc0
      · have := (hL i hil).2.1 j hjC
        rw [add_add, add_plain] at this
        rw [this, List.getElem?_eq_getElem (by rw [(hL i hil).1]; exact hjC)]
        simp [List.getD, List.getElem?_eq_getElem (show j < (L i).length by rw [(hL i hil).1]; exact hjC)]
    · obtain ⟨h1, _, m, x, h3⟩ := hL i hil
      refine ⟨m, x, ?_⟩
      have e1 : (List.range C).map (fun j => (L i).getD j undef) = L i := by
        apply List.ext_getElem?
        intro j
        by_cases hj : j < C
        · simp [hj, List.getD, List.getElem?_eq_getElem (show j < (L i).length by omega)]
        · simp [hj, show (L i).length ≤ j by omega]
      rw [e1]
      exact h3

end
theorem open_bools {r : Reach} {b0 : Nat} {v : Value} {d : DataW H} {p : List MemPlace}
    (hv : Value.okWide Try.prog w r b0 52 v) (h : DataW.Trod enc Try.prog w base (fun _ => true) true 52 v d p) :
    ∃ (n : Nat) (Z : Nat → Bool), Rowy w v n 1 (fun i _ => .bool (Z i)) := by
  obtain ⟨n, V, hR, hi⟩ := open_rowy (C := 1) Try.underlying52 (by kernel_rfl) (by omega) hv h
  have key : ∀ i, i < n → ∃ z : Bool, V i 0 = .bool z := fun i hil => by
    obtain ⟨m, x, hx⟩ := hi i hil
    obtain ⟨z, h1, _⟩ := DataW.trod_bool Try.underlying4 hx
    exact ⟨z, by simpa using h1⟩
  obtain ⟨Z, hZ⟩ := choose_lt (α := Bool) key
  refine ⟨n, Z, ?_⟩
  obtain ⟨A, cap, h1, h2, h3, h4⟩ := hR
  refine ⟨A, cap, h1, h2, h3, fun hn => ?_⟩
  obtain ⟨b, off, h5, h6, h7⟩ := h4 hn
  refine ⟨b, off, h5, h6, fun i j hil hj => ?_⟩
  obtain rfl : j = 0 := by omega
  rw [h7 i 0 hil hj, hZ i hil]
theorem ec3 : Try.prog.cellsOf 3 = 1 := by kernel_rfl
theorem ec4 : Try.prog.cellsOf 4 = 1 := by kernel_rfl
theorem acts_of {A : Option Addr} {len cap fuel : Nat} {x : DataW H × List MemPlace} (hf : DataW.trod enc Try.prog w base (fun _ => true) true fuel 32 [.slice A len cap] = some x) :
    ∃ L : List Act, L.length = len ∧ AS w (.slice A len cap) L ∧ AOk L := by
  obtain ⟨V, hR, hi⟩ := trod_rowy (C := 5) Try.underlying32 (by kernel_rfl) (by omega) hf
  have key : ∀ i, i < len → ∃ a : Act, (∀ j, j < 5 → V i j = actC a j) ∧ I64 a.k ∧ I64 a.n ∧ I64 a.a ∧ I64 a.d := fun i hil => by
    obtain ⟨m, x, hx⟩ := hi i hil
    obtain ⟨xs, m', _, _, _, hl, hf⟩ := DataW.trod_struct Try.underlying55 hx
    have hl5 : xs.length = 5 := hl
    match xs, hl5 with
    | [y0, y1, y2, y3, y4], _ =>
      have f0 : DataW.trod enc Try.prog w base (fun _ => true) true m' 3 (List.take (Try.prog.cellsOf 3) (List.drop 0 ((List.range 5).map (V i)))) = some y0 := hf 0 _ rfl
      have f1 : DataW.trod enc Try.prog w base (fun _ => true) true m' 3 (List.take (Try.prog.cellsOf 3) (List.drop 1 ((List.range 5).map (V i)))) = some y1 := hf 1 _ rfl
      have f2 : DataW.trod enc Try.prog w base (fun _ => true) true m' 3 (List.take (Try.prog.cellsOf 3) (List.drop 2 ((List.range 5).map (V i)))) = some y2 := hf 2 _ rfl
      have f3 : DataW.trod enc Try.prog w base (fun _ => true) true m' 3 (List.take (Try.prog.cellsOf 3) (List.drop 3 ((List.range 5).map (V i)))) = some y3 := hf 3 _ rfl
      have f4 : DataW.trod enc Try.prog w base (fun _ => true) true m' 4 (List.take (Try.prog.cellsOf 4) (List.drop 4 ((List.range 5).map (V i)))) = some y4 := hf 4 _ rfl
      rw [ec3] at f0 f1 f2 f3
      rw [ec4] at f4
      obtain ⟨z0, h0, -, w0⟩ := DataW.trod_int Try.underlying3 f0
      obtain ⟨z1, h1, -, w1⟩ := DataW.trod_int Try.underlying3 f1
      obtain ⟨z2, h2, -, w2⟩ := DataW.trod_int Try.underlying3 f2
      obtain ⟨z3, h3, -, w3⟩ := DataW.trod_int Try.underlying3 f3
      obtain ⟨z4, h4, -⟩ := DataW.trod_bool Try.underlying4 f4
      refine ⟨⟨z0, z1, z2, z3, z4⟩, fun j hj => ?_, wf64 w0, wf64 w1, wf64 w2, wf64 w3⟩
      match j, hj with
      | 0, _ => simpa [List.range_succ, actC] using h0
      | 1, _ => simpa [List.range_succ, actC] using h1
      | 2, _ => simpa [List.range_succ, actC] using h2
      | 3, _ => simpa [List.range_succ, actC] using h3
      | 4, _ => simpa [List.range_succ, actC] using h4
  obtain ⟨Z, hZ⟩ := choose_lt (α := Act) key
  have hlen : ((List.range len).map Z).length = len := by simp
  refine ⟨(List.range len).map Z, hlen, ?_, fun a ha => ?_⟩
  · unfold AS
    rw [hlen]
    obtain ⟨A', cap', h1, h2, h3, h4⟩ := hR
    refine ⟨A', cap', h1, h2, h3, fun hn => ?_⟩
    obtain ⟨b, off, h5, h6, h7⟩ := h4 hn
    refine ⟨b, off, h5, h6, fun i j hil hj => ?_⟩
    rw [h7 i j hil hj, (hZ i hil).1 j hj]
    have : ((List.range len).map Z).getD i Act.zero = Z i := by simp [List.getD, hil]
    simp only [this]
  · obtain ⟨i, hi, rfl⟩ := List.mem_map.1 ha
    exact (hZ i (List.mem_range.1 hi)).2
theorem open_acts {r : Reach} {b0 : Nat} {v : Value} {d : DataW H} {p : List MemPlace}
    (hv : Value.okWide Try.prog w r b0 32 v) (h : DataW.Trod enc Try.prog w base (fun _ => true) true 32 v d p) :
    ∃ (A : Option Addr) (cap : Nat) (L : List Act), v = .slice A L.length cap ∧ AS w (.slice A L.length cap) L ∧ AOk L := by
  obtain ⟨A, len, cap, rfl⟩ := okWide_slice Try.underlying32 hv
  obtain ⟨fuel, hf⟩ := h
  obtain ⟨L, rfl, h1, h2⟩ := acts_of hf
  exact ⟨A, cap, L, rfl, h1, h2⟩
theorem trod_slice1 {fuel : Nat} {c : Value} {x : DataW H × List MemPlace} (h : DataW.trod enc Try.prog w base (fun _ => true) true fuel 32 [c] = some x) : ∃ A n cap, c = .slice A n cap := by
  rcases Go.Deep.open_slice Try.underlying32 h with ⟨hcs, _⟩ | ⟨a, len', cap', m, n, D, Pl, hcs, _⟩
  · simp at hcs; exact ⟨_, _, _, hcs⟩
  · simp at hcs; exact ⟨_, _, _, hcs⟩
/-- v is a slice of rows of acts. -/
def RS (w : World) (v : Value) (n : Nat) (R : Nat → Value) (L : Nat → List Act) : Prop := Rowy w v n 1 (fun i _ => R i) ∧ ∀ i, i < n → AS w (R i) (L i) ∧ AOk (L i)
theorem open_rows {r : Reach} {b0 : Nat} {v : Value} {d : DataW H} {p : List MemPlace}
    (hv : Value.okWide Try.prog w r b0 44 v) (h : DataW.Trod enc Try.prog w base (fun _ => true) true 44 v d p) :
    ∃ (n : Nat) (R : Nat → Value) (L : Nat → List Act), RS w v n R L := by
  obtain ⟨n, V, hR, hi⟩ := open_rowy (C := 1) Try.underlying44 (by kernel_rfl) (by omega) hv h
  have key : ∀ i, i < n → ∃ L : List Act, AS w (V i 0) L ∧ AOk L := fun i hil => by
    obtain ⟨m, x, hx⟩ := hi i hil
    have hx' : DataW.trod enc Try.prog w base (fun _ => true) true m 32 [V i 0] = some x := by simpa using hx
    obtain ⟨A, k, cap, hv⟩ := trod_slice1 hx'
    rw [hv] at hx' ⊢
    obtain ⟨L, _, h1, h2⟩ := acts_of hx'
    exact ⟨L, h1, h2⟩
  obtain ⟨L, hL⟩ := choose_lt (α := List Act) key
  refine ⟨n, fun i => V i 0, L, ?_, hL⟩
  obtain ⟨A, cap, h1, h2, h3, h4⟩ := hR
  refine ⟨A, cap, h1, h2, h3, fun hn => ?_⟩
  obtain ⟨b, off, h5, h6, h7⟩ := h4 hn
  refine ⟨b, off, h5, h6, fun i j hil hj => ?_⟩
  obtain rfl : j = 0 := by omega
  exact h7 i 0 hil hj
end
end Go.Proofs.Ytfkkhnceffhilaa
