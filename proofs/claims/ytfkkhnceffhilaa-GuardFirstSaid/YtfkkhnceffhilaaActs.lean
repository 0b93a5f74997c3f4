/- Lists of acts: cut; what they tell. -/
import Derived.Test.YtfkkhnceffhilaaWit
import Derived.Test.YtfkkhnceffhilaaOpenC
namespace Go.Proofs.Ytfkkhnceffhilaa
open Go.ChangeShapes Go.WideShapes Go.ChangeAt Go.RowKit
set_option linter.unusedVariables false
set_option linter.unusedSimpArgs false

theorem el32 : Try.prog.elem 32 = 55 := by kernel_rfl
theorem und32 : Try.prog.underlying 32 = some (.slice (Try.prog.elem 32)) := by rw [el32]; exact Try.underlying32
theorem info55 : (Try.prog.info? 55).map (·.size) = some 5 := by kernel_rfl
theorem size32 (w2 : World) : (sizeOf (Try.prog.elem 32)).run Try.prog w2 = .ok 5 w2 := by
  rw [el32]
  cases hq : Try.prog.info? 55 with
  | none => have := info55; simp [hq] at this
  | some i => have h5 := info55; simp [hq] at h5; simp [sizeOf, typeInfo, hq, h5]
theorem as_form {w : World} {v : Value} {L : List Act} (h : AS w v L) : ∃ A cap, v = .slice A L.length cap ∧ L.length ≤ cap ∧ cap ≤ maxLen := by
  obtain ⟨A, cap, he, h2, h3, _⟩ := h
  exact ⟨A, cap, he, h2, h3⟩
theorem AS.below {w w' : World} {v : Value} {L : List Act} (h : AS w v L) {B : Nat} (hb : Below B w w') (hB : w.heap.size ≤ B) : AS w' v L := Rowy.below h hb hB
/-- The act at a place. -/
theorem AS.at {w : World} {A : Option Addr} {cap : Nat} {L : List Act} (h : AS w (.slice A L.length cap) L) {i : Nat} (hi : i < L.length) :
    ∃ b off, A = some ⟨b, off, none⟩ ∧ b < w.heap.size ∧ ∀ j, j < 5 → w.cell? ⟨b, off + (i * 5 + j), none⟩ = some (actC (L.getD i Act.zero) j) := by
  obtain ⟨A', cap', he, h2, h3, hc⟩ := h
  cases he
  obtain ⟨b, off, hb, hlt, hq⟩ := hc (by omega)
  exact ⟨b, off, hb, hlt, fun j hj => hq i j hi hj⟩
theorem as_mid {w : World} {A : Option Addr} {n cap : Nat} {L : List Act} (h : AS w (.slice A n cap) L) (i k : Nat) (hk : i + k ≤ L.length) :
    AS w (.slice (if cap = i then A else A.map (·.add (i * 5))) k (cap - i)) ((L.drop i).take k) := by
  obtain ⟨A', cap', he, h2, h3, hc⟩ := h
  cases he
  have e : ((L.drop i).take k).length = k := by simp; omega
  refine ⟨_, _, by rw [e], by omega, by omega, fun hn => ?_⟩
  rw [e] at hn
  obtain ⟨b, off, hb, hlt, hq⟩ := hc (by omega)
  subst hb
  rw [if_neg (by omega)]
  refine ⟨b, off + i * 5, by simp [Addr.add], hlt, fun p j hp hj => ?_⟩
  rw [e] at hp
  have := hq (p + i) j (by omega) hj
  rw [show off + i * 5 + (p * 5 + j) = off + ((p + i) * 5 + j) by omega, this]
  show some (actC (L.getD (p + i) Act.zero) j) = some (actC (((L.drop i).take k).getD p Act.zero) j)
  rw [List.getD_eq_getElem?_getD, List.getD_eq_getElem?_getD, List.getElem?_take_of_lt hp, List.getElem?_drop, Nat.add_comm]
theorem run_mid {w : World} {A : Option Addr} {n cap : Nat} {L : List Act} (h : AS w (.slice A n cap) L) (i k : Nat) (hk : i + k ≤ L.length) (lo hi : Int) (hlo : lo = i) (hhi : hi = i + k) :
    ∃ A' c', (∀ w2, (Instr.sliceAt 32 (.slice A n cap) (some (.int .i64 lo)) (some (.int .i64 hi)) none).run Try.prog w2 = .ok (.slice A' k c') w2) ∧ AS w (.slice A' k c') ((L.drop i).take k) := by
  refine ⟨_, _, fun w2 => ?_, as_mid h i k hk⟩
  obtain ⟨A', cap', he, h2, h3, hc⟩ := h
  cases he
  subst hlo hhi
  have := run_slice_lh (P := Try.prog) (w := w2) 32 A L.length cap und32 .i64 .i64 (i : Int) ((i : Int) + k) (by omega) (by omega) (by omega)
  rw [run_sliceAt_slice (P := Try.prog) (w := w2) 32 _ _ _ _ und32, this, size32]
  simp [Result.andThen, sliced]
  omega
theorem as_take {w : World} {A : Option Addr} {n cap : Nat} {L : List Act} (h : AS w (.slice A n cap) L) (k : Nat) (hk : k ≤ L.length) : AS w (.slice A k cap) (L.take k) := by
  obtain ⟨A', cap', he, h2, h3, hc⟩ := h
  cases he
  have e : (L.take k).length = k := by simp; omega
  refine ⟨A, cap, by rw [e], by omega, h3, fun hn => ?_⟩
  rw [e] at hn
  obtain ⟨b, off, hb, hlt, hq⟩ := hc (by omega)
  refine ⟨b, off, hb, hlt, fun p j hp hj => ?_⟩
  rw [e] at hp
  rw [hq p j (by omega) hj]
  show some (actC (L.getD p Act.zero) j) = some (actC ((L.take k).getD p Act.zero) j)
  rw [List.getD_eq_getElem?_getD, List.getD_eq_getElem?_getD, List.getElem?_take_of_lt hp]
theorem run_to {w : World} {A : Option Addr} {n cap : Nat} {L : List Act} (h : AS w (.slice A n cap) L) (k : Nat) (hk : k ≤ L.length) (m : Int) (hm : m = k) :
    (∀ w2, (Instr.sliceAt 32 (.slice A n cap) none (some (.int .i64 m)) none).run Try.prog w2 = .ok (.slice A k cap) w2) ∧ AS w (.slice A k cap) (L.take k) := by
  refine ⟨fun w2 => ?_, as_take h k hk⟩
  obtain ⟨A', cap', he, h2, h3, hc⟩ := h
  cases he
  subst hm
  have := run_slice_h (P := Try.prog) (w := w2) 32 A L.length cap und32 .i64 (k : Int) (by omega) (by omega)
  rw [run_sliceAt_slice (P := Try.prog) (w := w2) 32 _ _ _ _ und32, this, size32]
  have e0 : A.map (·.add (0 * 5)) = A := by cases A <;> simp [Addr.add]
  simp [Result.andThen, sliced]
  intro _
  simpa using e0

/-- How many steps stand within a Call. -/
def kk (a : Act) (l : List Act) : Nat := (wit a.d 0 l.length).toNat
theorem kk_le (a : Act) (l : List Act) : kk a l ≤ l.length := by
  have h1 := wit_lo a.d 0 l.length (by omega)
  have h2 := wit_hi a.d 0 l.length (by omega)
  unfold kk; omega
theorem kk_wit (a : Act) (l : List Act) : wit a.d 0 l.length = (kk a l : Int) := by
  have h1 := wit_lo a.d 0 l.length (by omega)
  unfold kk; omega
/-- What the document says that steps do: the notes that they leave, and how they end. -/
inductive Told : List Act → List Int → How → Prop
  | nil : Told [] [] .fine
  | note {a : Act} {l : List Act} {ns : List Int} {h : How} (hk : a.k = 1) (ht : Told l ns h) : Told (a :: l) (a.n :: ns) h
  | raise {a : Act} {l : List Act} (hk : a.k = 2) : Told (a :: l) [] (.fault a.n a.a)
  | must {a : Act} {l : List Act} {ns : List Int} {h : How} (hk : a.k = 3) (ho : a.ok = true) (ht : Told l ns h) : Told (a :: l) ns h
  | mustnt {a : Act} {l : List Act} (hk : a.k = 3) (ho : a.ok = false) : Told (a :: l) [] (.fault a.n a.a)
  | div {a : Act} {l : List Act} (hk : a.k = 4) : Told (a :: l) [] .other
  | stop {a : Act} {l : List Act} {ns : List Int} (hk : a.k = 5) (ht : Told (l.take (kk a l)) ns .other) : Told (a :: l) ns .other
  | call {a : Act} {l : List Act} {ns ms : List Int} {h' h : How} (hk : a.k = 5) (ht : Told (l.take (kk a l)) ns h') (hn : h' ≠ .other) (ht' : Told (l.drop (kk a l)) ms h) :
      Told (a :: l) (ns ++ [(num3 h').1, (num3 h').2.1, (num3 h').2.2] ++ ms) h
  | skip {a : Act} {l : List Act} {ns : List Int} {h : How} (h1 : a.k ≠ 1) (h2 : a.k ≠ 2) (h3 : a.k ≠ 3) (h4 : a.k ≠ 4) (h5 : a.k ≠ 5) (ht : Told l ns h) : Told (a :: l) ns h
theorem told_len {l : List Act} {ns : List Int} {h : How} (ht : Told l ns h) : ns.length ≤ 3 * l.length := by
  induction ht with
  | nil => simp
  | note _ _ ih => simp; omega
  | raise _ => simp
  | must _ _ _ ih => simp; omega
  | mustnt _ _ => simp
  | div _ => simp
  | @stop a l ns _ _ ih => simp at ih ⊢; omega
  | @call a l ns ms h' h _ _ _ _ ih ih' => simp at ih ih' ⊢; have := kk_le a l; omega
  | skip _ _ _ _ _ _ ih => simp; omega
end Go.Proofs.Ytfkkhnceffhilaa
