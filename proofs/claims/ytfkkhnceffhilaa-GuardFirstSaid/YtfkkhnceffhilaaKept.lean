/- What a call leaves as it was: all blocks but some; and notes: a list of numbers that grows. -/
import Derived.Test.YtfkkhnceffhilaaMisc
import Derived.Test.YtfkkhnceffhilaaOpen
import Derived.Maps.AppendAt
namespace Go.Proofs.Ytfkkhnceffhilaa
open Go.ChangeShapes Go.WideShapes Go.ChangeAt Go.RowKit
set_option linter.unusedVariables false
set_option linter.unusedSimpArgs false

/-- From w to w' no block has turned but those of X. -/
structure Kept (X : Nat → Prop) (w w' : World) : Prop where
  os : w'.os = w.os
  tape : w'.tape = w.tape
  output : w'.output = w.output
  size : w.heap.size ≤ w'.heap.size
  block : ∀ k, k < w.heap.size → ¬ X k → w'.heap[k]? = w.heap[k]?
section
variable {X Y : Nat → Prop} {w w1 w2 : World}
theorem Kept.refl (X : Nat → Prop) (w : World) : Kept X w w := ⟨rfl, rfl, rfl, Nat.le_refl _, fun _ _ _ => rfl⟩
theorem Kept.mono (h : Kept X w w1) (hX : ∀ k, k < w.heap.size → X k → Y k) : Kept Y w w1 := ⟨h.os, h.tape, h.output, h.size, fun k hk hy => h.block k hk fun hx => hy (hX k hk hx)⟩
theorem Kept.trans (h : Kept X w w1) (h' : Kept X w1 w2) : Kept X w w2 :=
  ⟨h'.os.trans h.os, h'.tape.trans h.tape, h'.output.trans h.output, Nat.le_trans h.size h'.size, fun k hk hx => (h'.block k (Nat.lt_of_lt_of_le hk h.size) hx).trans (h.block k hk hx)⟩
theorem Kept.then (h : Kept X w w1) (h' : Kept Y w1 w2) (hY : ∀ k, k < w.heap.size → Y k → X k) : Kept X w w2 :=
  ⟨h'.os.trans h.os, h'.tape.trans h.tape, h'.output.trans h.output, Nat.le_trans h.size h'.size, fun k hk hx => (h'.block k (Nat.lt_of_lt_of_le hk h.size) (fun hy => hx (hY k hk hy))).trans (h.block k hk hx)⟩
theorem Kept.alloc (h : Kept X w w1) (o : Obj) : Kept X w (w1.alloc o) :=
  ⟨h.os, h.tape, h.output, Nat.le_trans h.size (by simp), fun k hk hx => (Below.heap_alloc w1 o k (Nat.lt_of_lt_of_le hk h.size)).trans (h.block k hk hx)⟩
theorem Kept.setCell (h : Kept X w w1) {p : Addr} (hp : w.heap.size ≤ p.block ∨ X p.block) (u : Value) : Kept X w (w1.setCell p u) :=
  ⟨h.os, h.tape, h.output, by simpa [World.setCell] using h.size, fun k hk hx => (Below.heap_setCell w1 p u k (by
    rintro rfl
    rcases hp with hp | hp
    · omega
    · exact hx hp)).trans (h.block k hk hx)⟩
theorem Kept.drew (h : Kept X w w1) : Kept X w w1.drew := ⟨h.os, h.tape, h.output, h.size, h.block⟩
theorem Kept.drewN (h : Kept X w w1) (n : Nat) : Kept X w (w1.drewN n) := ⟨h.os, h.tape, h.output, h.size, h.block⟩
theorem Kept.grown {row : Option Nat} (h : Kept X w w1) (hg : w1.grownBy w2 row) (hr : ∀ k, row = some k → w.heap.size ≤ k ∨ X k) : Kept X w w2 :=
  ⟨hg.os.trans h.os, hg.tape.trans h.tape, hg.output.trans h.output, Nat.le_trans h.size hg.size, fun k hk hx => (hg.block k (Nat.lt_of_lt_of_le hk h.size) (fun e => by
    rcases hr k e.symm with h1 | h1
    · omega
    · exact hx h1)).trans (h.block k hk hx)⟩
theorem Kept.below {B : Nat} (h : Kept X w w1) (hX : ∀ k, k < w.heap.size → X k → B ≤ k) (hB : B ≤ w.heap.size) : Below B w w1 :=
  ⟨h.os, h.tape, h.output, h.size, fun k hk => h.block k (by omega) fun hx => by have := hX k (by omega) hx; omega⟩
theorem Kept.of_below {B : Nat} (h : Below B w w1) (hX : ∀ k, k < w.heap.size → B ≤ k → X k) : Kept X w w1 :=
  ⟨h.os, h.tape, h.output, h.size, fun k hk hx => h.block k (by
    by_cases e : k < B
    · exact e
    · exact absurd (hX k hk (by omega)) hx)⟩
theorem Kept.blk {g : Nat} {t : TypeId} {cs : Array Value} (h : Kept X w w1) (hb : Blk w g t cs) (hx : ¬ X g) : Blk w1 g t cs := (h.block g hb.lt hx).trans hb
theorem Kept.cell (h : Kept X w w1) {b o : Nat} (hb : b < w.heap.size) (hx : ¬ X b) : w1.cell? ⟨b, o, none⟩ = w.cell? ⟨b, o, none⟩ := World.cell?_of_block (h.block b hb hx)
end

/-- From B on all may turn but what S names. -/
def Far (B : Nat) (S : List Nat) (b : Nat) : Prop := B ≤ b ∧ b ∉ S
theorem far_sub {B : Nat} {S S' : List Nat} {k : Nat} (hS : ∀ s ∈ S, s ∈ S') (h : Far B S' k) : Far B S k := ⟨h.1, fun hk => h.2 (hS _ hk)⟩
theorem Kept.far {B : Nat} {S S' : List Nat} {w w1 : World} (h : Kept (Far B S') w w1) (hS : ∀ s ∈ S, s ∈ S') : Kept (Far B S) w w1 := h.mono fun _ _ hx => far_sub hS hx
theorem Kept.low {B : Nat} {S : List Nat} {w w1 : World} (h : Kept (Far B S) w w1) (hB : B ≤ w.heap.size) : Below B w w1 := h.below (fun _ _ hx => hx.1) hB

def iv (L : List Int) : List Value := L.map (Value.int .i64)
theorem iv_len (L : List Int) : (iv L).length = L.length := by simp [iv]
theorem iv_app (L M : List Int) : iv L ++ iv M = iv (L ++ M) := by simp [iv]
theorem iv_one (L : List Int) : ∀ u ∈ iv L, u.oneCell' = true := fun u hu => by
  obtain ⟨x, _, rfl⟩ := List.mem_map.1 hu; rfl
/-- r is a slice of the numbers L, in memory of the call's own from B on, apart from what S names. -/
structure Own (w : World) (B : Nat) (S : List Nat) (r : Value) (L : List Int) : Prop where
  row : w.ownsRow B 3 1 r L.length (iv L)
  far : ∀ k, r.ownBlock = some k → k ∉ S
section
variable {w w1 : World} {B : Nat} {S S' : List Nat} {r : Value} {L : List Int}
theorem Own.nil (w : World) (B : Nat) (S : List Nat) : Own w B S (.slice none 0 0) [] := ⟨World.ownsRow_nil _ _ _ _, fun k h => by simp [Value.ownBlock] at h⟩
theorem Own.kept {X : Nat → Prop} (h : Own w B S r L) (hk : Kept X w w1) (hX : ∀ k, r.ownBlock = some k → ¬ X k) : Own w1 B S r L := by
  refine ⟨⟨h.row.1, ?_⟩, h.far⟩
  rcases h.row.2 with h' | ⟨g, cap, cur, rfl, hB, hh, h1, h2, h3, h4⟩
  · exact .inl h'
  · refine .inr ⟨g, cap, cur, rfl, hB, ?_, h1, h2, h3, h4⟩
    rw [hk.block g (Array.getElem?_eq_some_iff.1 hh).1 (hX g rfl)]
    exact hh
/-- A new block is named, too. -/
theorem Own.alloc (h : Own w B S r L) (o : Obj) {b : Nat} (hb : w.heap.size ≤ b) : Own (w.alloc o) B (b :: S) r L :=
  ⟨h.row.alloc o, fun k hk => by
    have := h.far k hk
    have := (h.row.lt k hk).2
    simp only [List.mem_cons, not_or]
    exact ⟨by omega, by assumption⟩⟩
theorem Own.named (h : Own w B S r L) {b : Nat} (hb : w.heap.size ≤ b) : Own w B (b :: S) r L :=
  ⟨h.row, fun k hk => by
    have := h.far k hk
    have := (h.row.lt k hk).2
    simp only [List.mem_cons, not_or]
    exact ⟨by omega, by assumption⟩⟩
theorem Own.fewer (h : Own w B S' r L) (hS : ∀ s ∈ S, s ∈ S') : Own w B S r L := ⟨h.row, fun k hk hs => h.far k hk (hS k hs)⟩
theorem Own.form (h : Own w B S r L) : ∃ A c, r = .slice A L.length c := by
  rcases h.row.2 with ⟨rfl, hn⟩ | ⟨g, cap, cur, rfl, _⟩
  · exact ⟨none, 0, by rw [hn]⟩
  · exact ⟨_, _, rfl⟩
end
/-- The notes: block c is a variable that holds such a slice. -/
def Notes (w : World) (c : Nat) (S : List Nat) (L : List Int) : Prop := ∃ r, Blk w c 33 #[r] ∧ c ∉ S ∧ Own w (c + 1) S r L
section
variable {w w1 : World} {c : Nat} {S S' : List Nat} {L : List Int}
theorem Notes.lt (h : Notes w c S L) : c < w.heap.size := let ⟨_, hb, _⟩ := h; hb.lt
theorem Notes.kept {X : Nat → Prop} (h : Notes w c S L) (hk : Kept X w w1) (hX : ∀ k, X k → k ∈ S) : Notes w1 c S L := by
  obtain ⟨r, hb, hc, ho⟩ := h
  exact ⟨r, hk.blk hb fun hx => hc (hX _ hx), hc, ho.kept hk fun k hk' hx => ho.far k hk' (hX _ hx)⟩
theorem Notes.alloc (h : Notes w c S L) (o : Obj) : Notes (w.alloc o) c (w.heap.size :: S) L := by
  obtain ⟨r, hb, hc, ho⟩ := h
  have hl := hb.lt
  exact ⟨r, hb.alloc o, by simp only [List.mem_cons, not_or]; exact ⟨by omega, hc⟩, ho.alloc o (Nat.le_refl _)⟩
theorem Notes.fewer (h : Notes w c S' L) (hS : ∀ s ∈ S, s ∈ S') : Notes w c S L := by
  obtain ⟨r, hb, hc, ho⟩ := h
  exact ⟨r, hb, fun hk => hc (hS _ hk), ho.fewer hS⟩
theorem Notes.setCell (h : Notes w c S L) {p : Addr} (hp : p.block ∈ S) (u : Value) : Notes (w.setCell p u) c S L :=
  h.kept (X := fun k => k ∈ S) ((Kept.refl _ w).setCell (.inr hp) u) fun _ hk => hk
theorem Notes.drewN (h : Notes w c S L) (n : Nat) : Notes (w.drewN n) c S L := by
  obtain ⟨r, hb, hc, ho⟩ := h
  exact ⟨r, hb, hc, ⟨ho.row, ho.far⟩⟩
end
end Go.Proofs.Ytfkkhnceffhilaa
