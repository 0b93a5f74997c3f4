/- The cells of a set. -/
import Derived.Test.YtdlmocjkhkopgaaApp
namespace Go.Proofs.Ytdlmocjkhkopgaa
open Go.ChangeShapes Go.WideShapes Go.ChangeAt Go.RowKit
set_option linter.unusedVariables false
set_option linter.unusedSimpArgs false

theorem info29 : (Try.prog.info? 29).map (fun i => (i.zero, i.size, i.bytes)) = some (some (.agg #[.int .i64 0, .int .i64 0]), 2, 16) := by kernel_rfl
/-- The cells of a set, in block b. -/
abbrev FX (w : World) (b : Nat) (x : S5) : Prop := w.cell? ⟨b, 0, none⟩ = some (.int .i64 x.t) ∧ w.cell? ⟨b, 1, none⟩ = some (.int .i64 x.s) ∧ w.cell? ⟨b, 2, none⟩ = some (.int .i64 x.w) ∧ w.cell? ⟨b, 3, none⟩ = some (.int .i64 x.f) ∧ w.cell? ⟨b, 4, none⟩ = some (.int .i64 x.l)
theorem FX.below {w w' : World} {B b : Nat} {x : S5} (h : FX w b x) (hb : Below B w w') (hl : b < B) : FX w' b x := by
  obtain ⟨h0, h1, h2, h3, h4⟩ := h
  exact ⟨(hb.cell hl).trans h0, (hb.cell hl).trans h1, (hb.cell hl).trans h2, (hb.cell hl).trans h3, (hb.cell hl).trans h4⟩

theorem FX.alloc {w : World} {b : Nat} {x : S5} (h : FX w b x) (o : Obj) (hl : b < w.heap.size) : FX (w.alloc o) b x := h.below ((Below.refl _ _).alloc (Nat.le_refl _) o) hl
theorem FX.drew {w : World} {b : Nat} {x : S5} (h : FX w b x) : FX w.drew b x := h
theorem FX.new (w : World) (b : Nat) (x : S5) (h : b = w.heap.size) : FX (w.alloc (.cells #[.int .i64 x.t, .int .i64 x.s, .int .i64 x.w, .int .i64 x.f, .int .i64 x.l] 23)) b x :=
  ⟨(Blk.new_at h).cell 0, (Blk.new_at h).cell 1, (Blk.new_at h).cell 2, (Blk.new_at h).cell 3, (Blk.new_at h).cell 4⟩
theorem below_self (w : World) (o : Obj) : Below w.heap.size w (w.alloc o) := (Below.refl _ _).alloc (Nat.le_refl _) o
theorem own_new (w0 : World) (o : Obj) (base g : Nat) (e : TypeId) (size : Nat) (ho : o = .cells #[] e) (hg : g = w0.heap.size) (hb : base ≤ w0.heap.size) :
    (w0.alloc o).ownsRow base e size (.slice (some ⟨g, 0, none⟩) 0 0) 0 [] := by
  subst ho hg; exact World.ownsRow_lit w0 #[] 0 hb (Nat.zero_le _) (by simp)

abbrev z5 : Array Value := #[.int .i64 0, .int .i64 0, .int .i64 0, .int .i64 0, .int .i64 0]
theorem blk_kept {w w' : World} {B n : Nat} {v : Value} {xs : List Value} (hown : w.ownsRow B 29 2 v n xs) (hg : w.grownBy w' v.ownBlock) (b : Nat) (h : Blk w b 23 z5) : Blk w' b 23 z5 := by
  refine h.grown hg fun e => ?_
  rcases hown.2 with ⟨rfl, _⟩ | ⟨g, cap, cur, rfl, _, hh, _⟩
  · simp [Value.ownBlock] at e
  · simp [Value.ownBlock] at e
    subst e
    unfold Blk at h
    rw [h] at hh
    simp at hh
theorem blk_cells {w : World} {b : Nat} (h : Blk w b 23 z5) : w.cell? ⟨b, 0, none⟩ = some (.int .i64 0) ∧ w.cell? ⟨b, 1, none⟩ = some (.int .i64 0) ∧ w.cell? ⟨b, 2, none⟩ = some (.int .i64 0) ∧ w.cell? ⟨b, 3, none⟩ = some (.int .i64 0) ∧ w.cell? ⟨b, 4, none⟩ = some (.int .i64 0) ∧
    w.frozen? ⟨b, 0, none⟩ = false ∧ w.frozen? ⟨b, 1, none⟩ = false ∧ w.frozen? ⟨b, 2, none⟩ = false ∧ w.frozen? ⟨b, 3, none⟩ = false ∧ w.frozen? ⟨b, 4, none⟩ = false :=
  ⟨h.cell 0, h.cell 1, h.cell 2, h.cell 3, h.cell 4, h.frozen 0, h.frozen 1, h.frozen 2, h.frozen 3, h.frozen 4⟩

end Go.Proofs.Ytdlmocjkhkopgaa
