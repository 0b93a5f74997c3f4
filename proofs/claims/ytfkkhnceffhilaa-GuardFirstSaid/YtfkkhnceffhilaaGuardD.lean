/- Call, caught and Last over functions that keep what is named, and grow the rest. -/
import Derived.Test.YtfkkhnceffhilaaGuardC
namespace Go.Proofs.Ytfkkhnceffhilaa
open Go.ChangeShapes Go.WideShapes Go.ChangeAt Go.RowKit
set_option linter.unusedVariables false
set_option linter.unusedSimpArgs false

/-- What holds of a world and of named blocks, and goes on holding whatever is written into the named ones, or made anew (and named). -/
def Good (P : List Nat → World → Prop) : Prop :=
  ∀ S S' W W', P S W → Kept (fun b => b ∈ S) W W' → (∀ s ∈ S', s ∈ S ∨ W.heap.size ≤ s) → P S' W'
theorem Good.two {P : List Nat → World → Prop} (h : Good P) {S : List Nat} {w W : World} (hp : P S w) (hk : Kept (fun _ => False) w W) (l : List Nat) (hl : ∀ s ∈ l, w.heap.size ≤ s) : P (l ++ S) W :=
  h S (l ++ S) w W hp (hk.mono fun _ _ h => h.elim) fun s hs => by
    rcases List.mem_append.1 hs with h1 | h1
    · exact .inr (hl s h1)
    · exact .inl h1
theorem Good.back {P : List Nat → World → Prop} (h : Good P) {S : List Nat} {w W : World} (l : List Nat) (hp : P (l ++ S) w) (hk : Kept (fun b => b ∈ l) w W) : P S W :=
  h (l ++ S) S w W hp (hk.mono fun _ _ h => List.mem_append_left _ h) fun s hs => .inl (List.mem_append_right _ hs)
/-- What a call of a function value does: it keeps what is named. -/
def Runs (c fid : Nat) (cap : Array Value) (P : List Nat → World → Prop) (Q : How → List Nat → World → Prop) : Prop :=
  ∀ S W, (∀ s ∈ S, s < W.heap.size) → P S W → Calls Try.prog fid cap W fun e w' => ∃ h, Ends h e ∧ Kept (Far c S) W w' ∧ Q h S w'
def RunsD (c fid : Nat) (cap : Array Value) (P : List Nat → World → Prop) (Q : How → List Nat → World → Prop) : Prop :=
  ∀ S W, (∀ s ∈ S, s < W.heap.size) → P S W → ∀ u, CallsD Try.prog fid cap u W fun e u' w' => u' = u ∧ ∃ h, Ends h e ∧ Kept (Far c S) W w' ∧ Q h S w'
theorem kept_app {c : Nat} {S l : List Nat} {w W w1 : World} (h1 : Kept (fun _ => False) w W) (h2 : Kept (Far c (l ++ S)) W w1) : Kept (Far c S) w w1 :=
  (h1.mono fun _ _ h => h.elim).trans (Kept.mono (X := Far c S) ⟨h2.os, h2.tape, h2.output, h2.size, fun k hk hx => h2.block k hk fun hf => hx (far_sub (fun s hs => List.mem_append_right _ hs) hf)⟩ fun _ _ h => h)

theorem lt_app {l S : List Nat} {m : Nat} (h1 : ∀ s ∈ l, s < m) (h2 : ∀ s ∈ S, s < m) : ∀ s ∈ l ++ S, s < m := fun s hs => (List.mem_append.1 hs).elim (h1 s) (h2 s)
theorem two_lt {S : List Nat} {n m : Nat} (hS : ∀ s ∈ S, s < n) (hm : m = n + 1 + 1) : ∀ s ∈ [n, n + 1] ++ S, s < m :=
  lt_app (fun s hs => by simp at hs; omega) (fun s hs => by have := hS s hs; omega)
theorem call_good {c fid : Nat} {cap : Array Value} {P : List Nat → World → Prop} {Q : How → List Nat → World → Prop} (hP : Good P) (hQ : ∀ h, Good (Q h))
    (hen : ∀ W, (callFunc fid cap).run Try.prog W = .ok (.enter fid cap) W) (hf : Runs c fid cap P Q) (S : List Nat) (w : World) (hS : ∀ s ∈ S, s < w.heap.size) (hp : P S w) :
    Calls Try.prog 10 #[.func (.func fid) #[] cap] w fun e w' => ∃ h, CallEnd h e ∧ Kept (Far c S) w w' ∧ Q h S w' := by
  have hk : Kept (fun _ => False) w ((w.alloc (.cells #[.int .i64 0, .int .i64 0] 23)).alloc (.cells #[.bool false] 4)) := ((Kept.refl _ w).alloc _).alloc _
  have b0 : Blk ((w.alloc (.cells #[.int .i64 0, .int .i64 0] 23)).alloc (.cells #[.bool false] 4)) w.heap.size 23 #[.int .i64 0, .int .i64 0] := (Blk.new _ _ _).alloc _
  have b1 : Blk ((w.alloc (.cells #[.int .i64 0, .int .i64 0] 23)).alloc (.cells #[.bool false] 4)) (w.heap.size + 1) 4 #[.bool false] := Blk.new_at (by simp only [World.size_alloc])
  have hp2 := hP.two hp hk [w.heap.size, w.heap.size + 1] (by simp)
  refine (call_any fid cap w hen (fun h w1 => Q h ([w.heap.size, w.heap.size + 1] ++ S) w1 ∧ Kept (Far c S) w w1) ?_).mono ?_
  · refine (hf _ _ (two_lt hS (by simp only [World.size_alloc])) hp2).mono ?_
    rintro e w1 ⟨h, he, hk1, hq⟩
    exact ⟨h, he, ⟨hq, kept_app hk hk1⟩, hk1.blk b0 (fun hx => hx.2 (by simp)), hk1.blk b1 (fun hx => hx.2 (by simp))⟩
  · rintro e w' ⟨h, w1, ⟨hq, hk1⟩, hk2, hce⟩
    exact ⟨h, hce, hk1.then hk2 (fun k hk hx => absurd hk (by omega)), (hQ h).back [w.heap.size, w.heap.size + 1] hq (hk2.mono fun _ _ hx => by simpa using hx)⟩
theorem caught_good {c fid : Nat} {cap : Array Value} {P : List Nat → World → Prop} {Q : How → List Nat → World → Prop} (hP : Good P) (hQ : ∀ h, Good (Q h))
    (hen : ∀ W, (callFunc fid cap).run Try.prog W = .ok (.enter fid cap) W) (hf : Runs c fid cap P Q) (S : List Nat) (w : World) (hS : ∀ s ∈ S, s < w.heap.size) (hp : P S w) :
    Calls Try.prog 24 #[.func (.func fid) #[] cap] w fun e w' => ∃ h, CaughtEnd h e ∧ Kept (Far c S) w w' ∧ Q h S w' := by
  have hk : Kept (fun _ => False) w ((w.alloc (.cells #[.int .i64 0, .int .i64 0, .int .i64 0] 35)).alloc (.cells #[.bool false] 4)) := ((Kept.refl _ w).alloc _).alloc _
  have b0 : Blk ((w.alloc (.cells #[.int .i64 0, .int .i64 0, .int .i64 0] 35)).alloc (.cells #[.bool false] 4)) w.heap.size 35 #[.int .i64 0, .int .i64 0, .int .i64 0] := (Blk.new _ _ _).alloc _
  have b1 : Blk ((w.alloc (.cells #[.int .i64 0, .int .i64 0, .int .i64 0] 35)).alloc (.cells #[.bool false] 4)) (w.heap.size + 1) 4 #[.bool false] := Blk.new_at (by simp only [World.size_alloc])
  have hp2 := hP.two hp hk [w.heap.size, w.heap.size + 1] (by simp)
  refine (caught_any fid cap w hen (fun h w1 => Q h ([w.heap.size, w.heap.size + 1] ++ S) w1 ∧ Kept (Far c S) w w1) ?_).mono ?_
  · refine (hf _ _ (two_lt hS (by simp only [World.size_alloc])) hp2).mono ?_
    rintro e w1 ⟨h, he, hk1, hq⟩
    exact ⟨h, he, ⟨hq, kept_app hk hk1⟩, hk1.blk b0 (fun hx => hx.2 (by simp)), hk1.blk b1 (fun hx => hx.2 (by simp))⟩
  · rintro e w' ⟨h, w1, ⟨hq, hk1⟩, hk2, hce⟩
    exact ⟨h, hce, hk1.then hk2 (fun k hk hx => absurd hk (by omega)), (hQ h).back [w.heap.size, w.heap.size + 1] hq (hk2.mono fun _ _ hx => by simpa using hx)⟩
theorem last_good {c fF fG : Nat} {cF cG : Array Value} {P : List Nat → World → Prop} {Q : How → List Nat → World → Prop} {R : How → How → List Nat → World → Prop} (hP : Good P) (hQ : ∀ h, Good (Q h)) (hR : ∀ h h', Good (R h h'))
    (heF : ∀ W, (callFunc fF cF).run Try.prog W = .ok (.enter fF cF) W) (heG : ∀ W, (callFunc fG cG).run Try.prog W = .ok (.enter fG cG) W)
    (hf : Runs c fF cF P Q) (hg : ∀ h, RunsD c fG cG (Q h) (R h)) (S : List Nat) (w : World) (hS : ∀ s ∈ S, s < w.heap.size) (hp : P S w) :
    Calls Try.prog 19 #[.func (.func fF) #[] cF, .func (.func fG) #[] cG] w fun e w' => ∃ h h', CallEnd (both h h') e ∧ Kept (Far c S) w w' ∧ R h h' S w' := by
  obtain ⟨l, hl⟩ : ∃ l, l = [w.heap.size, w.heap.size + 1, w.heap.size + 2, w.heap.size + 3, w.heap.size + 4] := ⟨_, rfl⟩
  have hl1 : ∀ k, w.heap.size ≤ k → k < w.heap.size + 5 → k ∈ l := fun k h1 h2 => by subst hl; simp; omega
  have hl2 : ∀ k ∈ l, w.heap.size ≤ k ∧ k < w.heap.size + 5 := fun k h => by subst hl; simp at h; omega
  clear hl
  have five : ∀ {a b : World}, w.heap.size + 5 ≤ a.heap.size → Kept (Far c (l ++ S)) a b → Five w.heap.size a b := fun ha h k h1 h2 => h.block k (by omega) fun hx => hx.2 (List.mem_append_left _ (hl1 k h1 h2))
  refine (last_any fF fG cF cG w heF heG (fun h w1 => Q h (l ++ S) w1 ∧ Kept (Far c S) w w1 ∧ w.heap.size + 5 ≤ w1.heap.size) (fun h h' w1 => R h h' (l ++ S) w1 ∧ Kept (Far c S) w w1) ?_ ?_).mono ?_
  · intro W hk hs
    refine (hf _ _ (lt_app (fun s h => by have := (hl2 s h).2; omega) (fun s h => by have := hS s h; omega)) (hP.two hp hk l fun s hs => (hl2 s hs).1)).mono ?_
    rintro e w1 ⟨h, he, hk1, hq⟩
    exact ⟨h, he, ⟨hq, kept_app hk hk1, by have := hk1.size; omega⟩, five (by omega) hk1⟩
  · rintro h w1 ⟨hq, hk1, hs1⟩ u
    refine (hg h _ _ (lt_app (fun s h => by have := (hl2 s h).2; omega) (fun s h => by have := hS s h; omega)) hq u).mono ?_
    rintro e u' w2 ⟨rfl, h', he, hk2, hr⟩
    exact ⟨rfl, h', he, ⟨hr, hk1.then hk2 fun k _ hx => far_sub (fun s hs => List.mem_append_right _ hs) hx⟩, five hs1 hk2⟩
  · rintro e w' ⟨h, h', w1, ⟨hr, hk1⟩, hk2, hce⟩
    exact ⟨h, h', hce, hk1.then hk2 (fun k hk hx => absurd hk (by omega)), (hR h h').back l hr (hk2.mono fun k _ hx => hl1 k hx.1 hx.2)⟩
end Go.Proofs.Ytfkkhnceffhilaa
