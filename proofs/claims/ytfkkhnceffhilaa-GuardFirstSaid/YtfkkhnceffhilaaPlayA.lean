/- play. -/
import Derived.Test.YtfkkhnceffhilaaTold
import Derived.Test.YtfkkhnceffhilaaNested
import Derived.Deep.AppendLies
import Derived.StillTailTactics
namespace Go.Proofs.Ytfkkhnceffhilaa
open Go.ChangeShapes Go.WideShapes Go.ChangeAt Go.RowKit
set_option linter.unusedVariables false
set_option linter.unusedSimpArgs false

theorem own_type2 {w : World} {B g n : Nat} {e t : TypeId} {sz : Nat} {v : Value} {xs : List Value} {cs : Array Value} (h : w.ownsRow B e sz v n xs) (hb : Blk w g t cs) (hg : some g = v.ownBlock) : t = e := by
  rcases h.2 with ⟨rfl, _⟩ | ⟨g', cap, cur, rfl, _, hh, _⟩
  · cases hg
  · cases hg
    have := hb.symm.trans hh
    simp at this
    exact this.2
theorem good_notes (c : Nat) (M : List Int) : Good (fun S W => Notes W c S M) := fun S S' W W' h hk hs => by
  obtain ⟨r, hb, hc, ho⟩ := h
  refine ⟨r, hk.blk hb hc, fun hx => ?_, ?_⟩
  · rcases hs c hx with h1 | h1
    · exact hc h1
    · have := hb.lt; omega
  · have h1 := ho.kept hk (fun k hk' hx => ho.far k hk' hx)
    refine ⟨h1.row, fun k hk' hx => ?_⟩
    rcases hs k hx with h2 | h2
    · exact ho.far k hk' h2
    · have := (ho.row.lt k hk').2; omega
/-- The notes M in block c; what was there before stands below c. -/
def PlayP (W0 : World) (c : Nat) (M : List Int) (S : List Nat) (W : World) : Prop := Notes W c S M ∧ Below c W0 W ∧ (∀ s ∈ S, c ≤ s)
theorem playP_good (W0 : World) (c : Nat) (M : List Int) : Good (PlayP W0 c M) := fun S S' W W' h hk hs => by
  obtain ⟨h1, h2, h3⟩ := h
  have hl := h1.lt
  refine ⟨good_notes c M S S' W W' h1 hk hs, h2.trans (hk.below (fun k _ hx => h3 k hx) (by omega)), fun s h' => ?_⟩
  rcases hs s h' with h4 | h4
  · exact h3 s h4
  · omega
/-- The loop's relation. -/
def PIn (W0 W : World) (c : Nat) (S : List Nat) (N : List Int) (L : List Act) (ns : List Int) (h : How) (A : Option Addr) (cap b2 b3 i bi : Nat) (P : List Int) (wr : World) : Prop :=
  PlayP W0 c (N ++ P) (bi :: b3 :: b2 :: S) wr ∧ Kept (Far c S) W wr ∧ Blk wr b2 32 #[.slice A L.length cap] ∧ Blk wr b3 41 #[.pointer (some ⟨c, 0, none⟩)] ∧ Blk wr bi 3 #[.int .i64 i] ∧
  (∃ rest, ns = P ++ rest ∧ Told (L.drop i) rest h) ∧ i ≤ L.length ∧ W.heap.size ≤ b2 ∧ b2 < b3 ∧ b3 < bi ∧ P.length ≤ 3 * i
/-- What play does. -/
def PEnd (W0 W : World) (c : Nat) (S : List Nat) (M : List Int) (h : How) (e : Ending) (w' : World) : Prop := Ends h e ∧ Kept (Far c S) W w' ∧ PlayP W0 c M S w'
theorem notes_append {wr X w1 : World} {c q k gg cap1 : Nat} {S1 : List Nat} {M K : List Int} {A1 : Option Addr} {c1' : Nat} {o : Obj} (hO : Own wr (c + 1) S1 (.slice A1 q c1') M) (hq : M.length = q) (hbc : Blk wr c 33 #[.slice A1 q c1']) (hcS : c ∉ S1)
    (hx : Kept (fun _ => False) wr X) (hS : ∀ s ∈ S1, s < wr.heap.size) (hown1 : w1.ownsRow (c + 1) 3 1 (.slice (some ⟨gg, 0, none⟩) (q + k) cap1) (q + k) (iv M ++ iv K)) (hk : K.length = k)
    (hg : (X.alloc o).drew.grownBy w1 (Value.slice A1 q c1').ownBlock) (hat : (Value.slice A1 q c1').ownBlock = some gg ∨ gg = X.heap.size + 1) :
    Notes (w1.setCell ⟨c, 0, none⟩ (.slice (some ⟨gg, 0, none⟩) (q + k) cap1)) c S1 (M ++ K) ∧ Kept (Far c S1) wr (w1.setCell ⟨c, 0, none⟩ (.slice (some ⟨gg, 0, none⟩) (q + k) cap1)) := by
  have hxs := hx.size
  have hxx : Kept (fun _ => False) wr (X.alloc o).drew := (hx.alloc o).drew
  obtain ⟨h1, h2⟩ := own_step hO hxx (fun s hs => by have := hS s hs; have := hxx.size; omega) hq hown1 hk hg (by
    rcases hat with h | h
    · exact .inl (by rw [h]; rfl)
    · exact .inr (by subst h; show some (X.heap.size + 1) = some (X.alloc o).heap.size; rw [World.size_alloc]))
  have hfar : Far (c + 1) S1 c → False := fun h => by have := h.1; omega
  have hbc1 : Blk w1 c 33 #[.slice A1 q c1'] := h2.blk hbc hfar
  refine ⟨⟨_, hbc1.put 0 _, hcS, ?_⟩, ?_⟩
  · exact h1.kept (X := fun k => k = c) ((Kept.refl (fun k => k = c) w1).setCell (.inr rfl) _) (fun k hk e => by have := (h1.row.lt k hk).1; omega)
  · exact (h2.mono fun k _ hx => ⟨by have := hx.1; omega, hx.2⟩).setCell (.inr ⟨Nat.le_refl _, hcS⟩) _
theorem pin_next {W0 W wr w3 : World} {c : Nat} {S : List Nat} {N : List Int} {L : List Act} {ns : List Int} {h : How} {A : Option Addr} {cap b2 b3 i bi j : Nat} {P K : List Int} (hp : PIn W0 W c S N L ns h A cap b2 b3 i bi P wr) (hcW : c < W.heap.size)
    (hn : Notes w3 c (b3 :: b2 :: S) (N ++ P ++ K)) (hk : Kept (Far c (b3 :: b2 :: S)) wr w3) (hr : ∃ rest, ns = (P ++ K) ++ rest ∧ Told (L.drop j) rest h) (hj : j ≤ L.length) (hPK : P.length + K.length ≤ 3 * j) :
    PIn W0 W c S N L ns h A cap b2 b3 j w3.heap.size (P ++ K) (w3.alloc (.cells #[.int .i64 j] 3)) := by
  obtain ⟨⟨hnt, hBr, hSc⟩, hK, hb2, hb3, hbi, _, hiL, hx1, hx2, hx3, hPl⟩ := hp
  have hs := hk.size
  have hl := hbi.lt
  have hl0 := hnt.lt
  refine ⟨⟨?_, ?_, ?_⟩, ?_, ?_, ?_, Blk.new _ _ _, hr, hj, hx1, hx2, by omega, by rw [List.length_append]; exact hPK⟩
  · rw [← List.append_assoc]; exact hn.alloc _
  · exact (hBr.trans (hk.low (by omega))).alloc (by omega) _
  · intro s hs'
    rcases List.mem_cons.1 hs' with rfl | hs'
    · omega
    · exact hSc s (List.mem_cons_of_mem _ hs')
  · exact (hK.trans (hk.far fun s hs => by simp [hs])).alloc _
  · exact (hk.blk hb2 (fun hx => hx.2 (by simp))).alloc _
  · exact (hk.blk hb3 (fun hx => hx.2 (by simp))).alloc _
theorem pin_end {W0 W wr w1 : World} {c : Nat} {S : List Nat} {N : List Int} {L : List Act} {ns : List Int} {h : How} {A : Option Addr} {cap b2 b3 i bi : Nat} {P K : List Int} (hp : PIn W0 W c S N L ns h A cap b2 b3 i bi P wr)
    (hk : Kept (Far c (b3 :: b2 :: S)) wr w1) (hn : Notes w1 c S (N ++ P ++ K)) (hns : ns = P ++ K) : Kept (Far c S) W w1 ∧ PlayP W0 c (N ++ ns) S w1 := by
  obtain ⟨⟨hnt, hBr, hSc⟩, hK, _⟩ := hp
  have hl := hnt.lt
  refine ⟨hK.trans (hk.far fun s hs => by simp [hs]), ?_, hBr.trans (hk.low (by omega)), fun s hs => hSc s (by simp [hs])⟩
  rw [hns, ← List.append_assoc]; exact hn
theorem good_more {P : List Nat → World → Prop} (hP : Good P) (l : List Nat) : Good (fun S W => P (l ++ S) W) := fun S S' W W' h hk hs =>
  hP (l ++ S) (l ++ S') W W' h (hk.mono fun _ _ hx => List.mem_append_right _ hx) fun s hs' => by
    rcases List.mem_append.1 hs' with h1 | h1
    · exact .inl (List.mem_append_left _ h1)
    · rcases hs s h1 with h2 | h2
      · exact .inl (List.mem_append_right _ h2)
      · exact .inr h2
/-- The variables that a Call's function sees. -/
def Seen (A : Option Addr) (Ln cap c b2 b3 bi b7 i K : Nat) (S : List Nat) (X : World) : Prop :=
  (Blk X b2 32 #[.slice A Ln cap] ∧ b2 ∉ S) ∧ (Blk X bi 3 #[.int .i64 i] ∧ bi ∉ S) ∧ (Blk X b7 3 #[.int .i64 K] ∧ b7 ∉ S) ∧ (Blk X b3 41 #[.pointer (some ⟨c, 0, none⟩)] ∧ b3 ∉ S)
theorem seen_good (A : Option Addr) (Ln cap c b2 b3 bi b7 i K : Nat) : Good (Seen A Ln cap c b2 b3 bi b7 i K) := good_and (good_blk _ _ _) (good_and (good_blk _ _ _) (good_and (good_blk _ _ _) (good_blk _ _ _)))
set_option maxHeartbeats 8000000 in
set_option maxRecDepth 100000 in
theorem inner42 (W0 : World) (c : Nat) (hW0 : W0.heap.size ≤ c) (m : Nat) (hm : m ≤ 100) (L sub : List Act) (A A' : Option Addr) (Ln cap c' b2 b3 bi b7 i K : Nat) (M ns : List Int) (h : How)
    (hsl : ∀ w2, (Instr.sliceAt 32 (.slice A Ln cap) (some (.int .i64 ((i : Int) + 1))) (some (.int .i64 ((i : Int) + 1 + (K : Int)))) none).run Try.prog w2 = .ok (.slice A' K c') w2) (hA : AS W0 (.slice A' K c') sub) (hok : AOk sub) (hsub : sub.length = K) (hKm : K < m)
    (hi : i ≤ 1000) (hK : K ≤ 1000) (hT : Told sub ns h) (hM : M.length + 3 * K ≤ 10000)
    (ih : ∀ (L : List Act) (A : Option Addr) (cap : Nat) (S : List Nat) (W : World) (N ns : List Int) (h : How), L.length < m → m ≤ 100 → AS W0 (.slice A L.length cap) L → AOk L →
      PlayP W0 c N S W → (∀ s ∈ S, s < W.heap.size) → N.length + 3 * L.length ≤ 10000 → Told L ns h → Calls Try.prog 26 #[.slice A L.length cap, .pointer (some ⟨c, 0, none⟩)] W (PEnd W0 W c S (N ++ ns) h)) :
    Runs c 42 #[.pointer (some ⟨b2, 0, none⟩), .pointer (some ⟨bi, 0, none⟩), .pointer (some ⟨b7, 0, none⟩), .pointer (some ⟨b3, 0, none⟩)]
      (fun S X => PlayP W0 c M ([b7, b3, bi, b2] ++ S) X ∧ Seen A Ln cap c b2 b3 bi b7 i K S X) (fun h' S X => h' = h ∧ PlayP W0 c (M ++ ns) ([b7, b3, bi, b2] ++ S) X ∧ Seen A Ln cap c b2 b3 bi b7 i K S X) := by
  rintro S X hSX ⟨hP, hSe⟩
  have c2 : X.cell? ⟨b2, 0, none⟩ = some (.slice A Ln cap) := hSe.1.1.cell 0
  have ci : X.cell? ⟨bi, 0, none⟩ = some (.int .i64 i) := hSe.2.1.1.cell 0
  have c7 : X.cell? ⟨b7, 0, none⟩ = some (.int .i64 K) := hSe.2.2.1.1.cell 0
  have c3 : X.cell? ⟨b3, 0, none⟩ = some (.pointer (some ⟨c, 0, none⟩)) := hSe.2.2.2.1.cell 0
  have l2 := hSe.1.1.lt
  have li := hSe.2.1.1.lt
  have l7 := hSe.2.2.1.1.lt
  have l3 := hSe.2.2.2.1.lt
  have hi0 : 0 ≤ (i : Int) := by omega
  have hi1 : (i : Int) ≤ 1000 := by omega
  have hK0 : 0 ≤ (K : Int) := by omega
  have hK1 : (K : Int) ≤ 1000 := by omega
  have hW1 : IntKind.i64.wrap ((i : Int) + 1) = (i : Int) + 1 := by rw [IntKind.wrap_i64]; omega
  have hW2 : IntKind.i64.wrap ((i : Int) + 1 + (K : Int)) = (i : Int) + 1 + (K : Int) := by rw [IntKind.wrap_i64]; omega
  have hih := ih sub A' c' ([b7, b3, bi, b2] ++ S) X.drew M ns h (by omega) hm (by rw [hsub]; exact hA) hok ((playP_good W0 c M).two hP (Kept.refl _ X).drew [] (by simp)) (lt_app (fun s hs => by simp only [List.mem_cons, List.mem_nil_iff, or_false] at hs; show s < X.heap.size; omega) (fun s hs => hSX s hs)) (by rw [hsub]; exact hM) hT
  rw [hsub] at hih
  have HIH := Lib.hid hih
  have HSE := Lib.hid hSe
  have hks : Kept (fun _ => False) X X.drew := (Kept.refl _ X).drew
  have HKS := Lib.hid hks
  clear hih ih hSe hP hks hA hT hM hsub
  go_enter Try.func42, Try.ntmps42
  go_still_tail 9, (by kernel_rfl)
  change wpList _ _ _ _ _ X.drew
  clear c2 ci c7 c3 hW1 hW2
  generalize X.drew = w2 at *
  go_wp2_with fail
  refine HIH.out.mono ?_
  rintro e w' ⟨he, hk', hp'⟩
  have hk2 : Kept (Far c ([b7, b3, bi, b2] ++ S)) X w' := (HKS.out.mono fun _ _ h => h.elim).trans (Kept.mono (X := Far c ([b7, b3, bi, b2] ++ S)) ⟨hk'.os, hk'.tape, hk'.output, hk'.size, fun k hk hx => hk'.block k hk hx⟩ fun _ _ h => h)
  have hSe' : Seen A Ln cap c b2 b3 bi b7 i K S w' := ⟨⟨hk2.blk HSE.out.1.1 (fun hx => hx.2 (by simp)), HSE.out.1.2⟩, ⟨hk2.blk HSE.out.2.1.1 (fun hx => hx.2 (by simp)), HSE.out.2.1.2⟩, ⟨hk2.blk HSE.out.2.2.1.1 (fun hx => hx.2 (by simp)), HSE.out.2.2.1.2⟩, ⟨hk2.blk HSE.out.2.2.2.1 (fun hx => hx.2 (by simp)), HSE.out.2.2.2.2⟩⟩
  have H1 := Lib.hid hk2
  have H2 := Lib.hid hSe'
  have H3 := Lib.hid hp'
  clear hk' hp' hk2 hSe'
  cases h with
  | fine =>
    obtain rfl := he
    go_wp2_with fail
    go_end0
    exact ⟨.fine, rfl, H1.out.far (fun s hs => List.mem_append_right _ hs), rfl, H3.out, H2.out⟩
  | fault c' a' =>
    obtain ⟨l, rfl, hl⟩ := he
    exact ⟨rfl, .fault c' a', ⟨l, rfl, hl⟩, H1.out.far (fun s hs => List.mem_append_right _ hs), rfl, H3.out, H2.out⟩
  | other =>
    obtain ⟨x, l, rfl, hl⟩ := he
    exact ⟨rfl, .other, ⟨x, l, rfl, hl⟩, H1.out.far (fun s hs => List.mem_append_right _ hs), rfl, H3.out, H2.out⟩
end Go.Proofs.Ytfkkhnceffhilaa
