/- Last: f, and g behind it in every case. -/
import Derived.Test.YtfkkhnceffhilaaGuardB
namespace Go.Proofs.Ytfkkhnceffhilaa
open Go.ChangeShapes Go.WideShapes Go.ChangeAt Go.RowKit
set_option linter.unusedVariables false
set_option linter.unusedSimpArgs false

/-- Both ends: the second one's own counts, if it isn't its end. -/
def both (h h' : How) : How := match h' with | .fine => h | x => x
set_option maxHeartbeats 4000000 in
set_option maxRecDepth 100000 in
theorem lastin_any (fF fG : Nat) (cF cG : Array Value) (b0 b1 : Nat) (w : World) (hg : w.cell? ⟨b0, 0, none⟩ = some (.func (.func fG) #[] cG)) (hf : w.cell? ⟨b1, 0, none⟩ = some (.func (.func fF) #[] cF))
    (heF : ∀ W, (callFunc fF cF).run Try.prog W = .ok (.enter fF cF) W) (heG : ∀ W, (callFunc fG cG).run Try.prog W = .ok (.enter fG cG) W)
    (I : How → World → Prop) (J : How → How → World → Prop) (hF : Calls Try.prog fF cF w fun e w1 => ∃ h, Ends h e ∧ I h w1)
    (hG : ∀ h w1, I h w1 → ∀ u, CallsD Try.prog fG cG u w1 fun e u' w' => u' = u ∧ ∃ h', Ends h' e ∧ J h h' w') :
    Calls Try.prog 40 #[.pointer (some ⟨b0, 0, none⟩), .pointer (some ⟨b1, 0, none⟩)] w fun e w' => ∃ h h', Ends (both h h') e ∧ J h h' w' := by
  have HG := Lib.hid hG
  clear hG
  go_enter_defers Try.func40, Try.ntmps40
  go_wp2_with fail
  refine hF.mono ?_
  rintro e w1 ⟨h, he, hI⟩
  have hg := HG.out h w1 hI
  have HG' := Lib.hid hg
  clear hg HG hI hF
  cases h with
  | fine =>
    obtain rfl := he
    go_wp2_with fail
    refine leaves_cons (f := fG) (args := cG) (by simp) (by simp [go_sem, heG]) ?_
    refine (HG'.out _).mono ?_
    rintro e u' w2 ⟨rfl, h', he, hJ⟩
    cases h' with
    | fine =>
      obtain rfl := he
      exact ⟨_, results_none rfl _ _ _, .fine, .fine, rfl, hJ⟩
    | fault c a =>
      obtain ⟨l, rfl, hl⟩ := he
      exact ⟨.fine, .fault c a, ⟨_, rfl, hl⟩, hJ⟩
    | other =>
      obtain ⟨x, l, rfl, hl⟩ := he
      exact ⟨.fine, .other, ⟨_, _, rfl, hl⟩, hJ⟩
  | fault c a =>
    obtain ⟨l, rfl, hl⟩ := he
    refine leaves_cons (f := fG) (args := cG) (by simp) (by simp [go_sem, heG]) ?_
    refine (HG'.out _).mono ?_
    rintro e u' w2 ⟨rfl, h', he, hJ⟩
    cases h' with
    | fine =>
      obtain rfl := he
      exact ⟨.fault c a, .fine, ⟨_, rfl, hl⟩, hJ⟩
    | fault c' a' =>
      obtain ⟨l', rfl, hl'⟩ := he
      exact ⟨.fault c a, .fault c' a', ⟨_, rfl, tail_app hl' (tail_cons hl)⟩, hJ⟩
    | other =>
      obtain ⟨x, l', rfl, hl'⟩ := he
      exact ⟨.fault c a, .other, ⟨_, _, rfl, tail_app hl' (tail_cons hl)⟩, hJ⟩
  | other =>
    obtain ⟨y, l, rfl, hl⟩ := he
    refine leaves_cons (f := fG) (args := cG) (by simp) (by simp [go_sem, heG]) ?_
    refine (HG'.out _).mono ?_
    rintro e u' w2 ⟨rfl, h', he, hJ⟩
    cases h' with
    | fine =>
      obtain rfl := he
      exact ⟨.other, .fine, ⟨_, _, rfl, hl⟩, hJ⟩
    | fault c' a' =>
      obtain ⟨l', rfl, hl'⟩ := he
      exact ⟨.other, .fault c' a', ⟨_, rfl, tail_app hl' (tail_cons hl)⟩, hJ⟩
    | other =>
      obtain ⟨x, l', rfl, hl'⟩ := he
      exact ⟨.other, .other, ⟨_, _, rfl, tail_app hl' (tail_cons hl)⟩, hJ⟩

/-- From a to b the five blocks from B on stay. -/
def Five (B : Nat) (a b : World) : Prop := ∀ k, B ≤ k → k < B + 5 → b.heap[k]? = a.heap[k]?
theorem five_blk {B g : Nat} {a b : World} {t : TypeId} {cs : Array Value} (h : Five B a b) (hb : Blk a g t cs) (h1 : B ≤ g) (h2 : g < B + 5) : Blk b g t cs := (h g h1 h2).trans hb
set_option maxHeartbeats 4000000 in
set_option maxRecDepth 100000 in
theorem last_any (fF fG : Nat) (cF cG : Array Value) (w : World)
    (heF : ∀ W, (callFunc fF cF).run Try.prog W = .ok (.enter fF cF) W) (heG : ∀ W, (callFunc fG cG).run Try.prog W = .ok (.enter fG cG) W)
    (I : How → World → Prop) (J : How → How → World → Prop)
    (hF : ∀ W, Kept (fun _ => False) w W → w.heap.size + 5 = W.heap.size → Calls Try.prog fF cF W fun e w1 => ∃ h, Ends h e ∧ I h w1 ∧ Five w.heap.size W w1)
    (hG : ∀ h w1, I h w1 → ∀ u, CallsD Try.prog fG cG u w1 fun e u' w' => u' = u ∧ ∃ h', Ends h' e ∧ J h h' w' ∧ Five w.heap.size w1 w') :
    Calls Try.prog 19 #[.func (.func fF) #[] cF, .func (.func fG) #[] cG] w fun e w' => ∃ h h' w1, J h h' w1 ∧ Kept (fun b => w.heap.size ≤ b ∧ b < w.heap.size + 5) w1 w' ∧ CallEnd (both h h') e := by
  have hm := hmf
  have HF := Lib.hid hF
  have HG := Lib.hid hG
  clear hF hG
  go_enter Try.func19, Try.ntmps19
  go_wp2_with fail
  refine (call_any 40 _ _ ?_ (fun hh w1 => ∃ h h', hh = both h h' ∧ J h h' w1 ∧ Blk w1 (w.heap.size + 2) 23 #[.int .i64 0, .int .i64 0]) ?_).mono ?_
  · intro W
    simp [go_sem]
  · unfold Does
    have hk : Kept (fun _ => False) w (((((w.alloc (.cells #[.func (.func fF) #[] cF] 1)).alloc (.cells #[.func (.func fG) #[] cG] 1)).alloc (.cells #[.int .i64 0, .int .i64 0] 23)).alloc (.cells #[.int .i64 0, .int .i64 0] 23)).alloc (.cells #[.bool false] 4)) := (((((Kept.refl _ w).alloc _).alloc _).alloc _).alloc _).alloc _
    have hs : w.heap.size + 5 = ((((((w.alloc (.cells #[.func (.func fF) #[] cF] 1)).alloc (.cells #[.func (.func fG) #[] cG] 1)).alloc (.cells #[.int .i64 0, .int .i64 0] 23)).alloc (.cells #[.int .i64 0, .int .i64 0] 23)).alloc (.cells #[.bool false] 4))).heap.size := by simp only [World.size_alloc]
    have b0 : Blk (((((w.alloc (.cells #[.func (.func fF) #[] cF] 1)).alloc (.cells #[.func (.func fG) #[] cG] 1)).alloc (.cells #[.int .i64 0, .int .i64 0] 23)).alloc (.cells #[.int .i64 0, .int .i64 0] 23)).alloc (.cells #[.bool false] 4)) w.heap.size 1 #[.func (.func fF) #[] cF] := ((((Blk.new _ _ _).alloc _).alloc _).alloc _).alloc _
    have b1 : Blk (((((w.alloc (.cells #[.func (.func fF) #[] cF] 1)).alloc (.cells #[.func (.func fG) #[] cG] 1)).alloc (.cells #[.int .i64 0, .int .i64 0] 23)).alloc (.cells #[.int .i64 0, .int .i64 0] 23)).alloc (.cells #[.bool false] 4)) (w.heap.size + 1) 1 #[.func (.func fG) #[] cG] := (((Blk.new_at (by simp only [World.size_alloc])).alloc _).alloc _).alloc _
    have b2 : Blk (((((w.alloc (.cells #[.func (.func fF) #[] cF] 1)).alloc (.cells #[.func (.func fG) #[] cG] 1)).alloc (.cells #[.int .i64 0, .int .i64 0] 23)).alloc (.cells #[.int .i64 0, .int .i64 0] 23)).alloc (.cells #[.bool false] 4)) (w.heap.size + 2) 23 #[.int .i64 0, .int .i64 0] := ((Blk.new_at (by simp only [World.size_alloc])).alloc _).alloc _
    have b3 : Blk (((((w.alloc (.cells #[.func (.func fF) #[] cF] 1)).alloc (.cells #[.func (.func fG) #[] cG] 1)).alloc (.cells #[.int .i64 0, .int .i64 0] 23)).alloc (.cells #[.int .i64 0, .int .i64 0] 23)).alloc (.cells #[.bool false] 4)) (w.heap.size + 3) 23 #[.int .i64 0, .int .i64 0] := (Blk.new_at (by simp only [World.size_alloc])).alloc _
    have b4 : Blk (((((w.alloc (.cells #[.func (.func fF) #[] cF] 1)).alloc (.cells #[.func (.func fG) #[] cG] 1)).alloc (.cells #[.int .i64 0, .int .i64 0] 23)).alloc (.cells #[.int .i64 0, .int .i64 0] 23)).alloc (.cells #[.bool false] 4)) (w.heap.size + 4) 4 #[.bool false] := Blk.new_at (by simp only [World.size_alloc])
    simp only [World.size_alloc]
    generalize (((((w.alloc (.cells #[.func (.func fF) #[] cF] 1)).alloc (.cells #[.func (.func fG) #[] cG] 1)).alloc (.cells #[.int .i64 0, .int .i64 0] 23)).alloc (.cells #[.int .i64 0, .int .i64 0] 23)).alloc (.cells #[.bool false] 4)) = W5 at *
    refine (lastin_any fF fG cF cG _ _ _ (b1.cell 0) (b0.cell 0) heF heG (fun h w1 => I h w1 ∧ Five w.heap.size W5 w1) (fun h h' w1 => J h h' w1 ∧ Five w.heap.size W5 w1) ?_ ?_).mono ?_
    · refine (HF.out W5 hk hs).mono ?_
      rintro e w1 ⟨h, he, hI, hf⟩
      exact ⟨h, he, hI, hf⟩
    · rintro h w1 ⟨hI, hf⟩ u
      refine (HG.out h w1 hI u).mono ?_
      rintro e u' w2 ⟨rfl, h', he, hJ, hf2⟩
      exact ⟨rfl, h', he, hJ, fun k h1 h2 => (hf2 k h1 h2).trans (hf k h1 h2)⟩
    · rintro e w1 ⟨h, h', he, hJ, hf⟩
      exact ⟨_, he, ⟨h, h', rfl, hJ, five_blk hf b2 (by omega) (by omega)⟩, five_blk hf b3 (by omega) (by omega), five_blk hf b4 (by omega) (by omega)⟩
  simp only [World.size_alloc]
  rintro e w2 ⟨hh, w1, ⟨h, h', hhe, hJ, hB⟩, hK, hce⟩
  have HHE := Lib.hid hhe
  have HJ := Lib.hid hJ
  have hB2 := hK.blk hB (by omega)
  have HB := Lib.hid hB2
  have hK' : Kept (fun b => w.heap.size ≤ b ∧ b < w.heap.size + 5) w1 w2 := hK.mono fun k _ hx => by omega
  have HK := Lib.hid hK'
  have c0 : w2.cell? ⟨w.heap.size + 2, 0, none⟩ = some (.int .i64 0) := hB2.cell 0
  have c1 : w2.cell? ⟨w.heap.size + 2, 1, none⟩ = some (.int .i64 0) := hB2.cell 1
  have z0 : w2.frozen? ⟨w.heap.size + 2, 0, none⟩ = false := hB2.frozen 0
  have z1 : w2.frozen? ⟨w.heap.size + 2, 1, none⟩ = false := hB2.frozen 1
  clear hhe hJ hB hB2 hK hK'
  cases hh with
  | fine =>
    obtain rfl := hce
    go_wp2_with fail
    refine bodyPost_ret (results_cell_tmp rfl _ (w.heap.size + 2) 23 _ _ rfl ((HB.out.put 0 _).put 1 _) Try.underlying23 rfl (by kernel_rfl)) rfl ⟨h, h', w1, HJ.out, ?_, by rw [← HHE.out]; rfl⟩
    exact (HK.out.setCell (.inr ⟨by show w.heap.size ≤ w.heap.size + 2; omega, by show w.heap.size + 2 < _; omega⟩) _).setCell (.inr ⟨by show w.heap.size ≤ w.heap.size + 2; omega, by show w.heap.size + 2 < _; omega⟩) _
  | fault c a =>
    obtain rfl := hce
    go_wp2_with fail
    refine bodyPost_ret (results_cell_tmp rfl _ (w.heap.size + 2) 23 _ _ rfl ((HB.out.put 0 _).put 1 _) Try.underlying23 rfl (by kernel_rfl)) rfl ⟨h, h', w1, HJ.out, ?_, by rw [← HHE.out]; rfl⟩
    exact (HK.out.setCell (.inr ⟨by show w.heap.size ≤ w.heap.size + 2; omega, by show w.heap.size + 2 < _; omega⟩) _).setCell (.inr ⟨by show w.heap.size ≤ w.heap.size + 2; omega, by show w.heap.size + 2 < _; omega⟩) _
  | other =>
    obtain ⟨x, l, rfl, hl⟩ := hce
    exact ⟨rfl, h, h', w1, HJ.out, HK.out, by rw [← HHE.out]; exact ⟨x, l, rfl, hl⟩⟩
end Go.Proofs.Ytfkkhnceffhilaa
