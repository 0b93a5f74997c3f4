/- ShapeUnknown. -/
import Derived.Test.YtolpfbdklcjlkaaPlain
namespace Go.Proofs.Ytolpfbdklcjlkaa
open Go.ChangeShapes Go.WideShapes Go.ChangeAt Go.RowKit
set_option linter.unusedVariables false
set_option linter.unusedSimpArgs false

set_option maxHeartbeats 4000000 in
set_option maxRecDepth 100000 in
theorem unknown_any (t f s : Int) (A : Option Addr) (len cap : Nat) (L : List Int) (w : World) (t0 : -9223372036854775808 ≤ t) (t1 : t ≤ 9223372036854775807) (f0 : -9223372036854775808 ≤ f) (f1 : f ≤ 9223372036854775807) (s0 : -9223372036854775808 ≤ s) (s1 : s ≤ 9223372036854775807)
    (hR : BS w (.slice A len cap) L) (hb : Byt L) :
    Calls Try.prog 7 #[.int .i64 t, .int .i64 f, .int .i64 s, .slice A len cap] w fun e w' => e = .returned (.bool true) ∧ Below w.heap.size w w' := by
  have HR := Lib.hid hR
  obtain ⟨L2, hL2⟩ : ∃ L2, L.take 300 = L2 := ⟨_, rfl⟩
  have hY2 : Byt L2 := fun x hx => hb x (by rw [← hL2] at hx; exact List.mem_of_mem_take hx)
  have hn2 : L2.length ≤ 300 := by rw [← hL2]; simp; omega
  obtain ⟨n2, hn2e⟩ : ∃ n2, L2.length = n2 := ⟨_, rfl⟩
  have HL2 := Lib.hid hL2
  have HY2 := Lib.hid hY2
  have HN2 := Lib.hid hn2e
  rw [hn2e] at hn2
  clear hL2 hY2 hn2e hR hb
  have kl := wit_lo t 10 255 (by decide)
  have kh := wit_hi t 10 255 (by decide)
  have fl0 := wit_lo f 0 255 (by decide)
  have fh0 := wit_hi f 0 255 (by decide)
  have sl0 := wit_lo s 0 2147483647 (by decide)
  have sh0 := wit_hi s 0 2147483647 (by decide)
  obtain ⟨K, hk⟩ : ∃ K, wit t 10 255 = K := ⟨_, rfl⟩
  obtain ⟨F, hf⟩ : ∃ F, wit f 0 255 = F := ⟨_, rfl⟩
  obtain ⟨S, hs⟩ : ∃ S, wit s 0 2147483647 = S := ⟨_, rfl⟩
  rw [hk] at kl kh
  rw [hf] at fl0 fh0
  rw [hs] at sl0 sh0
  have hof : ofF K F S L2 = (⟨K, S, false, false, false, [], 0, 0, 0, 0, 0, fun _ => (0, 0)⟩, (0, 0, 0)) := by unfold ofF; rw [if_pos (.inr (by omega))]; rfl
  have HOF := Lib.hid hof
  clear hof
  go_enter Try.func7, Try.ntmps7
  go_upto_region 2 with (go_at_call 17; refine (wit_any _ _ _ _ (by decide) (by decide) (by decide) (by omega) (by omega)).mono ?_; rintro e w1 ⟨rfl, rfl⟩; first | rw [hk] | rw [hf] | rw [hs])
  refine wp_forget (fun W => Below w.heap.size w W ∧ Hid (Blk W w.heap.size 32 (fC K F S (.slice A len cap)))) ⟨by go_grown, Lib.hid (Blk.new _ _ _)⟩ ?_
  rintro W ⟨hA, HF⟩
  have hAs := hA.size
  have hl0 := HF.out.lt
  clear hk hf hs
  have f0' : W.cell? ⟨w.heap.size, 0, none⟩ = some (.int .i64 K) := HF.out.cell 0
  have f1' : W.cell? ⟨w.heap.size, 1, none⟩ = some (.int .i64 F) := HF.out.cell 1
  have f2' : W.cell? ⟨w.heap.size, 2, none⟩ = some (.int .i64 S) := HF.out.cell 2
  have f3' : W.cell? ⟨w.heap.size, 3, none⟩ = some (.slice A len cap) := HF.out.cell 3
  go_wp2_with fail
  refine (light_at K F S _ L w _ HR.out).mono ?_
  rintro e w1 ⟨⟨v2, rfl, hv2⟩, hB1⟩
  rw [HL2.out] at hv2
  obtain ⟨A2, c2, rfl, -⟩ := id hv2
  rw [HN2.out] at hv2 ⊢
  have HV := Lib.hid hv2
  clear hv2
  have hs1 := hB1.size
  have HF1 := Lib.hid (HF.out.below hB1 hl0)
  have hA1 : Below w.heap.size w w1 := hA.trans (hB1.mono hAs)
  go_wp2_with (refine wpList_store_row rfl 32 (.tmp 9) (.tmp 21) rfl w.heap.size rfl (fC K F S (.slice A2 n2 c2)) rfl 32 _ HF1.out rfl (by kernel_rfl) (by simp [Value.oneCell']) ?_; intro W2 hW2 gW2 sW2; have HF2 := Lib.hid hW2; have u0 : W2.cell? ⟨w.heap.size, 0, none⟩ = some (.int .i64 K) := hW2.cell 0; have u1 : W2.cell? ⟨w.heap.size, 1, none⟩ = some (.int .i64 F) := hW2.cell 1; have u2 : W2.cell? ⟨w.heap.size, 2, none⟩ = some (.int .i64 S) := hW2.cell 2; have u3 : W2.cell? ⟨w.heap.size, 3, none⟩ = some (.slice A2 n2 c2) := hW2.cell 3; have hA2 : Below w.heap.size w W2 := hA1.grown gW2 (by omega) (fun q hq => by cases hq; omega); have HV2 := Lib.hid (HV.out.below hA2 (Nat.le_refl _)))
  have hs2 := hA2.size
  have hl2 := HF2.out.lt
  clear gW2 sW2
  go_upto_region 4 with (go_at_call 10; refine (of_is K F S _ L2 _ (HV2.out.below (by go_grown) (Nat.le_refl _)) HY2.out _ _ _ _ _ _ _ _ _ _ _ _ _ _ _ HOF).mono ?_; rintro e w3 ⟨⟨Ab, cb, As, cs, rfl, hob, hsv⟩, hB3⟩; have hC3 : Below W2.heap.size W2 w3 := Below.trans (by go_grown) (hB3.mono (by first | omega | (simp only [World.size_alloc]; omega))); have hA3 : Below w.heap.size w w3 := hA2.trans (hC3.mono hs2); have hs3 := hA3.size; have hs3' := hC3.size; have HF3 := Lib.hid (HF2.out.below hC3 hl2))
  refine wp_forget (fun W => Below w.heap.size w W ∧ w3.heap.size + 1 < W.heap.size ∧ Hid (Blk W w.heap.size 32 (fC K F S (.slice A2 n2 c2))) ∧ Hid (Blk W w3.heap.size 26 #[.int .i64 K, .int .i64 S, .bool false, .bool false, .bool false, .slice Ab 0 cb, .int .i64 0, .int .i64 0, .int .i64 0, .int .i64 0, .slice As 0 cs]) ∧ Hid (Blk W (w3.heap.size + 1) 28 #[.int .i64 0, .int .i64 0, .int .i64 0]) ∧ Hid (BS W (.slice Ab 0 cb) []) ∧ Hid (Rowy W (.slice As 0 cs) 0 2 (SV fun _ => (0, 0)))) ⟨by go_grown, by go_size, Lib.hid ((HF3.out.alloc _).alloc _), Lib.hid ((Blk.new _ _ _).alloc _), Lib.hid (Blk.new_at (by go_size)), Lib.hid ((bs_own hob rfl).below (by go_grown) (Nat.le_refl _)), Lib.hid ((rowy_own hsv).below (by go_grown) (Nat.le_refl _))⟩ ?_
  rintro W4 ⟨hA4, hl4, HF4, HP4, HX4, HD4, HS4⟩
  clear hob hsv hB3 hC3 hA3
  have hl5 : w.heap.size < w3.heap.size := HF3.out.lt
  clear HF3 hs3 hs3' u0 u1 u2 u3
  generalize w3.heap.size = g2 at *
  have hs4 := hA4.size
  have hl6 : w.heap.size < W4.heap.size := by omega
  have hl7 : g2 < W4.heap.size := by omega
  have f0 : W4.cell? ⟨w.heap.size, 0, none⟩ = some (.int .i64 K) := HF4.out.cell 0
  have f1 : W4.cell? ⟨w.heap.size, 1, none⟩ = some (.int .i64 F) := HF4.out.cell 1
  have f2 : W4.cell? ⟨w.heap.size, 2, none⟩ = some (.int .i64 S) := HF4.out.cell 2
  have f3 : W4.cell? ⟨w.heap.size, 3, none⟩ = some (.slice A2 n2 c2) := HF4.out.cell 3
  have p0 : W4.cell? ⟨g2, 0, none⟩ = some (.int .i64 K) := HP4.out.cell 0
  have p1 : W4.cell? ⟨g2, 1, none⟩ = some (.int .i64 S) := HP4.out.cell 1
  have p2 : W4.cell? ⟨g2, 2, none⟩ = some (.bool false) := HP4.out.cell 2
  have p3 : W4.cell? ⟨g2, 3, none⟩ = some (.bool false) := HP4.out.cell 3
  have p4 : W4.cell? ⟨g2, 4, none⟩ = some (.bool false) := HP4.out.cell 4
  have p5 : W4.cell? ⟨g2, 5, none⟩ = some (.slice Ab 0 cb) := HP4.out.cell 5
  have p6 : W4.cell? ⟨g2, 6, none⟩ = some (.int .i64 0) := HP4.out.cell 6
  have p7 : W4.cell? ⟨g2, 7, none⟩ = some (.int .i64 0) := HP4.out.cell 7
  have p8 : W4.cell? ⟨g2, 8, none⟩ = some (.int .i64 0) := HP4.out.cell 8
  have p9 : W4.cell? ⟨g2, 9, none⟩ = some (.int .i64 0) := HP4.out.cell 9
  have p10 : W4.cell? ⟨g2, 10, none⟩ = some (.slice As 0 cs) := HP4.out.cell 10
  have x0 : W4.cell? ⟨g2 + 1, 0, none⟩ = some (.int .i64 0) := HX4.out.cell 0
  have x1 : W4.cell? ⟨g2 + 1, 1, none⟩ = some (.int .i64 0) := HX4.out.cell 1
  have x2 : W4.cell? ⟨g2 + 1, 2, none⟩ = some (.int .i64 0) := HX4.out.cell 2
  go_wp2_with (first | (go_at_call 12; refine (parts_any _ _ _ _ _ _ _ _ _ _ _ _ _ [] 0 (fun _ => (0, 0)) _ (HD4.out.below (by go_grown) (Nat.le_refl _)) (bs_nil _) (HS4.out.below (by go_grown) (Nat.le_refl _)) (rowy_nil _ _ _)).mono ?_; rintro e w5 ⟨rfl, hB5⟩; have hA5 : Below w.heap.size w w5 := hA4.trans (Below.trans (by go_grown) (hB5.mono (by first | omega | (simp only [World.size_alloc]; omega)))); have hs5 := hA5.size; have hs6 := hB5.size; obtain ⟨q5, r5⟩ := bcell hB5) | (go_at_call 3; refine (runs_any _).mono ?_; rintro e w6 ⟨rfl, hB6⟩))
  go_ret
  exact ⟨rfl, hA5.trans (hB6.mono hs5)⟩
end Go.Proofs.Ytolpfbdklcjlkaa
