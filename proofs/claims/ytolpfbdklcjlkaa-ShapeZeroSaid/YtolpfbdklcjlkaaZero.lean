/- ShapeZero. -/
import Derived.Test.YtolpfbdklcjlkaaPlain
namespace Go.Proofs.Ytolpfbdklcjlkaa
open Go.ChangeShapes Go.WideShapes Go.ChangeAt Go.RowKit
set_option linter.unusedVariables false
set_option linter.unusedSimpArgs false

theorem mis_key (K S : Int) : (misB K S = true ∧ (((S == 0) = false ∧ (K == 4) = true) ∨ ((S == 0) = false ∧ (K == 4) = false ∧ (K == 6) = true) ∨ ((S == 0) = false ∧ (K == 4) = false ∧ (K == 6) = false ∧ (K == 7) = true) ∨ ((S == 0) = true ∧ (K == 4) = false ∧ (K == 6) = false ∧ (K == 7) = false ∧ (K == 8) = false) ∨ ((S == 0) = false ∧ (K == 4) = false ∧ (K == 6) = false ∧ (K == 7) = false ∧ (K == 8) = false ∧ (K == 5) = true))) ∨ (((S == 0) = true ∧ (K == 4) = true ∧ (K == 5) = false) ∨ ((S == 0) = true ∧ (K == 4) = false ∧ (K == 6) = true ∧ (K == 5) = false) ∨ ((S == 0) = true ∧ (K == 4) = false ∧ (K == 6) = false ∧ (K == 7) = true ∧ (K == 5) = false) ∨ ((K == 4) = false ∧ (K == 6) = false ∧ (K == 7) = false ∧ (K == 8) = true ∧ (K == 5) = false ∧ (S == 0) = true) ∨ ((K == 4) = false ∧ (K == 6) = false ∧ (K == 7) = false ∧ (K == 8) = true ∧ (K == 5) = false ∧ (S == 0) = false) ∨ ((S == 0) = false ∧ (K == 4) = false ∧ (K == 6) = false ∧ (K == 7) = false ∧ (K == 8) = false ∧ (K == 5) = false)) := by
  unfold misB
  by_cases h0 : S = 0 <;> by_cases h4 : K = 4 <;> by_cases h6 : K = 6 <;> by_cases h7 : K = 7 <;> by_cases h8 : K = 8 <;> by_cases h5 : K = 5 <;> first | omega | simp [h0, h4, h6, h7, h8, h5]
theorem bne_t {a b : Int} (h : (a == b) = false) : (a != b) = true := by simp only [bne, h]; rfl
theorem bne_f {a b : Int} (h : (a == b) = true) : (a != b) = false := by simp only [bne, h]; rfl
theorem zero_plain (K F S : Int) (L : List Int) (k0 : 0 ≤ K) (k1 : K ≤ 9) (f0 : 0 ≤ F) (f1 : F ≤ 255) (s0 : 0 ≤ S) (s1 : S ≤ 2147483647) (hn : L.length ≤ 300) (h : misB K S = true) : (ofF K F S L).2 = (2, 1, 0) := by
  have hr : rightB K F S L.length = true := by unfold rightB; apply decide_eq_true; omega
  unfold ofF
  rw [if_neg (by rw [hr]; simp; omega), if_pos h]
set_option maxHeartbeats 16000000 in
set_option maxRecDepth 100000 in
theorem zero_any (t f s : Int) (A : Option Addr) (len cap : Nat) (L : List Int) (w : World) (t0 : -9223372036854775808 ≤ t) (t1 : t ≤ 9223372036854775807) (f0 : -9223372036854775808 ≤ f) (f1 : f ≤ 9223372036854775807) (s0 : -9223372036854775808 ≤ s) (s1 : s ≤ 9223372036854775807)
    (hR : BS w (.slice A len cap) L) (hb : Byt L) :
    Calls Try.prog 8 #[.int .i64 t, .int .i64 f, .int .i64 s, .slice A len cap] w fun e w' => e = .returned (.bool true) ∧ Below w.heap.size w w' := by
  have HR := Lib.hid hR
  obtain ⟨L2, hL2⟩ : ∃ L2, L.take 300 = L2 := ⟨_, rfl⟩
  have hY2 : Byt L2 := fun x hx => hb x (by rw [← hL2] at hx; exact List.mem_of_mem_take hx)
  have hn2 : L2.length ≤ 300 := by rw [← hL2]; simp; omega
  obtain ⟨n2, hn2e⟩ : ∃ n2, L2.length = n2 := ⟨_, rfl⟩
  have HL2 := Lib.hid hL2
  have HY2 := Lib.hid hY2
  have HN2 := Lib.hid hn2e
  rw [hn2e] at hn2
  clear hL2 hY2 hn2e hR hb
  have kl := wit_lo t 0 9 (by decide)
  have kh := wit_hi t 0 9 (by decide)
  have fl0 := wit_lo f 0 255 (by decide)
  have fh0 := wit_hi f 0 255 (by decide)
  have sl0 := wit_lo s 0 2147483647 (by decide)
  have sh0 := wit_hi s 0 2147483647 (by decide)
  obtain ⟨K, hk⟩ : ∃ K, wit t 0 9 = K := ⟨_, rfl⟩
  obtain ⟨F, hf⟩ : ∃ F, wit f 0 255 = F := ⟨_, rfl⟩
  obtain ⟨S, hs⟩ : ∃ S, wit s 0 2147483647 = S := ⟨_, rfl⟩
  rw [hk] at kl kh
  rw [hf] at fl0 fh0
  rw [hs] at sl0 sh0
  have hzp := zero_plain K F S L2 kl kh fl0 fh0 sl0 sh0 (by rw [HN2.out]; exact hn2)
  obtain ⟨⟨⟨pty, pst, pe, pf, pk, pbody, pco, pla, pmo, pcs, pn, pZ⟩, b1, b2, b3⟩, hof⟩ : ∃ r, ofF K F S L2 = r := ⟨_, rfl⟩
  rw [hof] at hzp
  have HZP := Lib.hid hzp
  have HOF := Lib.hid hof
  clear hof hzp
  go_enter Try.func8, Try.ntmps8
  go_upto_region 3 with (first
    | (go_at_call 17; refine (wit_any _ _ _ _ (by decide) (by decide) (by decide) (by omega) (by omega)).mono ?_; rintro e w1 ⟨rfl, rfl⟩; first | rw [hk] | rw [hf] | rw [hs])
    | (go_at_call 13; refine (light_at K F S _ L w _ HR.out).mono ?_; rintro e w1 ⟨⟨v2, rfl, hv2⟩, hB1⟩; rw [HL2.out] at hv2; obtain ⟨A2, c2, rfl, -⟩ := id hv2; rw [HN2.out] at hv2 ⊢; have HV := Lib.hid hv2; clear hv2; have hs1 := hB1.size))
  refine wp_forget (fun W => Below w.heap.size w W ∧ Hid (Blk W w1.heap.size 32 (fC K F S (.slice A2 n2 c2)))) ⟨by go_grown, Lib.hid (Blk.new _ _ _)⟩ ?_
  rintro W2 ⟨hA2, HF2⟩
  have hs2 := hA2.size
  have hl2 := HF2.out.lt
  have HV2 := Lib.hid (HV.out.below hA2 (Nat.le_refl _))
  clear hB1 hk hf hs
  generalize w1.heap.size = g at *
  have u0 : W2.cell? ⟨g, 0, none⟩ = some (.int .i64 K) := HF2.out.cell 0
  have u1 : W2.cell? ⟨g, 1, none⟩ = some (.int .i64 F) := HF2.out.cell 1
  have u2 : W2.cell? ⟨g, 2, none⟩ = some (.int .i64 S) := HF2.out.cell 2
  have u3 : W2.cell? ⟨g, 3, none⟩ = some (.slice A2 n2 c2) := HF2.out.cell 3
  rcases mis_key K S with ⟨hm, ⟨e0, e1⟩ | ⟨e0, e1, e2⟩ | ⟨e0, e1, e2, e3⟩ | ⟨e0, e1, e2, e3, e4⟩ | ⟨e0, e1, e2, e3, e4, e5⟩⟩ | ⟨e0, e1, e2⟩ | ⟨e0, e1, e2, e3⟩ | ⟨e0, e1, e2, e3, e4⟩ | ⟨e0, e1, e2, e3, e4, e5⟩ | ⟨e0, e1, e2, e3, e4, e5⟩ | ⟨e0, e1, e2, e3, e4, e5⟩
  · obtain ⟨rfl, rfl, rfl⟩ : b1 = 2 ∧ b2 = 1 ∧ b3 = 0 := by have h := HZP.out hm; simpa using h
    clear hm
    first | have m0 := bne_t e0 | have m0 := bne_f e0
    go_upto_region 5 with (go_at_call 10; refine (of_is K F S _ L2 _ (HV2.out.below (by go_grown) (Nat.le_refl _)) HY2.out _ _ _ _ _ _ _ _ _ _ _ _ _ _ _ HOF).mono ?_; rintro e w3 ⟨⟨Ab, cb, As, cs, rfl, hob, hsv⟩, hB3⟩; have hC3 : Below W2.heap.size W2 w3 := Below.trans (by go_grown) (hB3.mono (by first | omega | (simp only [World.size_alloc]; omega))); have hA3 : Below w.heap.size w w3 := hA2.trans (hC3.mono hs2); have hs3 := hA3.size; have hs3' := hC3.size; have HF3 := Lib.hid (HF2.out.below hC3 hl2))
    refine wp_forget (fun W => Below w.heap.size w W ∧ w3.heap.size + 1 < W.heap.size ∧ Hid (Blk W g 32 (fC K F S (.slice A2 n2 c2))) ∧ Hid (Blk W w3.heap.size 26 #[.int .i64 pty, .int .i64 pst, .bool pe, .bool pf, .bool pk, .slice Ab pbody.length cb, .int .i64 pco, .int .i64 pla, .int .i64 pmo, .int .i64 pcs, .slice As pn cs]) ∧ Hid (Blk W (w3.heap.size + 1) 28 #[.int .i64 2, .int .i64 1, .int .i64 0]) ∧ Hid (BS W (.slice Ab pbody.length cb) pbody) ∧ Hid (Rowy W (.slice As pn cs) pn 2 (SV pZ))) ⟨by go_grown, by go_size, Lib.hid ((HF3.out.alloc _).alloc _), Lib.hid ((Blk.new _ _ _).alloc _), Lib.hid (Blk.new_at (by go_size)), Lib.hid ((bs_own hob rfl).below (by go_grown) (Nat.le_refl _)), Lib.hid ((rowy_own hsv).below (by go_grown) (Nat.le_refl _))⟩ ?_
    rintro W4 ⟨hA4, hl4, HF4, HP4, HX4, HD4, HS4⟩
    clear hob hsv hB3 hC3 hA3
    have hl5 : g < w3.heap.size := HF3.out.lt
    clear HF3 hs3 hs3' u0 u1 u2 u3
    generalize w3.heap.size = g2 at *
    have hs4 := hA4.size
    have hl6 : g < W4.heap.size := by omega
    have hl7 : g2 < W4.heap.size := by omega
    have f0 : W4.cell? ⟨g, 0, none⟩ = some (.int .i64 K) := HF4.out.cell 0
    have f1 : W4.cell? ⟨g, 1, none⟩ = some (.int .i64 F) := HF4.out.cell 1
    have f2 : W4.cell? ⟨g, 2, none⟩ = some (.int .i64 S) := HF4.out.cell 2
    have f3 : W4.cell? ⟨g, 3, none⟩ = some (.slice A2 n2 c2) := HF4.out.cell 3
    have p0 : W4.cell? ⟨g2, 0, none⟩ = some (.int .i64 pty) := HP4.out.cell 0
    have p1 : W4.cell? ⟨g2, 1, none⟩ = some (.int .i64 pst) := HP4.out.cell 1
    have p2 : W4.cell? ⟨g2, 2, none⟩ = some (.bool pe) := HP4.out.cell 2
    have p3 : W4.cell? ⟨g2, 3, none⟩ = some (.bool pf) := HP4.out.cell 3
    have p4 : W4.cell? ⟨g2, 4, none⟩ = some (.bool pk) := HP4.out.cell 4
    have p5 : W4.cell? ⟨g2, 5, none⟩ = some (.slice Ab pbody.length cb) := HP4.out.cell 5
    have p6 : W4.cell? ⟨g2, 6, none⟩ = some (.int .i64 pco) := HP4.out.cell 6
    have p7 : W4.cell? ⟨g2, 7, none⟩ = some (.int .i64 pla) := HP4.out.cell 7
    have p8 : W4.cell? ⟨g2, 8, none⟩ = some (.int .i64 pmo) := HP4.out.cell 8
    have p9 : W4.cell? ⟨g2, 9, none⟩ = some (.int .i64 pcs) := HP4.out.cell 9
    have p10 : W4.cell? ⟨g2, 10, none⟩ = some (.slice As pn cs) := HP4.out.cell 10
    have x0 : W4.cell? ⟨g2 + 1, 0, none⟩ = some (.int .i64 2) := HX4.out.cell 0
    have x1 : W4.cell? ⟨g2 + 1, 1, none⟩ = some (.int .i64 1) := HX4.out.cell 1
    have x2 : W4.cell? ⟨g2 + 1, 2, none⟩ = some (.int .i64 0) := HX4.out.cell 2
    go_wp2_with (go_at_call 3; refine (runs_any _).mono ?_; rintro e w6 ⟨rfl, hB6⟩)
    go_ret
    exact ⟨rfl, hA4.trans (hB6.mono hs4)⟩
  · obtain ⟨rfl, rfl, rfl⟩ : b1 = 2 ∧ b2 = 1 ∧ b3 = 0 := by have h := HZP.out hm; simpa using h
    clear hm
    first | have m0 := bne_t e0 | have m0 := bne_f e0
    go_upto_region 5 with (go_at_call 10; refine (of_is K F S _ L2 _ (HV2.out.below (by go_grown) (Nat.le_refl _)) HY2.out _ _ _ _ _ _ _ _ _ _ _ _ _ _ _ HOF).mono ?_; rintro e w3 ⟨⟨Ab, cb, As, cs, rfl, hob, hsv⟩, hB3⟩; have hC3 : Below W2.heap.size W2 w3 := Below.trans (by go_grown) (hB3.mono (by first | omega | (simp only [World.size_alloc]; omega))); have hA3 : Below w.heap.size w w3 := hA2.trans (hC3.mono hs2); have hs3 := hA3.size; have hs3' := hC3.size; have HF3 := Lib.hid (HF2.out.below hC3 hl2))
    refine wp_forget (fun W => Below w.heap.size w W ∧ w3.heap.size + 1 < W.heap.size ∧ Hid (Blk W g 32 (fC K F S (.slice A2 n2 c2))) ∧ Hid (Blk W w3.heap.size 26 #[.int .i64 pty, .int .i64 pst, .bool pe, .bool pf, .bool pk, .slice Ab pbody.length cb, .int .i64 pco, .int .i64 pla, .int .i64 pmo, .int .i64 pcs, .slice As pn cs]) ∧ Hid (Blk W (w3.heap.size + 1) 28 #[.int .i64 2, .int .i64 1, .int .i64 0]) ∧ Hid (BS W (.slice Ab pbody.length cb) pbody) ∧ Hid (Rowy W (.slice As pn cs) pn 2 (SV pZ))) ⟨by go_grown, by go_size, Lib.hid ((HF3.out.alloc _).alloc _), Lib.hid ((Blk.new _ _ _).alloc _), Lib.hid (Blk.new_at (by go_size)), Lib.hid ((bs_own hob rfl).below (by go_grown) (Nat.le_refl _)), Lib.hid ((rowy_own hsv).below (by go_grown) (Nat.le_refl _))⟩ ?_
    rintro W4 ⟨hA4, hl4, HF4, HP4, HX4, HD4, HS4⟩
    clear hob hsv hB3 hC3 hA3
    have hl5 : g < w3.heap.size := HF3.out.lt
    clear HF3 hs3 hs3' u0 u1 u2 u3
    generalize w3.heap.size = g2 at *
    have hs4 := hA4.size
    have hl6 : g < W4.heap.size := by omega
    have hl7 : g2 < W4.heap.size := by omega
    have f0 : W4.cell? ⟨g, 0, none⟩ = some (.int .i64 K) := HF4.out.cell 0
    have f1 : W4.cell? ⟨g, 1, none⟩ = some (.int .i64 F) := HF4.out.cell 1
    have f2 : W4.cell? ⟨g, 2, none⟩ = some (.int .i64 S) := HF4.out.cell 2
    have f3 : W4.cell? ⟨g, 3, none⟩ = some (.slice A2 n2 c2) := HF4.out.cell 3
    have p0 : W4.cell? ⟨g2, 0, none⟩ = some (.int .i64 pty) := HP4.out.cell 0
    have p1 : W4.cell? ⟨g2, 1, none⟩ = some (.int .i64 pst) := HP4.out.cell 1
    have p2 : W4.cell? ⟨g2, 2, none⟩ = some (.bool pe) := HP4.out.cell 2
    have p3 : W4.cell? ⟨g2, 3, none⟩ = some (.bool pf) := HP4.out.cell 3
    have p4 : W4.cell? ⟨g2, 4, none⟩ = some (.bool pk) := HP4.out.cell 4
    have p5 : W4.cell? ⟨g2, 5, none⟩ = some (.slice Ab pbody.length cb) := HP4.out.cell 5
    have p6 : W4.cell? ⟨g2, 6, none⟩ = some (.int .i64 pco) := HP4.out.cell 6
    have p7 : W4.cell? ⟨g2, 7, none⟩ = some (.int .i64 pla) := HP4.out.cell 7
    have p8 : W4.cell? ⟨g2, 8, none⟩ = some (.int .i64 pmo) := HP4.out.cell 8
    have p9 : W4.cell? ⟨g2, 9, none⟩ = some (.int .i64 pcs) := HP4.out.cell 9
    have p10 : W4.cell? ⟨g2, 10, none⟩ = some (.slice As pn cs) := HP4.out.cell 10
    have x0 : W4.cell? ⟨g2 + 1, 0, none⟩ = some (.int .i64 2) := HX4.out.cell 0
    have x1 : W4.cell? ⟨g2 + 1, 1, none⟩ = some (.int .i64 1) := HX4.out.cell 1
    have x2 : W4.cell? ⟨g2 + 1, 2, none⟩ = some (.int .i64 0) := HX4.out.cell 2
    go_wp2_with (go_at_call 3; refine (runs_any _).mono ?_; rintro e w6 ⟨rfl, hB6⟩)
    go_ret
    exact ⟨rfl, hA4.trans (hB6.mono hs4)⟩
  · obtain ⟨rfl, rfl, rfl⟩ : b1 = 2 ∧ b2 = 1 ∧ b3 = 0 := by have h := HZP.out hm; simpa using h
    clear hm
    first | have m0 := bne_t e0 | have m0 := bne_f e0
    go_upto_region 5 with (go_at_call 10; refine (of_is K F S _ L2 _ (HV2.out.below (by go_grown) (Nat.le_refl _)) HY2.out _ _ _ _ _ _ _ _ _ _ _ _ _ _ _ HOF).mono ?_; rintro e w3 ⟨⟨Ab, cb, As, cs, rfl, hob, hsv⟩, hB3⟩; have hC3 : Below W2.heap.size W2 w3 := Below.trans (by go_grown) (hB3.mono (by first | omega | (simp only [World.size_alloc]; omega))); have hA3 : Below w.heap.size w w3 := hA2.trans (hC3.mono hs2); have hs3 := hA3.size; have hs3' := hC3.size; have HF3 := Lib.hid (HF2.out.below hC3 hl2))
    refine wp_forget (fun W => Below w.heap.size w W ∧ w3.heap.size + 1 < W.heap.size ∧ Hid (Blk W g 32 (fC K F S (.slice A2 n2 c2))) ∧ Hid (Blk W w3.heap.size 26 #[.int .i64 pty, .int .i64 pst, .bool pe, .bool pf, .bool pk, .slice Ab pbody.length cb, .int .i64 pco, .int .i64 pla, .int .i64 pmo, .int .i64 pcs, .slice As pn cs]) ∧ Hid (Blk W (w3.heap.size + 1) 28 #[.int .i64 2, .int .i64 1, .int .i64 0]) ∧ Hid (BS W (.slice Ab pbody.length cb) pbody) ∧ Hid (Rowy W (.slice As pn cs) pn 2 (SV pZ))) ⟨by go_grown, by go_size, Lib.hid ((HF3.out.alloc _).alloc _), Lib.hid ((Blk.new _ _ _).alloc _), Lib.hid (Blk.new_at (by go_size)), Lib.hid ((bs_own hob rfl).below (by go_grown) (Nat.le_refl _)), Lib.hid ((rowy_own hsv).below (by go_grown) (Nat.le_refl _))⟩ ?_
    rintro W4 ⟨hA4, hl4, HF4, HP4, HX4, HD4, HS4⟩
    clear hob hsv hB3 hC3 hA3
    have hl5 : g < w3.heap.size := HF3.out.lt
    clear HF3 hs3 hs3' u0 u1 u2 u3
    generalize w3.heap.size = g2 at *
    have hs4 := hA4.size
    have hl6 : g < W4.heap.size := by omega
    have hl7 : g2 < W4.heap.size := by omega
    have f0 : W4.cell? ⟨g, 0, none⟩ = some (.int .i64 K) := HF4.out.cell 0
    have f1 : W4.cell? ⟨g, 1, none⟩ = some (.int .i64 F) := HF4.out.cell 1
    have f2 : W4.cell? ⟨g, 2, none⟩ = some (.int .i64 S) := HF4.out.cell 2
    have f3 : W4.cell? ⟨g, 3, none⟩ = some (.slice A2 n2 c2) := HF4.out.cell 3
    have p0 : W4.cell? ⟨g2, 0, none⟩ = some (.int .i64 pty) := HP4.out.cell 0
    have p1 : W4.cell? ⟨g2, 1, none⟩ = some (.int .i64 pst) := HP4.out.cell 1
    have p2 : W4.cell? ⟨g2, 2, none⟩ = some (.bool pe) := HP4.out.cell 2
    have p3 : W4.cell? ⟨g2, 3, none⟩ = some (.bool pf) := HP4.out.cell 3
    have p4 : W4.cell? ⟨g2, 4, none⟩ = some (.bool pk) := HP4.out.cell 4
    have p5 : W4.cell? ⟨g2, 5, none⟩ = some (.slice Ab pbody.length cb) := HP4.out.cell 5
    have p6 : W4.cell? ⟨g2, 6, none⟩ = some (.int .i64 pco) := HP4.out.cell 6
    have p7 : W4.cell? ⟨g2, 7, none⟩ = some (.int .i64 pla) := HP4.out.cell 7
    have p8 : W4.cell? ⟨g2, 8, none⟩ = some (.int .i64 pmo) := HP4.out.cell 8
    have p9 : W4.cell? ⟨g2, 9, none⟩ = some (.int .i64 pcs) := HP4.out.cell 9
    have p10 : W4.cell? ⟨g2, 10, none⟩ = some (.slice As pn cs) := HP4.out.cell 10
    have x0 : W4.cell? ⟨g2 + 1, 0, none⟩ = some (.int .i64 2) := HX4.out.cell 0
    have x1 : W4.cell? ⟨g2 + 1, 1, none⟩ = some (.int .i64 1) := HX4.out.cell 1
    have x2 : W4.cell? ⟨g2 + 1, 2, none⟩ = some (.int .i64 0) := HX4.out.cell 2
    go_wp2_with (go_at_call 3; refine (runs_any _).mono ?_; rintro e w6 ⟨rfl, hB6⟩)
    go_ret
    exact ⟨rfl, hA4.trans (hB6.mono hs4)⟩
  · obtain ⟨rfl, rfl, rfl⟩ : b1 = 2 ∧ b2 = 1 ∧ b3 = 0 := by have h := HZP.out hm; simpa using h
    clear hm
    first | have m0 := bne_t e0 | have m0 := bne_f e0
    first | have m1 := bne_t e4 | have m1 := bne_f e4
    go_upto_region 5 with (go_at_call 10; refine (of_is K F S _ L2 _ (HV2.out.below (by go_grown) (Nat.le_refl _)) HY2.out _ _ _ _ _ _ _ _ _ _ _ _ _ _ _ HOF).mono ?_; rintro e w3 ⟨⟨Ab, cb, As, cs, rfl, hob, hsv⟩, hB3⟩; have hC3 : Below W2.heap.size W2 w3 := Below.trans (by go_grown) (hB3.mono (by first | omega | (simp only [World.size_alloc]; omega))); have hA3 : Below w.heap.size w w3 := hA2.trans (hC3.mono hs2); have hs3 := hA3.size; have hs3' := hC3.size; have HF3 := Lib.hid (HF2.out.below hC3 hl2))
    refine wp_forget (fun W => Below w.heap.size w W ∧ w3.heap.size + 1 < W.heap.size ∧ Hid (Blk W g 32 (fC K F S (.slice A2 n2 c2))) ∧ Hid (Blk W w3.heap.size 26 #[.int .i64 pty, .int .i64 pst, .bool pe, .bool pf, .bool pk, .slice Ab pbody.length cb, .int .i64 pco, .int .i64 pla, .int .i64 pmo, .int .i64 pcs, .slice As pn cs]) ∧ Hid (Blk W (w3.heap.size + 1) 28 #[.int .i64 2, .int .i64 1, .int .i64 0]) ∧ Hid (BS W (.slice Ab pbody.length cb) pbody) ∧ Hid (Rowy W (.slice As pn cs) pn 2 (SV pZ))) ⟨by go_grown, by go_size, Lib.hid ((HF3.out.alloc _).alloc _), Lib.hid ((Blk.new _ _ _).alloc _), Lib.hid (Blk.new_at (by go_size)), Lib.hid ((bs_own hob rfl).below (by go_grown) (Nat.le_refl _)), Lib.hid ((rowy_own hsv).below (by go_grown) (Nat.le_refl _))⟩ ?_
    rintro W4 ⟨hA4, hl4, HF4, HP4, HX4, HD4, HS4⟩
    clear hob hsv hB3 hC3 hA3
    have hl5 : g < w3.heap.size := HF3.out.lt
    clear HF3 hs3 hs3' u0 u1 u2 u3
    generalize w3.heap.size = g2 at *
    have hs4 := hA4.size
    have hl6 : g < W4.heap.size := by omega
    have hl7 : g2 < W4.heap.size := by omega
    have f0 : W4.cell? ⟨g, 0, none⟩ = some (.int .i64 K) := HF4.out.cell 0
    have f1 : W4.cell? ⟨g, 1, none⟩ = some (.int .i64 F) := HF4.out.cell 1
    have f2 : W4.cell? ⟨g, 2, none⟩ = some (.int .i64 S) := HF4.out.cell 2
    have f3 : W4.cell? ⟨g, 3, none⟩ = some (.slice A2 n2 c2) := HF4.out.cell 3
    have p0 : W4.cell? ⟨g2, 0, none⟩ = some (.int .i64 pty) := HP4.out.cell 0
    have p1 : W4.cell? ⟨g2, 1, none⟩ = some (.int .i64 pst) := HP4.out.cell 1
    have p2 : W4.cell? ⟨g2, 2, none⟩ = some (.bool pe) := HP4.out.cell 2
    have p3 : W4.cell? ⟨g2, 3, none⟩ = some (.bool pf) := HP4.out.cell 3
    have p4 : W4.cell? ⟨g2, 4, none⟩ = some (.bool pk) := HP4.out.cell 4
    have p5 : W4.cell? ⟨g2, 5, none⟩ = some (.slice Ab pbody.length cb) := HP4.out.cell 5
    have p6 : W4.cell? ⟨g2, 6, none⟩ = some (.int .i64 pco) := HP4.out.cell 6
    have p7 : W4.cell? ⟨g2, 7, none⟩ = some (.int .i64 pla) := HP4.out.cell 7
    have p8 : W4.cell? ⟨g2, 8, none⟩ = some (.int .i64 pmo) := HP4.out.cell 8
    have p9 : W4.cell? ⟨g2, 9, none⟩ = some (.int .i64 pcs) := HP4.out.cell 9
    have p10 : W4.cell? ⟨g2, 10, none⟩ = some (.slice As pn cs) := HP4.out.cell 10
    have x0 : W4.cell? ⟨g2 + 1, 0, none⟩ = some (.int .i64 2) := HX4.out.cell 0
    have x1 : W4.cell? ⟨g2 + 1, 1, none⟩ = some (.int .i64 1) := HX4.out.cell 1
    have x2 : W4.cell? ⟨g2 + 1, 2, none⟩ = some (.int .i64 0) := HX4.out.cell 2
    go_wp2_with (go_at_call 3; refine (runs_any _).mono ?_; rintro e w6 ⟨rfl, hB6⟩)
    go_ret
    exact ⟨rfl, hA4.trans (hB6.mono hs4)⟩
  · obtain ⟨rfl, rfl, rfl⟩ : b1 = 2 ∧ b2 = 1 ∧ b3 = 0 := by have h := HZP.out hm; simpa using h
    clear hm
    first | have m0 := bne_t e0 | have m0 := bne_f e0
    first | have m1 := bne_t e4 | have m1 := bne_f e4
    go_upto_region 5 with (go_at_call 10; refine (of_is K F S _ L2 _ (HV2.out.below (by go_grown) (Nat.le_refl _)) HY2.out _ _ _ _ _ _ _ _ _ _ _ _ _ _ _ HOF).mono ?_; rintro e w3 ⟨⟨Ab, cb, As, cs, rfl, hob, hsv⟩, hB3⟩; have hC3 : Below W2.heap.size W2 w3 := Below.trans (by go_grown) (hB3.mono (by first | omega | (simp only [World.size_alloc]; omega))); have hA3 : Below w.heap.size w w3 := hA2.trans (hC3.mono hs2); have hs3 := hA3.size; have hs3' := hC3.size; have HF3 := Lib.hid (HF2.out.below hC3 hl2))
    refine wp_forget (fun W => Below w.heap.size w W ∧ w3.heap.size + 1 < W.heap.size ∧ Hid (Blk W g 32 (fC K F S (.slice A2 n2 c2))) ∧ Hid (Blk W w3.heap.size 26 #[.int .i64 pty, .int .i64 pst, .bool pe, .bool pf, .bool pk, .slice Ab pbody.length cb, .int .i64 pco, .int .i64 pla, .int .i64 pmo, .int .i64 pcs, .slice As pn cs]) ∧ Hid (Blk W (w3.heap.size + 1) 28 #[.int .i64 2, .int .i64 1, .int .i64 0]) ∧ Hid (BS W (.slice Ab pbody.length cb) pbody) ∧ Hid (Rowy W (.slice As pn cs) pn 2 (SV pZ))) ⟨by go_grown, by go_size, Lib.hid ((HF3.out.alloc _).alloc _), Lib.hid ((Blk.new _ _ _).alloc _), Lib.hid (Blk.new_at (by go_size)), Lib.hid ((bs_own hob rfl).below (by go_grown) (Nat.le_refl _)), Lib.hid ((rowy_own hsv).below (by go_grown) (Nat.le_refl _))⟩ ?_
    rintro W4 ⟨hA4, hl4, HF4, HP4, HX4, HD4, HS4⟩
    clear hob hsv hB3 hC3 hA3
    have hl5 : g < w3.heap.size := HF3.out.lt
    clear HF3 hs3 hs3' u0 u1 u2 u3
    generalize w3.heap.size = g2 at *
    have hs4 := hA4.size
    have hl6 : g < W4.heap.size := by omega
    have hl7 : g2 < W4.heap.size := by omega
    have f0 : W4.cell? ⟨g, 0, none⟩ = some (.int .i64 K) := HF4.out.cell 0
    have f1 : W4.cell? ⟨g, 1, none⟩ = some (.int .i64 F) := HF4.out.cell 1
    have f2 : W4.cell? ⟨g, 2, none⟩ = some (.int .i64 S) := HF4.out.cell 2
    have f3 : W4.cell? ⟨g, 3, none⟩ = some (.slice A2 n2 c2) := HF4.out.cell 3
    have p0 : W4.cell? ⟨g2, 0, none⟩ = some (.int .i64 pty) := HP4.out.cell 0
    have p1 : W4.cell? ⟨g2, 1, none⟩ = some (.int .i64 pst) := HP4.out.cell 1
    have p2 : W4.cell? ⟨g2, 2, none⟩ = some (.bool pe) := HP4.out.cell 2
    have p3 : W4.cell? ⟨g2, 3, none⟩ = some (.bool pf) := HP4.out.cell 3
    have p4 : W4.cell? ⟨g2, 4, none⟩ = some (.bool pk) := HP4.out.cell 4
    have p5 : W4.cell? ⟨g2, 5, none⟩ = some (.slice Ab pbody.length cb) := HP4.out.cell 5
    have p6 : W4.cell? ⟨g2, 6, none⟩ = some (.int .i64 pco) := HP4.out.cell 6
    have p7 : W4.cell? ⟨g2, 7, none⟩ = some (.int .i64 pla) := HP4.out.cell 7
    have p8 : W4.cell? ⟨g2, 8, none⟩ = some (.int .i64 pmo) := HP4.out.cell 8
    have p9 : W4.cell? ⟨g2, 9, none⟩ = some (.int .i64 pcs) := HP4.out.cell 9
    have p10 : W4.cell? ⟨g2, 10, none⟩ = some (.slice As pn cs) := HP4.out.cell 10
    have x0 : W4.cell? ⟨g2 + 1, 0, none⟩ = some (.int .i64 2) := HX4.out.cell 0
    have x1 : W4.cell? ⟨g2 + 1, 1, none⟩ = some (.int .i64 1) := HX4.out.cell 1
    have x2 : W4.cell? ⟨g2 + 1, 2, none⟩ = some (.int .i64 0) := HX4.out.cell 2
    go_wp2_with (go_at_call 3; refine (runs_any _).mono ?_; rintro e w6 ⟨rfl, hB6⟩)
    go_ret
    exact ⟨rfl, hA4.trans (hB6.mono hs4)⟩
  · skip
    first | have m0 := bne_t e0 | have m0 := bne_f e0
    go_upto_region 5 with (go_at_call 10; refine (of_is K F S _ L2 _ (HV2.out.below (by go_grown) (Nat.le_refl _)) HY2.out _ _ _ _ _ _ _ _ _ _ _ _ _ _ _ HOF).mono ?_; rintro e w3 ⟨⟨Ab, cb, As, cs, rfl, hob, hsv⟩, hB3⟩; have hC3 : Below W2.heap.size W2 w3 := Below.trans (by go_grown) (hB3.mono (by first | omega | (simp only [World.size_alloc]; omega))); have hA3 : Below w.heap.size w w3 := hA2.trans (hC3.mono hs2); have hs3 := hA3.size; have hs3' := hC3.size; have HF3 := Lib.hid (HF2.out.below hC3 hl2))
    refine wp_forget (fun W => Below w.heap.size w W ∧ w3.heap.size + 1 < W.heap.size ∧ Hid (Blk W g 32 (fC K F S (.slice A2 n2 c2))) ∧ Hid (Blk W w3.heap.size 26 #[.int .i64 pty, .int .i64 pst, .bool pe, .bool pf, .bool pk, .slice Ab pbody.length cb, .int .i64 pco, .int .i64 pla, .int .i64 pmo, .int .i64 pcs, .slice As pn cs]) ∧ Hid (Blk W (w3.heap.size + 1) 28 #[.int .i64 b1, .int .i64 b2, .int .i64 b3]) ∧ Hid (BS W (.slice Ab pbody.length cb) pbody) ∧ Hid (Rowy W (.slice As pn cs) pn 2 (SV pZ))) ⟨by go_grown, by go_size, Lib.hid ((HF3.out.alloc _).alloc _), Lib.hid ((Blk.new _ _ _).alloc _), Lib.hid (Blk.new_at (by go_size)), Lib.hid ((bs_own hob rfl).below (by go_grown) (Nat.le_refl _)), Lib.hid ((rowy_own hsv).below (by go_grown) (Nat.le_refl _))⟩ ?_
    rintro W4 ⟨hA4, hl4, HF4, HP4, HX4, HD4, HS4⟩
    clear hob hsv hB3 hC3 hA3
    have hl5 : g < w3.heap.size := HF3.out.lt
    clear HF3 hs3 hs3' u0 u1 u2 u3
    generalize w3.heap.size = g2 at *
    have hs4 := hA4.size
    have hl6 : g < W4.heap.size := by omega
    have hl7 : g2 < W4.heap.size := by omega
    have f0 : W4.cell? ⟨g, 0, none⟩ = some (.int .i64 K) := HF4.out.cell 0
    have f1 : W4.cell? ⟨g, 1, none⟩ = some (.int .i64 F) := HF4.out.cell 1
    have f2 : W4.cell? ⟨g, 2, none⟩ = some (.int .i64 S) := HF4.out.cell 2
    have f3 : W4.cell? ⟨g, 3, none⟩ = some (.slice A2 n2 c2) := HF4.out.cell 3
    have p0 : W4.cell? ⟨g2, 0, none⟩ = some (.int .i64 pty) := HP4.out.cell 0
    have p1 : W4.cell? ⟨g2, 1, none⟩ = some (.int .i64 pst) := HP4.out.cell 1
    have p2 : W4.cell? ⟨g2, 2, none⟩ = some (.bool pe) := HP4.out.cell 2
    have p3 : W4.cell? ⟨g2, 3, none⟩ = some (.bool pf) := HP4.out.cell 3
    have p4 : W4.cell? ⟨g2, 4, none⟩ = some (.bool pk) := HP4.out.cell 4
    have p5 : W4.cell? ⟨g2, 5, none⟩ = some (.slice Ab pbody.length cb) := HP4.out.cell 5
    have p6 : W4.cell? ⟨g2, 6, none⟩ = some (.int .i64 pco) := HP4.out.cell 6
    have p7 : W4.cell? ⟨g2, 7, none⟩ = some (.int .i64 pla) := HP4.out.cell 7
    have p8 : W4.cell? ⟨g2, 8, none⟩ = some (.int .i64 pmo) := HP4.out.cell 8
    have p9 : W4.cell? ⟨g2, 9, none⟩ = some (.int .i64 pcs) := HP4.out.cell 9
    have p10 : W4.cell? ⟨g2, 10, none⟩ = some (.slice As pn cs) := HP4.out.cell 10
    have x0 : W4.cell? ⟨g2 + 1, 0, none⟩ = some (.int .i64 b1) := HX4.out.cell 0
    have x1 : W4.cell? ⟨g2 + 1, 1, none⟩ = some (.int .i64 b2) := HX4.out.cell 1
    have x2 : W4.cell? ⟨g2 + 1, 2, none⟩ = some (.int .i64 b3) := HX4.out.cell 2
    go_wp2_with (go_at_call 3; refine (runs_any _).mono ?_; rintro e w6 ⟨rfl, hB6⟩)
    go_ret
    exact ⟨rfl, hA4.trans (hB6.mono hs4)⟩
  · skip
    first | have m0 := bne_t e0 | have m0 := bne_f e0
    go_upto_region 5 with (go_at_call 10; refine (of_is K F S _ L2 _ (HV2.out.below (by go_grown) (Nat.le_refl _)) HY2.out _ _ _ _ _ _ _ _ _ _ _ _ _ _ _ HOF).mono ?_; rintro e w3 ⟨⟨Ab, cb, As, cs, rfl, hob, hsv⟩, hB3⟩; have hC3 : Below W2.heap.size W2 w3 := Below.trans (by go_grown) (hB3.mono (by first | omega | (simp only [World.size_alloc]; omega))); have hA3 : Below w.heap.size w w3 := hA2.trans (hC3.mono hs2); have hs3 := hA3.size; have hs3' := hC3.size; have HF3 := Lib.hid (HF2.out.below hC3 hl2))
    refine wp_forget (fun W => Below w.heap.size w W ∧ w3.heap.size + 1 < W.heap.size ∧ Hid (Blk W g 32 (fC K F S (.slice A2 n2 c2))) ∧ Hid (Blk W w3.heap.size 26 #[.int .i64 pty, .int .i64 pst, .bool pe, .bool pf, .bool pk, .slice Ab pbody.length cb, .int .i64 pco, .int .i64 pla, .int .i64 pmo, .int .i64 pcs, .slice As pn cs]) ∧ Hid (Blk W (w3.heap.size + 1) 28 #[.int .i64 b1, .int .i64 b2, .int .i64 b3]) ∧ Hid (BS W (.slice Ab pbody.length cb) pbody) ∧ Hid (Rowy W (.slice As pn cs) pn 2 (SV pZ))) ⟨by go_grown, by go_size, Lib.hid ((HF3.out.alloc _).alloc _), Lib.hid ((Blk.new _ _ _).alloc _), Lib.hid (Blk.new_at (by go_size)), Lib.hid ((bs_own hob rfl).below (by go_grown) (Nat.le_refl _)), Lib.hid ((rowy_own hsv).below (by go_grown) (Nat.le_refl _))⟩ ?_
    rintro W4 ⟨hA4, hl4, HF4, HP4, HX4, HD4, HS4⟩
    clear hob hsv hB3 hC3 hA3
    have hl5 : g < w3.heap.size := HF3.out.lt
    clear HF3 hs3 hs3' u0 u1 u2 u3
    generalize w3.heap.size = g2 at *
    have hs4 := hA4.size
    have hl6 : g < W4.heap.size := by omega
    have hl7 : g2 < W4.heap.size := by omega
    have f0 : W4.cell? ⟨g, 0, none⟩ = some (.int .i64 K) := HF4.out.cell 0
    have f1 : W4.cell? ⟨g, 1, none⟩ = some (.int .i64 F) := HF4.out.cell 1
    have f2 : W4.cell? ⟨g, 2, none⟩ = some (.int .i64 S) := HF4.out.cell 2
    have f3 : W4.cell? ⟨g, 3, none⟩ = some (.slice A2 n2 c2) := HF4.out.cell 3
    have p0 : W4.cell? ⟨g2, 0, none⟩ = some (.int .i64 pty) := HP4.out.cell 0
    have p1 : W4.cell? ⟨g2, 1, none⟩ = some (.int .i64 pst) := HP4.out.cell 1
    have p2 : W4.cell? ⟨g2, 2, none⟩ = some (.bool pe) := HP4.out.cell 2
    have p3 : W4.cell? ⟨g2, 3, none⟩ = some (.bool pf) := HP4.out.cell 3
    have p4 : W4.cell? ⟨g2, 4, none⟩ = some (.bool pk) := HP4.out.cell 4
    have p5 : W4.cell? ⟨g2, 5, none⟩ = some (.slice Ab pbody.length cb) := HP4.out.cell 5
    have p6 : W4.cell? ⟨g2, 6, none⟩ = some (.int .i64 pco) := HP4.out.cell 6
    have p7 : W4.cell? ⟨g2, 7, none⟩ = some (.int .i64 pla) := HP4.out.cell 7
    have p8 : W4.cell? ⟨g2, 8, none⟩ = some (.int .i64 pmo) := HP4.out.cell 8
    have p9 : W4.cell? ⟨g2, 9, none⟩ = some (.int .i64 pcs) := HP4.out.cell 9
    have p10 : W4.cell? ⟨g2, 10, none⟩ = some (.slice As pn cs) := HP4.out.cell 10
    have x0 : W4.cell? ⟨g2 + 1, 0, none⟩ = some (.int .i64 b1) := HX4.out.cell 0
    have x1 : W4.cell? ⟨g2 + 1, 1, none⟩ = some (.int .i64 b2) := HX4.out.cell 1
    have x2 : W4.cell? ⟨g2 + 1, 2, none⟩ = some (.int .i64 b3) := HX4.out.cell 2
    go_wp2_with (go_at_call 3; refine (runs_any _).mono ?_; rintro e w6 ⟨rfl, hB6⟩)
    go_ret
    exact ⟨rfl, hA4.trans (hB6.mono hs4)⟩
  · skip
    first | have m0 := bne_t e0 | have m0 := bne_f e0
    go_upto_region 5 with (go_at_call 10; refine (of_is K F S _ L2 _ (HV2.out.below (by go_grown) (Nat.le_refl _)) HY2.out _ _ _ _ _ _ _ _ _ _ _ _ _ _ _ HOF).mono ?_; rintro e w3 ⟨⟨Ab, cb, As, cs, rfl, hob, hsv⟩, hB3⟩; have hC3 : Below W2.heap.size W2 w3 := Below.trans (by go_grown) (hB3.mono (by first | omega | (simp only [World.size_alloc]; omega))); have hA3 : Below w.heap.size w w3 := hA2.trans (hC3.mono hs2); have hs3 := hA3.size; have hs3' := hC3.size; have HF3 := Lib.hid (HF2.out.below hC3 hl2))
    refine wp_forget (fun W => Below w.heap.size w W ∧ w3.heap.size + 1 < W.heap.size ∧ Hid (Blk W g 32 (fC K F S (.slice A2 n2 c2))) ∧ Hid (Blk W w3.heap.size 26 #[.int .i64 pty, .int .i64 pst, .bool pe, .bool pf, .bool pk, .slice Ab pbody.length cb, .int .i64 pco, .int .i64 pla, .int .i64 pmo, .int .i64 pcs, .slice As pn cs]) ∧ Hid (Blk W (w3.heap.size + 1) 28 #[.int .i64 b1, .int .i64 b2, .int .i64 b3]) ∧ Hid (BS W (.slice Ab pbody.length cb) pbody) ∧ Hid (Rowy W (.slice As pn cs) pn 2 (SV pZ))) ⟨by go_grown, by go_size, Lib.hid ((HF3.out.alloc _).alloc _), Lib.hid ((Blk.new _ _ _).alloc _), Lib.hid (Blk.new_at (by go_size)), Lib.hid ((bs_own hob rfl).below (by go_grown) (Nat.le_refl _)), Lib.hid ((rowy_own hsv).below (by go_grown) (Nat.le_refl _))⟩ ?_
    rintro W4 ⟨hA4, hl4, HF4, HP4, HX4, HD4, HS4⟩
    clear hob hsv hB3 hC3 hA3
    have hl5 : g < w3.heap.size := HF3.out.lt
    clear HF3 hs3 hs3' u0 u1 u2 u3
    generalize w3.heap.size = g2 at *
    have hs4 := hA4.size
    have hl6 : g < W4.heap.size := by omega
    have hl7 : g2 < W4.heap.size := by omega
    have f0 : W4.cell? ⟨g, 0, none⟩ = some (.int .i64 K) := HF4.out.cell 0
    have f1 : W4.cell? ⟨g, 1, none⟩ = some (.int .i64 F) := HF4.out.cell 1
    have f2 : W4.cell? ⟨g, 2, none⟩ = some (.int .i64 S) := HF4.out.cell 2
    have f3 : W4.cell? ⟨g, 3, none⟩ = some (.slice A2 n2 c2) := HF4.out.cell 3
    have p0 : W4.cell? ⟨g2, 0, none⟩ = some (.int .i64 pty) := HP4.out.cell 0
    have p1 : W4.cell? ⟨g2, 1, none⟩ = some (.int .i64 pst) := HP4.out.cell 1
    have p2 : W4.cell? ⟨g2, 2, none⟩ = some (.bool pe) := HP4.out.cell 2
    have p3 : W4.cell? ⟨g2, 3, none⟩ = some (.bool pf) := HP4.out.cell 3
    have p4 : W4.cell? ⟨g2, 4, none⟩ = some (.bool pk) := HP4.out.cell 4
    have p5 : W4.cell? ⟨g2, 5, none⟩ = some (.slice Ab pbody.length cb) := HP4.out.cell 5
    have p6 : W4.cell? ⟨g2, 6, none⟩ = some (.int .i64 pco) := HP4.out.cell 6
    have p7 : W4.cell? ⟨g2, 7, none⟩ = some (.int .i64 pla) := HP4.out.cell 7
    have p8 : W4.cell? ⟨g2, 8, none⟩ = some (.int .i64 pmo) := HP4.out.cell 8
    have p9 : W4.cell? ⟨g2, 9, none⟩ = some (.int .i64 pcs) := HP4.out.cell 9
    have p10 : W4.cell? ⟨g2, 10, none⟩ = some (.slice As pn cs) := HP4.out.cell 10
    have x0 : W4.cell? ⟨g2 + 1, 0, none⟩ = some (.int .i64 b1) := HX4.out.cell 0
    have x1 : W4.cell? ⟨g2 + 1, 1, none⟩ = some (.int .i64 b2) := HX4.out.cell 1
    have x2 : W4.cell? ⟨g2 + 1, 2, none⟩ = some (.int .i64 b3) := HX4.out.cell 2
    go_wp2_with (go_at_call 3; refine (runs_any _).mono ?_; rintro e w6 ⟨rfl, hB6⟩)
    go_ret
    exact ⟨rfl, hA4.trans (hB6.mono hs4)⟩
  · skip
    first | have m0 := bne_t e5 | have m0 := bne_f e5
    first | have m1 := bne_t e3 | have m1 := bne_f e3
    go_upto_region 5 with (go_at_call 10; refine (of_is K F S _ L2 _ (HV2.out.below (by go_grown) (Nat.le_refl _)) HY2.out _ _ _ _ _ _ _ _ _ _ _ _ _ _ _ HOF).mono ?_; rintro e w3 ⟨⟨Ab, cb, As, cs, rfl, hob, hsv⟩, hB3⟩; have hC3 : Below W2.heap.size W2 w3 := Below.trans (by go_grown) (hB3.mono (by first | omega | (simp only [World.size_alloc]; omega))); have hA3 : Below w.heap.size w w3 := hA2.trans (hC3.mono hs2); have hs3 := hA3.size; have hs3' := hC3.size; have HF3 := Lib.hid (HF2.out.below hC3 hl2))
    refine wp_forget (fun W => Below w.heap.size w W ∧ w3.heap.size + 1 < W.heap.size ∧ Hid (Blk W g 32 (fC K F S (.slice A2 n2 c2))) ∧ Hid (Blk W w3.heap.size 26 #[.int .i64 pty, .int .i64 pst, .bool pe, .bool pf, .bool pk, .slice Ab pbody.length cb, .int .i64 pco, .int .i64 pla, .int .i64 pmo, .int .i64 pcs, .slice As pn cs]) ∧ Hid (Blk W (w3.heap.size + 1) 28 #[.int .i64 b1, .int .i64 b2, .int .i64 b3]) ∧ Hid (BS W (.slice Ab pbody.length cb) pbody) ∧ Hid (Rowy W (.slice As pn cs) pn 2 (SV pZ))) ⟨by go_grown, by go_size, Lib.hid ((HF3.out.alloc _).alloc _), Lib.hid ((Blk.new _ _ _).alloc _), Lib.hid (Blk.new_at (by go_size)), Lib.hid ((bs_own hob rfl).below (by go_grown) (Nat.le_refl _)), Lib.hid ((rowy_own hsv).below (by go_grown) (Nat.le_refl _))⟩ ?_
    rintro W4 ⟨hA4, hl4, HF4, HP4, HX4, HD4, HS4⟩
    clear hob hsv hB3 hC3 hA3
    have hl5 : g < w3.heap.size := HF3.out.lt
    clear HF3 hs3 hs3' u0 u1 u2 u3
    generalize w3.heap.size = g2 at *
    have hs4 := hA4.size
    have hl6 : g < W4.heap.size := by omega
    have hl7 : g2 < W4.heap.size := by omega
    have f0 : W4.cell? ⟨g, 0, none⟩ = some (.int .i64 K) := HF4.out.cell 0
    have f1 : W4.cell? ⟨g, 1, none⟩ = some (.int .i64 F) := HF4.out.cell 1
    have f2 : W4.cell? ⟨g, 2, none⟩ = some (.int .i64 S) := HF4.out.cell 2
    have f3 : W4.cell? ⟨g, 3, none⟩ = some (.slice A2 n2 c2) := HF4.out.cell 3
    have p0 : W4.cell? ⟨g2, 0, none⟩ = some (.int .i64 pty) := HP4.out.cell 0
    have p1 : W4.cell? ⟨g2, 1, none⟩ = some (.int .i64 pst) := HP4.out.cell 1
    have p2 : W4.cell? ⟨g2, 2, none⟩ = some (.bool pe) := HP4.out.cell 2
    have p3 : W4.cell? ⟨g2, 3, none⟩ = some (.bool pf) := HP4.out.cell 3
    have p4 : W4.cell? ⟨g2, 4, none⟩ = some (.bool pk) := HP4.out.cell 4
    have p5 : W4.cell? ⟨g2, 5, none⟩ = some (.slice Ab pbody.length cb) := HP4.out.cell 5
    have p6 : W4.cell? ⟨g2, 6, none⟩ = some (.int .i64 pco) := HP4.out.cell 6
    have p7 : W4.cell? ⟨g2, 7, none⟩ = some (.int .i64 pla) := HP4.out.cell 7
    have p8 : W4.cell? ⟨g2, 8, none⟩ = some (.int .i64 pmo) := HP4.out.cell 8
    have p9 : W4.cell? ⟨g2, 9, none⟩ = some (.int .i64 pcs) := HP4.out.cell 9
    have p10 : W4.cell? ⟨g2, 10, none⟩ = some (.slice As pn cs) := HP4.out.cell 10
    have x0 : W4.cell? ⟨g2 + 1, 0, none⟩ = some (.int .i64 b1) := HX4.out.cell 0
    have x1 : W4.cell? ⟨g2 + 1, 1, none⟩ = some (.int .i64 b2) := HX4.out.cell 1
    have x2 : W4.cell? ⟨g2 + 1, 2, none⟩ = some (.int .i64 b3) := HX4.out.cell 2
    go_wp2_with (go_at_call 3; refine (runs_any _).mono ?_; rintro e w6 ⟨rfl, hB6⟩)
    go_ret
    exact ⟨rfl, hA4.trans (hB6.mono hs4)⟩
  · skip
    first | have m0 := bne_t e5 | have m0 := bne_f e5
    first | have m1 := bne_t e3 | have m1 := bne_f e3
    go_upto_region 5 with (go_at_call 10; refine (of_is K F S _ L2 _ (HV2.out.below (by go_grown) (Nat.le_refl _)) HY2.out _ _ _ _ _ _ _ _ _ _ _ _ _ _ _ HOF).mono ?_; rintro e w3 ⟨⟨Ab, cb, As, cs, rfl, hob, hsv⟩, hB3⟩; have hC3 : Below W2.heap.size W2 w3 := Below.trans (by go_grown) (hB3.mono (by first | omega | (simp only [World.size_alloc]; omega))); have hA3 : Below w.heap.size w w3 := hA2.trans (hC3.mono hs2); have hs3 := hA3.size; have hs3' := hC3.size; have HF3 := Lib.hid (HF2.out.below hC3 hl2))
    refine wp_forget (fun W => Below w.heap.size w W ∧ w3.heap.size + 1 < W.heap.size ∧ Hid (Blk W g 32 (fC K F S (.slice A2 n2 c2))) ∧ Hid (Blk W w3.heap.size 26 #[.int .i64 pty, .int .i64 pst, .bool pe, .bool pf, .bool pk, .slice Ab pbody.length cb, .int .i64 pco, .int .i64 pla, .int .i64 pmo, .int .i64 pcs, .slice As pn cs]) ∧ Hid (Blk W (w3.heap.size + 1) 28 #[.int .i64 b1, .int .i64 b2, .int .i64 b3]) ∧ Hid (BS W (.slice Ab pbody.length cb) pbody) ∧ Hid (Rowy W (.slice As pn cs) pn 2 (SV pZ))) ⟨by go_grown, by go_size, Lib.hid ((HF3.out.alloc _).alloc _), Lib.hid ((Blk.new _ _ _).alloc _), Lib.hid (Blk.new_at (by go_size)), Lib.hid ((bs_own hob rfl).below (by go_grown) (Nat.le_refl _)), Lib.hid ((rowy_own hsv).below (by go_grown) (Nat.le_refl _))⟩ ?_
    rintro W4 ⟨hA4, hl4, HF4, HP4, HX4, HD4, HS4⟩
    clear hob hsv hB3 hC3 hA3
    have hl5 : g < w3.heap.size := HF3.out.lt
    clear HF3 hs3 hs3' u0 u1 u2 u3
    generalize w3.heap.size = g2 at *
    have hs4 := hA4.size
    have hl6 : g < W4.heap.size := by omega
    have hl7 : g2 < W4.heap.size := by omega
    have f0 : W4.cell? ⟨g, 0, none⟩ = some (.int .i64 K) := HF4.out.cell 0
    have f1 : W4.cell? ⟨g, 1, none⟩ = some (.int .i64 F) := HF4.out.cell 1
    have f2 : W4.cell? ⟨g, 2, none⟩ = some (.int .i64 S) := HF4.out.cell 2
    have f3 : W4.cell? ⟨g, 3, none⟩ = some (.slice A2 n2 c2) := HF4.out.cell 3
    have p0 : W4.cell? ⟨g2, 0, none⟩ = some (.int .i64 pty) := HP4.out.cell 0
    have p1 : W4.cell? ⟨g2, 1, none⟩ = some (.int .i64 pst) := HP4.out.cell 1
    have p2 : W4.cell? ⟨g2, 2, none⟩ = some (.bool pe) := HP4.out.cell 2
    have p3 : W4.cell? ⟨g2, 3, none⟩ = some (.bool pf) := HP4.out.cell 3
    have p4 : W4.cell? ⟨g2, 4, none⟩ = some (.bool pk) := HP4.out.cell 4
    have p5 : W4.cell? ⟨g2, 5, none⟩ = some (.slice Ab pbody.length cb) := HP4.out.cell 5
    have p6 : W4.cell? ⟨g2, 6, none⟩ = some (.int .i64 pco) := HP4.out.cell 6
    have p7 : W4.cell? ⟨g2, 7, none⟩ = some (.int .i64 pla) := HP4.out.cell 7
    have p8 : W4.cell? ⟨g2, 8, none⟩ = some (.int .i64 pmo) := HP4.out.cell 8
    have p9 : W4.cell? ⟨g2, 9, none⟩ = some (.int .i64 pcs) := HP4.out.cell 9
    have p10 : W4.cell? ⟨g2, 10, none⟩ = some (.slice As pn cs) := HP4.out.cell 10
    have x0 : W4.cell? ⟨g2 + 1, 0, none⟩ = some (.int .i64 b1) := HX4.out.cell 0
    have x1 : W4.cell? ⟨g2 + 1, 1, none⟩ = some (.int .i64 b2) := HX4.out.cell 1
    have x2 : W4.cell? ⟨g2 + 1, 2, none⟩ = some (.int .i64 b3) := HX4.out.cell 2
    go_wp2_with (go_at_call 3; refine (runs_any _).mono ?_; rintro e w6 ⟨rfl, hB6⟩)
    go_ret
    exact ⟨rfl, hA4.trans (hB6.mono hs4)⟩
  · skip
    first | have m0 := bne_t e0 | have m0 := bne_f e0
    first | have m1 := bne_t e4 | have m1 := bne_f e4
    go_upto_region 5 with (go_at_call 10; refine (of_is K F S _ L2 _ (HV2.out.below (by go_grown) (Nat.le_refl _)) HY2.out _ _ _ _ _ _ _ _ _ _ _ _ _ _ _ HOF).mono ?_; rintro e w3 ⟨⟨Ab, cb, As, cs, rfl, hob, hsv⟩, hB3⟩; have hC3 : Below W2.heap.size W2 w3 := Below.trans (by go_grown) (hB3.mono (by first | omega | (simp only [World.size_alloc]; omega))); have hA3 : Below w.heap.size w w3 := hA2.trans (hC3.mono hs2); have hs3 := hA3.size; have hs3' := hC3.size; have HF3 := Lib.hid (HF2.out.below hC3 hl2))
    refine wp_forget (fun W => Below w.heap.size w W ∧ w3.heap.size + 1 < W.heap.size ∧ Hid (Blk W g 32 (fC K F S (.slice A2 n2 c2))) ∧ Hid (Blk W w3.heap.size 26 #[.int .i64 pty, .int .i64 pst, .bool pe, .bool pf, .bool pk, .slice Ab pbody.length cb, .int .i64 pco, .int .i64 pla, .int .i64 pmo, .int .i64 pcs, .slice As pn cs]) ∧ Hid (Blk W (w3.heap.size + 1) 28 #[.int .i64 b1, .int .i64 b2, .int .i64 b3]) ∧ Hid (BS W (.slice Ab pbody.length cb) pbody) ∧ Hid (Rowy W (.slice As pn cs) pn 2 (SV pZ))) ⟨by go_grown, by go_size, Lib.hid ((HF3.out.alloc _).alloc _), Lib.hid ((Blk.new _ _ _).alloc _), Lib.hid (Blk.new_at (by go_size)), Lib.hid ((bs_own hob rfl).below (by go_grown) (Nat.le_refl _)), Lib.hid ((rowy_own hsv).below (by go_grown) (Nat.le_refl _))⟩ ?_
    rintro W4 ⟨hA4, hl4, HF4, HP4, HX4, HD4, HS4⟩
    clear hob hsv hB3 hC3 hA3
    have hl5 : g < w3.heap.size := HF3.out.lt
    clear HF3 hs3 hs3' u0 u1 u2 u3
    generalize w3.heap.size = g2 at *
    have hs4 := hA4.size
    have hl6 : g < W4.heap.size := by omega
    have hl7 : g2 < W4.heap.size := by omega
    have f0 : W4.cell? ⟨g, 0, none⟩ = some (.int .i64 K) := HF4.out.cell 0
    have f1 : W4.cell? ⟨g, 1, none⟩ = some (.int .i64 F) := HF4.out.cell 1
    have f2 : W4.cell? ⟨g, 2, none⟩ = some (.int .i64 S) := HF4.out.cell 2
    have f3 : W4.cell? ⟨g, 3, none⟩ = some (.slice A2 n2 c2) := HF4.out.cell 3
    have p0 : W4.cell? ⟨g2, 0, none⟩ = some (.int .i64 pty) := HP4.out.cell 0
    have p1 : W4.cell? ⟨g2, 1, none⟩ = some (.int .i64 pst) := HP4.out.cell 1
    have p2 : W4.cell? ⟨g2, 2, none⟩ = some (.bool pe) := HP4.out.cell 2
    have p3 : W4.cell? ⟨g2, 3, none⟩ = some (.bool pf) := HP4.out.cell 3
    have p4 : W4.cell? ⟨g2, 4, none⟩ = some (.bool pk) := HP4.out.cell 4
    have p5 : W4.cell? ⟨g2, 5, none⟩ = some (.slice Ab pbody.length cb) := HP4.out.cell 5
    have p6 : W4.cell? ⟨g2, 6, none⟩ = some (.int .i64 pco) := HP4.out.cell 6
    have p7 : W4.cell? ⟨g2, 7, none⟩ = some (.int .i64 pla) := HP4.out.cell 7
    have p8 : W4.cell? ⟨g2, 8, none⟩ = some (.int .i64 pmo) := HP4.out.cell 8
    have p9 : W4.cell? ⟨g2, 9, none⟩ = some (.int .i64 pcs) := HP4.out.cell 9
    have p10 : W4.cell? ⟨g2, 10, none⟩ = some (.slice As pn cs) := HP4.out.cell 10
    have x0 : W4.cell? ⟨g2 + 1, 0, none⟩ = some (.int .i64 b1) := HX4.out.cell 0
    have x1 : W4.cell? ⟨g2 + 1, 1, none⟩ = some (.int .i64 b2) := HX4.out.cell 1
    have x2 : W4.cell? ⟨g2 + 1, 2, none⟩ = some (.int .i64 b3) := HX4.out.cell 2
    go_wp2_with (go_at_call 3; refine (runs_any _).mono ?_; rintro e w6 ⟨rfl, hB6⟩)
    go_ret
    exact ⟨rfl, hA4.trans (hB6.mono hs4)⟩
end Go.Proofs.Ytolpfbdklcjlkaa
