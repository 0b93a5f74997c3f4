/- ShapeOne. -/
import Derived.Test.YtolpfbdklcjlkaaPlain
namespace Go.Proofs.Ytolpfbdklcjlkaa
open Go.ChangeShapes Go.WideShapes Go.ChangeAt Go.RowKit
set_option linter.unusedVariables false
set_option linter.unusedSimpArgs false
set_option maxHeartbeats 8000000 in
set_option maxRecDepth 100000 in
theorem one_ok (ty fl st : Int) (A : Option Addr) (len cap : Nat) (L : List Int) (w : World) (hR : BS w (.slice A len cap) L) (hb : Byt L) (pco pla pmo pcs : Int) (pe pf pk : Bool) (pbody : List Int) (pn : Nat) (pZ : Nat → Int × Int) (hbl : pbody.length ≤ (L.take 300).length) (hcs : pcs ≤ ((L.take 300).length : Int)) (hof : ofF ty fl st (L.take 300) = (⟨ty, st, pe, pf, pk, pbody, pco, pla, pmo, pcs, pn, pZ⟩, (0, 0, 0))) :
    Calls Try.prog 5 #[.agg (fC ty fl st (.slice A len cap))] w fun e w' => e = .returned (.bool true) ∧ Below w.heap.size w w' := by
  have HR := Lib.hid hR
  obtain ⟨L2, hL2⟩ : ∃ L2, L.take 300 = L2 := ⟨_, rfl⟩
  have hY2 : Byt L2 := fun x hx => hb x (by rw [← hL2] at hx; exact List.mem_of_mem_take hx)
  have hn2 : L2.length ≤ 300 := by rw [← hL2]; simp; omega
  obtain ⟨n2, hn2e⟩ : ∃ n2, L2.length = n2 := ⟨_, rfl⟩
  have HL2 := Lib.hid hL2
  have HY2 := Lib.hid hY2
  have HN2 := Lib.hid hn2e
  rw [hn2e] at hn2
  clear hL2 hY2 hn2e hR hb
  rw [HL2.out] at hof
  have HOF := Lib.hid hof
  clear hof
  go_enter Try.func5, Try.ntmps5
  go_upto_region 1 with fail
  refine wp_forget (fun W => Below w.heap.size w W ∧ Hid (Blk W w.heap.size 32 (fC ty fl st (.slice A len cap)))) ⟨by go_grown, Lib.hid (Blk.new _ _ _)⟩ ?_
  rintro W ⟨hA, HF⟩
  have hAs := hA.size
  have hl0 := HF.out.lt
  have f0 : W.cell? ⟨w.heap.size, 0, none⟩ = some (.int .i64 ty) := HF.out.cell 0
  have f1 : W.cell? ⟨w.heap.size, 1, none⟩ = some (.int .i64 fl) := HF.out.cell 1
  have f2 : W.cell? ⟨w.heap.size, 2, none⟩ = some (.int .i64 st) := HF.out.cell 2
  have f3 : W.cell? ⟨w.heap.size, 3, none⟩ = some (.slice A len cap) := HF.out.cell 3
  go_wp2_with fail
  refine (light_at ty fl st _ L w _ HR.out).mono ?_
  rintro e w1 ⟨⟨v2, rfl, hv2⟩, hB1⟩
  rw [HL2.out] at hv2
  obtain ⟨A2, c2, rfl, -⟩ := id hv2
  rw [HN2.out] at hv2 ⊢
  have HV := Lib.hid hv2
  clear hv2
  have hs1 := hB1.size
  have HF1 := Lib.hid (HF.out.below hB1 hl0)
  have hA1 : Below w.heap.size w w1 := hA.trans (hB1.mono hAs)
  go_wp2_with (refine wpList_store_row rfl 32 (.tmp 1) (.tmp 6) rfl w.heap.size rfl (fC ty fl st (.slice A2 n2 c2)) rfl 32 _ HF1.out rfl (by kernel_rfl) (by simp [Value.oneCell']) ?_; intro W2 hW2 gW2 sW2; have HF2 := Lib.hid hW2; have u0 : W2.cell? ⟨w.heap.size, 0, none⟩ = some (.int .i64 ty) := hW2.cell 0; have u1 : W2.cell? ⟨w.heap.size, 1, none⟩ = some (.int .i64 fl) := hW2.cell 1; have u2 : W2.cell? ⟨w.heap.size, 2, none⟩ = some (.int .i64 st) := hW2.cell 2; have u3 : W2.cell? ⟨w.heap.size, 3, none⟩ = some (.slice A2 n2 c2) := hW2.cell 3; have hA2 : Below w.heap.size w W2 := hA1.grown gW2 (by omega) (fun q hq => by cases hq; omega); have HV2 := Lib.hid (HV.out.below hA2 (Nat.le_refl _)))
  have hs2 := hA2.size
  have hl2 := HF2.out.lt
  clear gW2 sW2
  go_upto_region 3 with (go_at_call 10; refine (of_is ty fl st _ L2 _ (HV2.out.below (by go_grown) (Nat.le_refl _)) HY2.out _ _ _ _ _ _ _ _ _ _ _ _ _ _ _ HOF).mono ?_; rintro e w3 ⟨⟨Ab, cb, As, cs, rfl, hob, hsv⟩, hB3⟩; have hC3 : Below W2.heap.size W2 w3 := Below.trans (by go_grown) (hB3.mono (by first | omega | (simp only [World.size_alloc]; omega))); have hA3 : Below w.heap.size w w3 := hA2.trans (hC3.mono hs2); have hs3 := hA3.size; have hs3' := hC3.size; have HF3 := Lib.hid (HF2.out.below hC3 hl2))
  refine wp_forget (fun W => Below w.heap.size w W ∧ w3.heap.size + 1 < W.heap.size ∧ Hid (Blk W w.heap.size 32 (fC ty fl st (.slice A2 n2 c2))) ∧ Hid (Blk W w3.heap.size 26 #[.int .i64 ty, .int .i64 st, .bool pe, .bool pf, .bool pk, .slice Ab pbody.length cb, .int .i64 pco, .int .i64 pla, .int .i64 pmo, .int .i64 pcs, .slice As pn cs]) ∧ Hid (Blk W (w3.heap.size + 1) 28 #[.int .i64 0, .int .i64 0, .int .i64 0]) ∧ Hid (BS W (.slice Ab pbody.length cb) pbody) ∧ Hid (Rowy W (.slice As pn cs) pn 2 (SV pZ))) ⟨by go_grown, by go_size, Lib.hid ((HF3.out.alloc _).alloc _), Lib.hid ((Blk.new _ _ _).alloc _), Lib.hid (Blk.new_at (by go_size)), Lib.hid ((bs_own hob rfl).below (by go_grown) (Nat.le_refl _)), Lib.hid ((rowy_own hsv).below (by go_grown) (Nat.le_refl _))⟩ ?_
  rintro W4 ⟨hA4, hl4, HF4, HP4, HX4, HD4, HS4⟩
  clear hob hsv hB3 hC3 hA3
  have hl5 : w.heap.size < w3.heap.size := HF3.out.lt
  clear HF3 hs3 hs3' u0 u1 u2 u3
  generalize w3.heap.size = g2 at *
  have hs4 := hA4.size
  have hl6 : w.heap.size < W4.heap.size := by omega
  have hl7 : g2 < W4.heap.size := by omega
  have f0 : W4.cell? ⟨w.heap.size, 0, none⟩ = some (.int .i64 ty) := HF4.out.cell 0
  have f1 : W4.cell? ⟨w.heap.size, 1, none⟩ = some (.int .i64 fl) := HF4.out.cell 1
  have f2 : W4.cell? ⟨w.heap.size, 2, none⟩ = some (.int .i64 st) := HF4.out.cell 2
  have f3 : W4.cell? ⟨w.heap.size, 3, none⟩ = some (.slice A2 n2 c2) := HF4.out.cell 3
  have p0 : W4.cell? ⟨g2, 0, none⟩ = some (.int .i64 ty) := HP4.out.cell 0
  have p1 : W4.cell? ⟨g2, 1, none⟩ = some (.int .i64 st) := HP4.out.cell 1
  have p2 : W4.cell? ⟨g2, 2, none⟩ = some (.bool pe) := HP4.out.cell 2
  have p3 : W4.cell? ⟨g2, 3, none⟩ = some (.bool pf) := HP4.out.cell 3
  have p4 : W4.cell? ⟨g2, 4, none⟩ = some (.bool pk) := HP4.out.cell 4
  have p5 : W4.cell? ⟨g2, 5, none⟩ = some (.slice Ab pbody.length cb) := HP4.out.cell 5
  have p6 : W4.cell? ⟨g2, 6, none⟩ = some (.int .i64 pco) := HP4.out.cell 6
  have p7 : W4.cell? ⟨g2, 7, none⟩ = some (.int .i64 pla) := HP4.out.cell 7
  have p8 : W4.cell? ⟨g2, 8, none⟩ = some (.int .i64 pmo) := HP4.out.cell 8
  have p9 : W4.cell? ⟨g2, 9, none⟩ = some (.int .i64 pcs) := HP4.out.cell 9
  have p10 : W4.cell? ⟨g2, 10, none⟩ = some (.slice As pn cs) := HP4.out.cell 10
  have x0 : W4.cell? ⟨g2 + 1, 0, none⟩ = some (.int .i64 0) := HX4.out.cell 0
  have x1 : W4.cell? ⟨g2 + 1, 1, none⟩ = some (.int .i64 0) := HX4.out.cell 1
  have x2 : W4.cell? ⟨g2 + 1, 2, none⟩ = some (.int .i64 0) := HX4.out.cell 2
  have hb2 : (pbody.length : Int) ≤ (n2 : Int) := by have h1 := HN2.out; have h2 := HL2.out; rw [h2] at hbl; omega
  have hc2 : pcs ≤ (n2 : Int) := by have h1 := HN2.out; have h2 := HL2.out; rw [h2] at hcs; omega
  clear hbl hcs
  go_wp2_with (go_at_call 3; refine (runs_any _).mono ?_; rintro e w6 ⟨rfl, hB6⟩)
  go_ret
  exact ⟨rfl, hA4.trans (hB6.mono hs4)⟩
set_option maxHeartbeats 8000000 in
set_option maxRecDepth 100000 in
theorem one_c (ty fl st : Int) (A : Option Addr) (len cap : Nat) (L : List Int) (w : World) (hR : BS w (.slice A len cap) L) (hb : Byt L) (b2 : Int) (h2 : (b2 == 0) = false) (hof : ofF ty fl st (L.take 300) = (PP.zero, (2, b2, 0))) :
    Calls Try.prog 5 #[.agg (fC ty fl st (.slice A len cap))] w fun e w' => e = .returned (.bool true) ∧ Below w.heap.size w w' := by
  have HR := Lib.hid hR
  obtain ⟨L2, hL2⟩ : ∃ L2, L.take 300 = L2 := ⟨_, rfl⟩
  have hY2 : Byt L2 := fun x hx => hb x (by rw [← hL2] at hx; exact List.mem_of_mem_take hx)
  have hn2 : L2.length ≤ 300 := by rw [← hL2]; simp; omega
  obtain ⟨n2, hn2e⟩ : ∃ n2, L2.length = n2 := ⟨_, rfl⟩
  have HL2 := Lib.hid hL2
  have HY2 := Lib.hid hY2
  have HN2 := Lib.hid hn2e
  rw [hn2e] at hn2
  clear hL2 hY2 hn2e hR hb
  rw [HL2.out] at hof
  have HOF : Hid (ofF ty fl st L2 = (⟨0, 0, false, false, false, [], 0, 0, 0, 0, 0, fun _ => (0, 0)⟩, (2, b2, 0))) := Lib.hid hof
  clear hof
  go_enter Try.func5, Try.ntmps5
  go_upto_region 1 with fail
  refine wp_forget (fun W => Below w.heap.size w W ∧ Hid (Blk W w.heap.size 32 (fC ty fl st (.slice A len cap)))) ⟨by go_grown, Lib.hid (Blk.new _ _ _)⟩ ?_
  rintro W ⟨hA, HF⟩
  have hAs := hA.size
  have hl0 := HF.out.lt
  have f0 : W.cell? ⟨w.heap.size, 0, none⟩ = some (.int .i64 ty) := HF.out.cell 0
  have f1 : W.cell? ⟨w.heap.size, 1, none⟩ = some (.int .i64 fl) := HF.out.cell 1
  have f2 : W.cell? ⟨w.heap.size, 2, none⟩ = some (.int .i64 st) := HF.out.cell 2
  have f3 : W.cell? ⟨w.heap.size, 3, none⟩ = some (.slice A len cap) := HF.out.cell 3
  go_wp2_with fail
  refine (light_at ty fl st _ L w _ HR.out).mono ?_
  rintro e w1 ⟨⟨v2, rfl, hv2⟩, hB1⟩
  rw [HL2.out] at hv2
  obtain ⟨A2, c2, rfl, -⟩ := id hv2
  rw [HN2.out] at hv2 ⊢
  have HV := Lib.hid hv2
  clear hv2
  have hs1 := hB1.size
  have HF1 := Lib.hid (HF.out.below hB1 hl0)
  have hA1 : Below w.heap.size w w1 := hA.trans (hB1.mono hAs)
  go_wp2_with (refine wpList_store_row rfl 32 (.tmp 1) (.tmp 6) rfl w.heap.size rfl (fC ty fl st (.slice A2 n2 c2)) rfl 32 _ HF1.out rfl (by kernel_rfl) (by simp [Value.oneCell']) ?_; intro W2 hW2 gW2 sW2; have HF2 := Lib.hid hW2; have u0 : W2.cell? ⟨w.heap.size, 0, none⟩ = some (.int .i64 ty) := hW2.cell 0; have u1 : W2.cell? ⟨w.heap.size, 1, none⟩ = some (.int .i64 fl) := hW2.cell 1; have u2 : W2.cell? ⟨w.heap.size, 2, none⟩ = some (.int .i64 st) := hW2.cell 2; have u3 : W2.cell? ⟨w.heap.size, 3, none⟩ = some (.slice A2 n2 c2) := hW2.cell 3; have hA2 : Below w.heap.size w W2 := hA1.grown gW2 (by omega) (fun q hq => by cases hq; omega); have HV2 := Lib.hid (HV.out.below hA2 (Nat.le_refl _)))
  have hs2 := hA2.size
  have hl2 := HF2.out.lt
  clear gW2 sW2
  go_upto_region 3 with (go_at_call 10; refine (of_is ty fl st _ L2 _ (HV2.out.below (by go_grown) (Nat.le_refl _)) HY2.out _ _ _ _ _ _ _ _ _ _ _ _ _ _ _ HOF).mono ?_; rintro e w3 ⟨⟨Ab, cb, As, cs, rfl, hob, hsv⟩, hB3⟩; have hC3 : Below W2.heap.size W2 w3 := Below.trans (by go_grown) (hB3.mono (by first | omega | (simp only [World.size_alloc]; omega))); have hA3 : Below w.heap.size w w3 := hA2.trans (hC3.mono hs2); have hs3 := hA3.size; have hs3' := hC3.size; have HF3 := Lib.hid (HF2.out.below hC3 hl2))
  refine wp_forget (fun W => Below w.heap.size w W ∧ w3.heap.size + 1 < W.heap.size ∧ Hid (Blk W w.heap.size 32 (fC ty fl st (.slice A2 n2 c2))) ∧ Hid (Blk W w3.heap.size 26 #[.int .i64 0, .int .i64 0, .bool false, .bool false, .bool false, .slice Ab 0 cb, .int .i64 0, .int .i64 0, .int .i64 0, .int .i64 0, .slice As 0 cs]) ∧ Hid (Blk W (w3.heap.size + 1) 28 #[.int .i64 2, .int .i64 b2, .int .i64 0]) ∧ Hid (BS W (.slice Ab 0 cb) []) ∧ Hid (Rowy W (.slice As 0 cs) 0 2 (SV fun _ => (0, 0)))) ⟨by go_grown, by go_size, Lib.hid ((HF3.out.alloc _).alloc _), Lib.hid ((Blk.new _ _ _).alloc _), Lib.hid (Blk.new_at (by go_size)), Lib.hid ((bs_own hob rfl).below (by go_grown) (Nat.le_refl _)), Lib.hid ((rowy_own hsv).below (by go_grown) (Nat.le_refl _))⟩ ?_
  rintro W4 ⟨hA4, hl4, HF4, HP4, HX4, HD4, HS4⟩
  clear hob hsv hB3 hC3 hA3
  have hl5 : w.heap.size < w3.heap.size := HF3.out.lt
  clear HF3 hs3 hs3' u0 u1 u2 u3
  generalize w3.heap.size = g2 at *
  have hs4 := hA4.size
  have hl6 : w.heap.size < W4.heap.size := by omega
  have hl7 : g2 < W4.heap.size := by omega
  have f0 : W4.cell? ⟨w.heap.size, 0, none⟩ = some (.int .i64 ty) := HF4.out.cell 0
  have f1 : W4.cell? ⟨w.heap.size, 1, none⟩ = some (.int .i64 fl) := HF4.out.cell 1
  have f2 : W4.cell? ⟨w.heap.size, 2, none⟩ = some (.int .i64 st) := HF4.out.cell 2
  have f3 : W4.cell? ⟨w.heap.size, 3, none⟩ = some (.slice A2 n2 c2) := HF4.out.cell 3
  have p0 : W4.cell? ⟨g2, 0, none⟩ = some (.int .i64 0) := HP4.out.cell 0
  have p1 : W4.cell? ⟨g2, 1, none⟩ = some (.int .i64 0) := HP4.out.cell 1
  have p2 : W4.cell? ⟨g2, 2, none⟩ = some (.bool false) := HP4.out.cell 2
  have p3 : W4.cell? ⟨g2, 3, none⟩ = some (.bool false) := HP4.out.cell 3
  have p4 : W4.cell? ⟨g2, 4, none⟩ = some (.bool false) := HP4.out.cell 4
  have p5 : W4.cell? ⟨g2, 5, none⟩ = some (.slice Ab 0 cb) := HP4.out.cell 5
  have p6 : W4.cell? ⟨g2, 6, none⟩ = some (.int .i64 0) := HP4.out.cell 6
  have p7 : W4.cell? ⟨g2, 7, none⟩ = some (.int .i64 0) := HP4.out.cell 7
  have p8 : W4.cell? ⟨g2, 8, none⟩ = some (.int .i64 0) := HP4.out.cell 8
  have p9 : W4.cell? ⟨g2, 9, none⟩ = some (.int .i64 0) := HP4.out.cell 9
  have p10 : W4.cell? ⟨g2, 10, none⟩ = some (.slice As 0 cs) := HP4.out.cell 10
  have x0 : W4.cell? ⟨g2 + 1, 0, none⟩ = some (.int .i64 2) := HX4.out.cell 0
  have x1 : W4.cell? ⟨g2 + 1, 1, none⟩ = some (.int .i64 b2) := HX4.out.cell 1
  have x2 : W4.cell? ⟨g2 + 1, 2, none⟩ = some (.int .i64 0) := HX4.out.cell 2
  have h2' : (b2 != 0) = true := by simpa using h2
  go_wp2_with (first | (go_at_call 12; refine (parts_any _ _ _ _ _ _ _ _ _ _ _ _ _ [] 0 (fun _ => (0, 0)) _ (HD4.out.below (by go_grown) (Nat.le_refl _)) (bs_nil _) (HS4.out.below (by go_grown) (Nat.le_refl _)) (rowy_nil _ _ _)).mono ?_; rintro e w5 ⟨rfl, hB5⟩; have hA5 : Below w.heap.size w w5 := hA4.trans (Below.trans (by go_grown) (hB5.mono (by first | omega | (simp only [World.size_alloc]; omega)))); have hs5 := hA5.size; have hs6 := hB5.size; obtain ⟨q5, r5⟩ := bcell hB5) | (go_at_call 3; refine (runs_any _).mono ?_; rintro e w6 ⟨rfl, hB6⟩))
  go_ret
  exact ⟨rfl, hA5.trans (hB6.mono hs5)⟩
set_option maxHeartbeats 8000000 in
set_option maxRecDepth 100000 in
theorem one_s (ty fl st : Int) (A : Option Addr) (len cap : Nat) (L : List Int) (w : World) (hR : BS w (.slice A len cap) L) (hb : Byt L) (b2 : Int) (h2 : (b2 == 0) = false) (hst : (st == 0) = false) (hof : ofF ty fl st (L.take 300) = (PP.zero, (1, b2, st))) :
    Calls Try.prog 5 #[.agg (fC ty fl st (.slice A len cap))] w fun e w' => e = .returned (.bool true) ∧ Below w.heap.size w w' := by
  have HR := Lib.hid hR
  obtain ⟨L2, hL2⟩ : ∃ L2, L.take 300 = L2 := ⟨_, rfl⟩
  have hY2 : Byt L2 := fun x hx => hb x (by rw [← hL2] at hx; exact List.mem_of_mem_take hx)
  have hn2 : L2.length ≤ 300 := by rw [← hL2]; simp; omega
  obtain ⟨n2, hn2e⟩ : ∃ n2, L2.length = n2 := ⟨_, rfl⟩
  have HL2 := Lib.hid hL2
  have HY2 := Lib.hid hY2
  have HN2 := Lib.hid hn2e
  rw [hn2e] at hn2
  clear hL2 hY2 hn2e hR hb
  rw [HL2.out] at hof
  have HOF : Hid (ofF ty fl st L2 = (⟨0, 0, false, false, false, [], 0, 0, 0, 0, 0, fun _ => (0, 0)⟩, (1, b2, st))) := Lib.hid hof
  clear hof
  go_enter Try.func5, Try.ntmps5
  go_upto_region 1 with fail
  refine wp_forget (fun W => Below w.heap.size w W ∧ Hid (Blk W w.heap.size 32 (fC ty fl st (.slice A len cap)))) ⟨by go_grown, Lib.hid (Blk.new _ _ _)⟩ ?_
  rintro W ⟨hA, HF⟩
  have hAs := hA.size
  have hl0 := HF.out.lt
  have f0 : W.cell? ⟨w.heap.size, 0, none⟩ = some (.int .i64 ty) := HF.out.cell 0
  have f1 : W.cell? ⟨w.heap.size, 1, none⟩ = some (.int .i64 fl) := HF.out.cell 1
  have f2 : W.cell? ⟨w.heap.size, 2, none⟩ = some (.int .i64 st) := HF.out.cell 2
  have f3 : W.cell? ⟨w.heap.size, 3, none⟩ = some (.slice A len cap) := HF.out.cell 3
  go_wp2_with fail
  refine (light_at ty fl st _ L w _ HR.out).mono ?_
  rintro e w1 ⟨⟨v2, rfl, hv2⟩, hB1⟩
  rw [HL2.out] at hv2
  obtain ⟨A2, c2, rfl, -⟩ := id hv2
  rw [HN2.out] at hv2 ⊢
  have HV := Lib.hid hv2
  clear hv2
  have hs1 := hB1.size
  have HF1 := Lib.hid (HF.out.below hB1 hl0)
  have hA1 : Below w.heap.size w w1 := hA.trans (hB1.mono hAs)
  go_wp2_with (refine wpList_store_row rfl 32 (.tmp 1) (.tmp 6) rfl w.heap.size rfl (fC ty fl st (.slice A2 n2 c2)) rfl 32 _ HF1.out rfl (by kernel_rfl) (by simp [Value.oneCell']) ?_; intro W2 hW2 gW2 sW2; have HF2 := Lib.hid hW2; have u0 : W2.cell? ⟨w.heap.size, 0, none⟩ = some (.int .i64 ty) := hW2.cell 0; have u1 : W2.cell? ⟨w.heap.size, 1, none⟩ = some (.int .i64 fl) := hW2.cell 1; have u2 : W2.cell? ⟨w.heap.size, 2, none⟩ = some (.int .i64 st) := hW2.cell 2; have u3 : W2.cell? ⟨w.heap.size, 3, none⟩ = some (.slice A2 n2 c2) := hW2.cell 3; have hA2 : Below w.heap.size w W2 := hA1.grown gW2 (by omega) (fun q hq => by cases hq; omega); have HV2 := Lib.hid (HV.out.below hA2 (Nat.le_refl _)))
  have hs2 := hA2.size
  have hl2 := HF2.out.lt
  clear gW2 sW2
  go_upto_region 3 with (go_at_call 10; refine (of_is ty fl st _ L2 _ (HV2.out.below (by go_grown) (Nat.le_refl _)) HY2.out _ _ _ _ _ _ _ _ _ _ _ _ _ _ _ HOF).mono ?_; rintro e w3 ⟨⟨Ab, cb, As, cs, rfl, hob, hsv⟩, hB3⟩; have hC3 : Below W2.heap.size W2 w3 := Below.trans (by go_grown) (hB3.mono (by first | omega | (simp only [World.size_alloc]; omega))); have hA3 : Below w.heap.size w w3 := hA2.trans (hC3.mono hs2); have hs3 := hA3.size; have hs3' := hC3.size; have HF3 := Lib.hid (HF2.out.below hC3 hl2))
  refine wp_forget (fun W => Below w.heap.size w W ∧ w3.heap.size + 1 < W.heap.size ∧ Hid (Blk W w.heap.size 32 (fC ty fl st (.slice A2 n2 c2))) ∧ Hid (Blk W w3.heap.size 26 #[.int .i64 0, .int .i64 0, .bool false, .bool false, .bool false, .slice Ab 0 cb, .int .i64 0, .int .i64 0, .int .i64 0, .int .i64 0, .slice As 0 cs]) ∧ Hid (Blk W (w3.heap.size + 1) 28 #[.int .i64 1, .int .i64 b2, .int .i64 st]) ∧ Hid (BS W (.slice Ab 0 cb) []) ∧ Hid (Rowy W (.slice As 0 cs) 0 2 (SV fun _ => (0, 0)))) ⟨by go_grown, by go_size, Lib.hid ((HF3.out.alloc _).alloc _), Lib.hid ((Blk.new _ _ _).alloc _), Lib.hid (Blk.new_at (by go_size)), Lib.hid ((bs_own hob rfl).below (by go_grown) (Nat.le_refl _)), Lib.hid ((rowy_own hsv).below (by go_grown) (Nat.le_refl _))⟩ ?_
  rintro W4 ⟨hA4, hl4, HF4, HP4, HX4, HD4, HS4⟩
  clear hob hsv hB3 hC3 hA3
  have hl5 : w.heap.size < w3.heap.size := HF3.out.lt
  clear HF3 hs3 hs3' u0 u1 u2 u3
  generalize w3.heap.size = g2 at *
  have hs4 := hA4.size
  have hl6 : w.heap.size < W4.heap.size := by omega
  have hl7 : g2 < W4.heap.size := by omega
  have f0 : W4.cell? ⟨w.heap.size, 0, none⟩ = some (.int .i64 ty) := HF4.out.cell 0
  have f1 : W4.cell? ⟨w.heap.size, 1, none⟩ = some (.int .i64 fl) := HF4.out.cell 1
  have f2 : W4.cell? ⟨w.heap.size, 2, none⟩ = some (.int .i64 st) := HF4.out.cell 2
  have f3 : W4.cell? ⟨w.heap.size, 3, none⟩ = some (.slice A2 n2 c2) := HF4.out.cell 3
  have p0 : W4.cell? ⟨g2, 0, none⟩ = some (.int .i64 0) := HP4.out.cell 0
  have p1 : W4.cell? ⟨g2, 1, none⟩ = some (.int .i64 0) := HP4.out.cell 1
  have p2 : W4.cell? ⟨g2, 2, none⟩ = some (.bool false) := HP4.out.cell 2
  have p3 : W4.cell? ⟨g2, 3, none⟩ = some (.bool false) := HP4.out.cell 3
  have p4 : W4.cell? ⟨g2, 4, none⟩ = some (.bool false) := HP4.out.cell 4
  have p5 : W4.cell? ⟨g2, 5, none⟩ = some (.slice Ab 0 cb) := HP4.out.cell 5
  have p6 : W4.cell? ⟨g2, 6, none⟩ = some (.int .i64 0) := HP4.out.cell 6
  have p7 : W4.cell? ⟨g2, 7, none⟩ = some (.int .i64 0) := HP4.out.cell 7
  have p8 : W4.cell? ⟨g2, 8, none⟩ = some (.int .i64 0) := HP4.out.cell 8
  have p9 : W4.cell? ⟨g2, 9, none⟩ = some (.int .i64 0) := HP4.out.cell 9
  have p10 : W4.cell? ⟨g2, 10, none⟩ = some (.slice As 0 cs) := HP4.out.cell 10
  have x0 : W4.cell? ⟨g2 + 1, 0, none⟩ = some (.int .i64 1) := HX4.out.cell 0
  have x1 : W4.cell? ⟨g2 + 1, 1, none⟩ = some (.int .i64 b2) := HX4.out.cell 1
  have x2 : W4.cell? ⟨g2 + 1, 2, none⟩ = some (.int .i64 st) := HX4.out.cell 2
  have h2' : (b2 != 0) = true := by simpa using h2
  have hst' : (st != 0) = true := by simpa using hst
  go_wp2_with (first | (go_at_call 12; refine (parts_any _ _ _ _ _ _ _ _ _ _ _ _ _ [] 0 (fun _ => (0, 0)) _ (HD4.out.below (by go_grown) (Nat.le_refl _)) (bs_nil _) (HS4.out.below (by go_grown) (Nat.le_refl _)) (rowy_nil _ _ _)).mono ?_; rintro e w5 ⟨rfl, hB5⟩; have hA5 : Below w.heap.size w w5 := hA4.trans (Below.trans (by go_grown) (hB5.mono (by first | omega | (simp only [World.size_alloc]; omega)))); have hs5 := hA5.size; have hs6 := hB5.size; obtain ⟨q5, r5⟩ := bcell hB5) | (go_at_call 3; refine (runs_any _).mono ?_; rintro e w6 ⟨rfl, hB6⟩))
  go_ret
  exact ⟨rfl, hA5.trans (hB6.mono hs5)⟩
theorem one_any (ty fl st : Int) (v : Value) (L : List Int) (w : World) (hR : BS w v L) (hb : Byt L) :
    Calls Try.prog 5 #[.agg (fC ty fl st v)] w fun e w' => e = .returned (.bool true) ∧ Below w.heap.size w w' := by
  obtain ⟨A, cap, rfl, _⟩ := id hR
  have hs := of_sane ty fl st (L.take 300)
  obtain ⟨⟨⟨pty, pst, pe, pf, pk, pbody, pco, pla, pmo, pcs, pn, pZ⟩, b1, b2, b3⟩, hr⟩ : ∃ r, ofF ty fl st (L.take 300) = r := ⟨_, rfl⟩
  rw [hr] at hs
  rcases hs with ⟨h1, h2, h3, h4, h5⟩ | ⟨h1, h2, ⟨h3, h4⟩ | ⟨h3, h4, h5⟩⟩
  · simp only [Prod.mk.injEq] at h1 h2 h3 h4 h5
    obtain ⟨rfl, rfl, rfl⟩ := h1
    subst h2 h3
    exact one_ok _ fl _ A _ cap L w hR hb pco pla pmo pcs pe pf pk pbody pn pZ h4 h5 hr
  · simp only at h1 h2 h3 h4
    subst h3 h4
    rw [h1] at hr
    exact one_c ty fl st A _ cap L w hR hb b2 (by simpa using h2) hr
  · simp only at h1 h2 h3 h4
    subst h3 h4
    rw [h1] at hr
    exact one_s ty fl b3 A _ cap L w hR hb b2 (by simpa using h2) (by simpa using h5) hr
end Go.Proofs.Ytolpfbdklcjlkaa
