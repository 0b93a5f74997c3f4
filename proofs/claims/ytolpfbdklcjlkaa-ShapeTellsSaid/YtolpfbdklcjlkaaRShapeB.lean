/- The document's answer to any frame: PRIORITY, RST_STREAM, WINDOW_UPDATE, and what is too short. -/
import Derived.Test.YtolpfbdklcjlkaaRShape
namespace Go.Proofs.Ytolpfbdklcjlkaa
open Go.ChangeShapes Go.WideShapes Go.ChangeAt Go.RowKit
set_option linter.unusedVariables false
set_option linter.unusedSimpArgs false
set_option maxHeartbeats 4000000 in
set_option maxRecDepth 100000 in
theorem rs_prio_bad (ty fl st : Int) (A : Option Addr) (n cap : Nat) (L : List Int) (w : World) (hR : BS w (.slice A n cap) L) (hln : L.length = n) (hb : Byt L) (hn : n ≤ 1099511627776) (hrg : rightB ty fl st n = true) (h9 : ¬ 9 < ty) (e0 : (ty == 0) = false) (e1 : (ty == 1) = false) (e2 : (ty == 2) = true) (e3 : (ty == 3) = false) (e4 : (ty == 4) = false) (e5 : (ty == 5) = false) (e6 : (ty == 6) = false) (e7 : (ty == 7) = false) (e8 : (ty == 8) = false) (e9 : (ty == 9) = false) (n8 : (ty != 8) = true) (s0 : (st == 0) = false) (m0 : (st != 0) = true) (hlen : n ≠ 5) :
    Calls Try.prog 15 #[.agg (fC ty fl st (.slice A n cap))] w fun e w' => Ans w.heap.size (PP.zero, sB 6 st) e w' ∧ Below w.heap.size w w' := by
  have HR := Lib.hid hR
  have HL := Lib.hid hln
  have HY := Lib.hid hb
  clear hR hln hb
  have HRG := Lib.hid hrg
  clear hrg
  have hlk : ((n : Int) != 5) = true := by simp; omega
  clear hlen
  go_enter Try.func15, Try.ntmps15
  go_upto_region 2 with fail
  refine wp_forget (fun W => Below w.heap.size w W ∧ Hid (Blk W w.heap.size 32 (fC ty fl st (.slice A n cap))) ∧ Hid (Blk W (w.heap.size + 1) 26 zP) ∧ Hid (Blk W (w.heap.size + 2) 28 zB) ∧ Hid (Blk W (w.heap.size + 3) 26 (pB ty st)))
    ⟨by go_grown, Lib.hid ((((Blk.new _ _ _).alloc _).alloc _).alloc _), Lib.hid (((Blk.new_at (by simp only [World.size_alloc])).alloc _).alloc _), Lib.hid ((Blk.new_at (by simp only [World.size_alloc])).alloc _), Lib.hid (Blk.new_at (by simp only [World.size_alloc]))⟩ ?_
  rintro W ⟨hB, HF, HZ, HX, HP⟩
  have hBs := hB.size
  have hl3 := HP.out.lt
  have hl0 : w.heap.size < W.heap.size := by omega
  have f0 : W.cell? ⟨w.heap.size, 0, none⟩ = some (.int .i64 ty) := HF.out.cell 0
  have f1 : W.cell? ⟨w.heap.size, 1, none⟩ = some (.int .i64 fl) := HF.out.cell 1
  have f2 : W.cell? ⟨w.heap.size, 2, none⟩ = some (.int .i64 st) := HF.out.cell 2
  have f3 : W.cell? ⟨w.heap.size, 3, none⟩ = some (.slice A n cap) := HF.out.cell 3
  have HRW := Lib.hid (HR.out.below hB (Nat.le_refl _))
  generalize hg : w.heap.size = g at *
  have HG := Lib.hid hg
  clear hg
  go_wp2_with (first
    | (go_at_call 32; refine (rright_any ty fl st A n cap _).mono ?_; rintro e w1 ⟨rfl, hB1⟩; have hS1 := hB1.size; have HF1 := Lib.hid (HF.out.below hB1 (by omega)); have HP1 := Lib.hid (HP.out.below hB1 (by omega)); have HZ1 := Lib.hid (HZ.out.below hB1 (by omega)); have HX1 := Lib.hid (HX.out.below hB1 (by omega)); have f10 : w1.cell? ⟨g, 0, none⟩ = some (.int .i64 ty) := HF1.out.cell 0; have f11 : w1.cell? ⟨g, 1, none⟩ = some (.int .i64 fl) := HF1.out.cell 1; have f12 : w1.cell? ⟨g, 2, none⟩ = some (.int .i64 st) := HF1.out.cell 2; have f13 : w1.cell? ⟨g, 3, none⟩ = some (.slice A n cap) := HF1.out.cell 3; rw [HRG.out])
    | (go_at_call 33; refine (rbads_any 6 st _).mono ?_; rintro e w2 ⟨rfl, hB2⟩; have hS2 := hB2.size; have HF2 := Lib.hid (HF1.out.below hB2 (by omega)); have HP2 := Lib.hid (HP1.out.below hB2 (by omega)); have HZ2 := Lib.hid (HZ1.out.below hB2 (by omega)); have HX2 := Lib.hid (HX1.out.below hB2 (by omega)); have f20 : w2.cell? ⟨g, 0, none⟩ = some (.int .i64 ty) := HF2.out.cell 0; have f21 : w2.cell? ⟨g, 1, none⟩ = some (.int .i64 fl) := HF2.out.cell 1; have f22 : w2.cell? ⟨g, 2, none⟩ = some (.int .i64 st) := HF2.out.cell 2; have f23 : w2.cell? ⟨g, 3, none⟩ = some (.slice A n cap) := HF2.out.cell 3)
    | (refine wpList_store_row rfl 26 (.tmp 2) (.tmp 83) rfl (g + 1) rfl zP rfl 26 _ HZ2.out rfl (by kernel_rfl) (by simp [Value.oneCell']) ?_; intro x1 hx1 gx1 sx1; have HXx := Lib.hid (HX2.out.grown gx1 (by simp)))
    | (refine wpList_store_row rfl 28 (.tmp 3) (.tmp 84) rfl (g + 2) rfl #[.int .i64 1, .int .i64 6, .int .i64 st] rfl 28 _ HXx.out rfl (by kernel_rfl) (by simp [Value.oneCell']) ?_; intro x2 hx2 gx2 sx2))
  have hgo := HG.out
  subst hgo
  refine bodyPost_ret (results_cc rfl _ (w.heap.size + 1) (w.heap.size + 2) 26 28 _ _ _ _ rfl (hx1.grown gx2 (by simp)) Try.underlying26 rfl (by kernel_rfl) rfl hx2 Try.underlying28 rfl (by kernel_rfl)) rfl ⟨⟨_, rfl, isP_zero _ _⟩, ((((hB.trans (hB1.mono (by omega))).trans (hB2.mono (by omega))).grown gx1 (by omega) (fun q hq => by cases hq; omega)).grown gx2 (by omega) (fun q hq => by cases hq; omega))⟩
set_option maxHeartbeats 4000000 in
set_option maxRecDepth 100000 in
theorem rs_prio_eq (ty fl st : Int) (A : Option Addr) (n cap : Nat) (L : List Int) (w : World) (hR : BS w (.slice A n cap) L) (hln : L.length = n) (hb : Byt L) (hn : n ≤ 1099511627776) (hrg : rightB ty fl st n = true) (h9 : ¬ 9 < ty) (e0 : (ty == 0) = false) (e1 : (ty == 1) = false) (e2 : (ty == 2) = true) (e3 : (ty == 3) = false) (e4 : (ty == 4) = false) (e5 : (ty == 5) = false) (e6 : (ty == 6) = false) (e7 : (ty == 7) = false) (e8 : (ty == 8) = false) (e9 : (ty == 9) = false) (n8 : (ty != 8) = true) (s0 : (st == 0) = false) (m0 : (st != 0) = true) (hlen : n = 5) (hne : (num L 0 % 2147483648 == st) = true) :
    Calls Try.prog 15 #[.agg (fC ty fl st (.slice A n cap))] w fun e w' => Ans w.heap.size (PP.zero, sB 1 st) e w' ∧ Below w.heap.size w w' := by
  have HR := Lib.hid hR
  have HL := Lib.hid hln
  have HY := Lib.hid hb
  clear hR hln hb
  have HRG := Lib.hid hrg
  clear hrg
  have hlk : ((n : Int) != 5) = false := by simp; omega
  have hl4 : 4 ≤ L.length := by rw [HL.out]; omega
  clear hlen
  go_enter Try.func15, Try.ntmps15
  go_upto_region 2 with fail
  refine wp_forget (fun W => Below w.heap.size w W ∧ Hid (Blk W w.heap.size 32 (fC ty fl st (.slice A n cap))) ∧ Hid (Blk W (w.heap.size + 1) 26 zP) ∧ Hid (Blk W (w.heap.size + 2) 28 zB) ∧ Hid (Blk W (w.heap.size + 3) 26 (pB ty st)))
    ⟨by go_grown, Lib.hid ((((Blk.new _ _ _).alloc _).alloc _).alloc _), Lib.hid (((Blk.new_at (by simp only [World.size_alloc])).alloc _).alloc _), Lib.hid ((Blk.new_at (by simp only [World.size_alloc])).alloc _), Lib.hid (Blk.new_at (by simp only [World.size_alloc]))⟩ ?_
  rintro W ⟨hB, HF, HZ, HX, HP⟩
  have hBs := hB.size
  have hl3 := HP.out.lt
  have hl0 : w.heap.size < W.heap.size := by omega
  have f0 : W.cell? ⟨w.heap.size, 0, none⟩ = some (.int .i64 ty) := HF.out.cell 0
  have f1 : W.cell? ⟨w.heap.size, 1, none⟩ = some (.int .i64 fl) := HF.out.cell 1
  have f2 : W.cell? ⟨w.heap.size, 2, none⟩ = some (.int .i64 st) := HF.out.cell 2
  have f3 : W.cell? ⟨w.heap.size, 3, none⟩ = some (.slice A n cap) := HF.out.cell 3
  have HRW := Lib.hid (HR.out.below hB (Nat.le_refl _))
  generalize hg : w.heap.size = g at *
  have HG := Lib.hid hg
  clear hg
  go_upto_region 15 with (go_at_call 32; refine (rright_any ty fl st A n cap _).mono ?_; rintro e w1 ⟨rfl, hB1⟩; have hS1 := hB1.size; have HF1 := Lib.hid (HF.out.below hB1 (by omega)); have HP1 := Lib.hid (HP.out.below hB1 (by omega)); have HZ1 := Lib.hid (HZ.out.below hB1 (by omega)); have HX1 := Lib.hid (HX.out.below hB1 (by omega)); have f10 : w1.cell? ⟨g, 0, none⟩ = some (.int .i64 ty) := HF1.out.cell 0; have f11 : w1.cell? ⟨g, 1, none⟩ = some (.int .i64 fl) := HF1.out.cell 1; have f12 : w1.cell? ⟨g, 2, none⟩ = some (.int .i64 st) := HF1.out.cell 2; have f13 : w1.cell? ⟨g, 3, none⟩ = some (.slice A n cap) := HF1.out.cell 3; rw [HRG.out])
  go_region_held3 (fun wx => wx.cell? ⟨g, 2, none⟩ = some (.int .i64 st)) (first | assumption | go_simp) ((go_at_call 35; refine (four_any _ L _ ((HRW.out.below hB1 (Nat.le_refl _)).below (by go_grown) (Nat.le_refl _)) HY.out hl4).mono ?_; rintro e w2 ⟨rfl, hD2⟩; have hB2 : Below w1.heap.size w1 w2 := Below.trans (by go_grown) hD2; have hS2 := hB2.size; have HF2 := Lib.hid (HF1.out.below hB2 (by omega)); have HP2 := Lib.hid (HP1.out.below hB2 (by omega)); have HZ2 := Lib.hid (HZ1.out.below hB2 (by omega)); have HX2 := Lib.hid (HX1.out.below hB2 (by omega)); have f20 : w2.cell? ⟨g, 0, none⟩ = some (.int .i64 ty) := HF2.out.cell 0; have f21 : w2.cell? ⟨g, 1, none⟩ = some (.int .i64 fl) := HF2.out.cell 1; have f22 : w2.cell? ⟨g, 2, none⟩ = some (.int .i64 st) := HF2.out.cell 2; have f23 : w2.cell? ⟨g, 3, none⟩ = some (.slice A n cap) := HF2.out.cell 3))
  go_wp2_with (first
    | (go_at_call 33; refine (rbads_any 1 st _).mono ?_; rintro e w3 ⟨rfl, hB3⟩; have hS3 := hB3.size; have HF3 := Lib.hid (HF2.out.below hB3 (by omega)); have HP3 := Lib.hid (HP2.out.below hB3 (by omega)); have HZ3 := Lib.hid (HZ2.out.below hB3 (by omega)); have HX3 := Lib.hid (HX2.out.below hB3 (by omega)); have f30 : w3.cell? ⟨g, 0, none⟩ = some (.int .i64 ty) := HF3.out.cell 0; have f31 : w3.cell? ⟨g, 1, none⟩ = some (.int .i64 fl) := HF3.out.cell 1; have f32 : w3.cell? ⟨g, 2, none⟩ = some (.int .i64 st) := HF3.out.cell 2; have f33 : w3.cell? ⟨g, 3, none⟩ = some (.slice A n cap) := HF3.out.cell 3)
    | (refine wpList_store_row rfl 26 (.tmp 2) (.tmp 93) rfl (g + 1) rfl zP rfl 26 _ HZ3.out rfl (by kernel_rfl) (by simp [Value.oneCell']) ?_; intro x1 hx1 gx1 sx1; have HXx := Lib.hid (HX3.out.grown gx1 (by simp)))
    | (refine wpList_store_row rfl 28 (.tmp 3) (.tmp 94) rfl (g + 2) rfl #[.int .i64 1, .int .i64 1, .int .i64 st] rfl 28 _ HXx.out rfl (by kernel_rfl) (by simp [Value.oneCell']) ?_; intro x2 hx2 gx2 sx2))
  have hgo := HG.out
  subst hgo
  refine bodyPost_ret (results_cc rfl _ (w.heap.size + 1) (w.heap.size + 2) 26 28 _ _ _ _ rfl (hx1.grown gx2 (by simp)) Try.underlying26 rfl (by kernel_rfl) rfl hx2 Try.underlying28 rfl (by kernel_rfl)) rfl ⟨⟨_, rfl, isP_zero _ _⟩, (((((hB.trans (hB1.mono (by omega))).trans (hB2.mono (by omega))).trans (hB3.mono (by omega))).grown gx1 (by omega) (fun q hq => by cases hq; omega)).grown gx2 (by omega) (fun q hq => by cases hq; omega))⟩
set_option maxHeartbeats 4000000 in
set_option maxRecDepth 100000 in
theorem rs_prio (ty fl st : Int) (A : Option Addr) (n cap : Nat) (L : List Int) (w : World) (hR : BS w (.slice A n cap) L) (hln : L.length = n) (hb : Byt L) (hn : n ≤ 1099511627776) (hrg : rightB ty fl st n = true) (h9 : ¬ 9 < ty) (e0 : (ty == 0) = false) (e1 : (ty == 1) = false) (e2 : (ty == 2) = true) (e3 : (ty == 3) = false) (e4 : (ty == 4) = false) (e5 : (ty == 5) = false) (e6 : (ty == 6) = false) (e7 : (ty == 7) = false) (e8 : (ty == 8) = false) (e9 : (ty == 9) = false) (n8 : (ty != 8) = true) (s0 : (st == 0) = false) (m0 : (st != 0) = true) (hlen : n = 5) (hne : (num L 0 % 2147483648 == st) = false) :
    Calls Try.prog 15 #[.agg (fC ty fl st (.slice A n cap))] w fun e w' => Ans w.heap.size (PP.base ty st, okB) e w' ∧ Below w.heap.size w w' := by
  have HR := Lib.hid hR
  have HL := Lib.hid hln
  have HY := Lib.hid hb
  clear hR hln hb
  have HRG := Lib.hid hrg
  clear hrg
  have hlk : ((n : Int) != 5) = false := by simp; omega
  have hl4 : 4 ≤ L.length := by rw [HL.out]; omega
  clear hlen
  go_enter Try.func15, Try.ntmps15
  go_upto_region 2 with fail
  refine wp_forget (fun W => Below w.heap.size w W ∧ Hid (Blk W w.heap.size 32 (fC ty fl st (.slice A n cap))) ∧ Hid (Blk W (w.heap.size + 1) 26 zP) ∧ Hid (Blk W (w.heap.size + 2) 28 zB) ∧ Hid (Blk W (w.heap.size + 3) 26 (pB ty st)))
    ⟨by go_grown, Lib.hid ((((Blk.new _ _ _).alloc _).alloc _).alloc _), Lib.hid (((Blk.new_at (by simp only [World.size_alloc])).alloc _).alloc _), Lib.hid ((Blk.new_at (by simp only [World.size_alloc])).alloc _), Lib.hid (Blk.new_at (by simp only [World.size_alloc]))⟩ ?_
  rintro W ⟨hB, HF, HZ, HX, HP⟩
  have hBs := hB.size
  have hl3 := HP.out.lt
  have hl0 : w.heap.size < W.heap.size := by omega
  have f0 : W.cell? ⟨w.heap.size, 0, none⟩ = some (.int .i64 ty) := HF.out.cell 0
  have f1 : W.cell? ⟨w.heap.size, 1, none⟩ = some (.int .i64 fl) := HF.out.cell 1
  have f2 : W.cell? ⟨w.heap.size, 2, none⟩ = some (.int .i64 st) := HF.out.cell 2
  have f3 : W.cell? ⟨w.heap.size, 3, none⟩ = some (.slice A n cap) := HF.out.cell 3
  have HRW := Lib.hid (HR.out.below hB (Nat.le_refl _))
  generalize hg : w.heap.size = g at *
  have HG := Lib.hid hg
  clear hg
  go_upto_region 15 with (go_at_call 32; refine (rright_any ty fl st A n cap _).mono ?_; rintro e w1 ⟨rfl, hB1⟩; have hS1 := hB1.size; have HF1 := Lib.hid (HF.out.below hB1 (by omega)); have HP1 := Lib.hid (HP.out.below hB1 (by omega)); have HZ1 := Lib.hid (HZ.out.below hB1 (by omega)); have HX1 := Lib.hid (HX.out.below hB1 (by omega)); have f10 : w1.cell? ⟨g, 0, none⟩ = some (.int .i64 ty) := HF1.out.cell 0; have f11 : w1.cell? ⟨g, 1, none⟩ = some (.int .i64 fl) := HF1.out.cell 1; have f12 : w1.cell? ⟨g, 2, none⟩ = some (.int .i64 st) := HF1.out.cell 2; have f13 : w1.cell? ⟨g, 3, none⟩ = some (.slice A n cap) := HF1.out.cell 3; rw [HRG.out])
  go_region_held3 (fun wx => wx.cell? ⟨g, 2, none⟩ = some (.int .i64 st)) (first | assumption | go_simp) ((go_at_call 35; refine (four_any _ L _ ((HRW.out.below hB1 (Nat.le_refl _)).below (by go_grown) (Nat.le_refl _)) HY.out hl4).mono ?_; rintro e w2 ⟨rfl, hD2⟩; have hB2 : Below w1.heap.size w1 w2 := Below.trans (by go_grown) hD2; have hS2 := hB2.size; have HF2 := Lib.hid (HF1.out.below hB2 (by omega)); have HP2 := Lib.hid (HP1.out.below hB2 (by omega)); have HZ2 := Lib.hid (HZ1.out.below hB2 (by omega)); have HX2 := Lib.hid (HX1.out.below hB2 (by omega)); have f20 : w2.cell? ⟨g, 0, none⟩ = some (.int .i64 ty) := HF2.out.cell 0; have f21 : w2.cell? ⟨g, 1, none⟩ = some (.int .i64 fl) := HF2.out.cell 1; have f22 : w2.cell? ⟨g, 2, none⟩ = some (.int .i64 st) := HF2.out.cell 2; have f23 : w2.cell? ⟨g, 3, none⟩ = some (.slice A n cap) := HF2.out.cell 3))
  go_upto_region 41 with fail
  have HPe := HP2
  have HZe := HZ2
  have HXe := HX2
  have hBe : Below g w w2 := ((hB.trans (hB1.mono (by omega))).trans (hB2.mono (by omega)))
  go_wp2_with (first
    | (refine wpList_load_row rfl 26 (.tmp 4) rfl (g + 3) rfl 26 _ _ _ HPe.out Try.underlying26 rfl (by kernel_rfl) ?_)
    | (refine wpList_store_row rfl 26 (.tmp 2) (.tmp 191) rfl (g + 1) rfl (pB ty st) rfl 26 _ HZe.out rfl (by kernel_rfl) (by simp [Value.oneCell']) ?_; intro x1 hx1 gx1 sx1; have HXx := Lib.hid (HXe.out.grown gx1 (by simp)))
    | (refine wpList_store_row rfl 28 (.tmp 3) (.tmp 192) rfl (g + 2) rfl zB rfl 28 _ HXx.out rfl (by kernel_rfl) (by simp [Value.oneCell']) ?_; intro x2 hx2 gx2 sx2))
  have hgo := HG.out
  subst hgo
  refine bodyPost_ret (results_cc rfl _ (w.heap.size + 1) (w.heap.size + 2) 26 28 _ _ _ _ rfl (hx1.grown gx2 (by simp)) Try.underlying26 rfl (by kernel_rfl) rfl hx2 Try.underlying28 rfl (by kernel_rfl)) rfl ⟨⟨_, rfl, isP_base _ _ _ _⟩, ((hBe.grown gx1 (by omega) (fun q hq => by cases hq; omega)).grown gx2 (by omega) (fun q hq => by cases hq; omega))⟩
set_option maxHeartbeats 4000000 in
set_option maxRecDepth 100000 in
theorem rs_reset_bad (ty fl st : Int) (A : Option Addr) (n cap : Nat) (L : List Int) (w : World) (hR : BS w (.slice A n cap) L) (hln : L.length = n) (hb : Byt L) (hn : n ≤ 1099511627776) (hrg : rightB ty fl st n = true) (h9 : ¬ 9 < ty) (e0 : (ty == 0) = false) (e1 : (ty == 1) = false) (e2 : (ty == 2) = false) (e3 : (ty == 3) = true) (e4 : (ty == 4) = false) (e5 : (ty == 5) = false) (e6 : (ty == 6) = false) (e7 : (ty == 7) = false) (e8 : (ty == 8) = false) (e9 : (ty == 9) = false) (n8 : (ty != 8) = true) (s0 : (st == 0) = false) (m0 : (st != 0) = true) (hlen : n ≠ 4) :
    Calls Try.prog 15 #[.agg (fC ty fl st (.slice A n cap))] w fun e w' => Ans w.heap.size (PP.zero, cB 6) e w' ∧ Below w.heap.size w w' := by
  have HR := Lib.hid hR
  have HL := Lib.hid hln
  have HY := Lib.hid hb
  clear hR hln hb
  have HRG := Lib.hid hrg
  clear hrg
  have hlk : ((n : Int) != 4) = true := by simp; omega
  clear hlen
  go_enter Try.func15, Try.ntmps15
  go_upto_region 2 with fail
  refine wp_forget (fun W => Below w.heap.size w W ∧ Hid (Blk W w.heap.size 32 (fC ty fl st (.slice A n cap))) ∧ Hid (Blk W (w.heap.size + 1) 26 zP) ∧ Hid (Blk W (w.heap.size + 2) 28 zB) ∧ Hid (Blk W (w.heap.size + 3) 26 (pB ty st)))
    ⟨by go_grown, Lib.hid ((((Blk.new _ _ _).alloc _).alloc _).alloc _), Lib.hid (((Blk.new_at (by simp only [World.size_alloc])).alloc _).alloc _), Lib.hid ((Blk.new_at (by simp only [World.size_alloc])).alloc _), Lib.hid (Blk.new_at (by simp only [World.size_alloc]))⟩ ?_
  rintro W ⟨hB, HF, HZ, HX, HP⟩
  have hBs := hB.size
  have hl3 := HP.out.lt
  have hl0 : w.heap.size < W.heap.size := by omega
  have f0 : W.cell? ⟨w.heap.size, 0, none⟩ = some (.int .i64 ty) := HF.out.cell 0
  have f1 : W.cell? ⟨w.heap.size, 1, none⟩ = some (.int .i64 fl) := HF.out.cell 1
  have f2 : W.cell? ⟨w.heap.size, 2, none⟩ = some (.int .i64 st) := HF.out.cell 2
  have f3 : W.cell? ⟨w.heap.size, 3, none⟩ = some (.slice A n cap) := HF.out.cell 3
  have HRW := Lib.hid (HR.out.below hB (Nat.le_refl _))
  generalize hg : w.heap.size = g at *
  have HG := Lib.hid hg
  clear hg
  go_wp2_with (first
    | (go_at_call 32; refine (rright_any ty fl st A n cap _).mono ?_; rintro e w1 ⟨rfl, hB1⟩; have hS1 := hB1.size; have HF1 := Lib.hid (HF.out.below hB1 (by omega)); have HP1 := Lib.hid (HP.out.below hB1 (by omega)); have HZ1 := Lib.hid (HZ.out.below hB1 (by omega)); have HX1 := Lib.hid (HX.out.below hB1 (by omega)); have f10 : w1.cell? ⟨g, 0, none⟩ = some (.int .i64 ty) := HF1.out.cell 0; have f11 : w1.cell? ⟨g, 1, none⟩ = some (.int .i64 fl) := HF1.out.cell 1; have f12 : w1.cell? ⟨g, 2, none⟩ = some (.int .i64 st) := HF1.out.cell 2; have f13 : w1.cell? ⟨g, 3, none⟩ = some (.slice A n cap) := HF1.out.cell 3; rw [HRG.out])
    | (go_at_call 33; refine (rbadc_any 6 _).mono ?_; rintro e w2 ⟨rfl, hB2⟩; have hS2 := hB2.size; have HF2 := Lib.hid (HF1.out.below hB2 (by omega)); have HP2 := Lib.hid (HP1.out.below hB2 (by omega)); have HZ2 := Lib.hid (HZ1.out.below hB2 (by omega)); have HX2 := Lib.hid (HX1.out.below hB2 (by omega)); have f20 : w2.cell? ⟨g, 0, none⟩ = some (.int .i64 ty) := HF2.out.cell 0; have f21 : w2.cell? ⟨g, 1, none⟩ = some (.int .i64 fl) := HF2.out.cell 1; have f22 : w2.cell? ⟨g, 2, none⟩ = some (.int .i64 st) := HF2.out.cell 2; have f23 : w2.cell? ⟨g, 3, none⟩ = some (.slice A n cap) := HF2.out.cell 3)
    | (refine wpList_store_row rfl 26 (.tmp 2) (.tmp 101) rfl (g + 1) rfl zP rfl 26 _ HZ2.out rfl (by kernel_rfl) (by simp [Value.oneCell']) ?_; intro x1 hx1 gx1 sx1; have HXx := Lib.hid (HX2.out.grown gx1 (by simp)))
    | (refine wpList_store_row rfl 28 (.tmp 3) (.tmp 102) rfl (g + 2) rfl #[.int .i64 2, .int .i64 (6), .int .i64 0] rfl 28 _ HXx.out rfl (by kernel_rfl) (by simp [Value.oneCell']) ?_; intro x2 hx2 gx2 sx2))
  have hgo := HG.out
  subst hgo
  refine bodyPost_ret (results_cc rfl _ (w.heap.size + 1) (w.heap.size + 2) 26 28 _ _ _ _ rfl (hx1.grown gx2 (by simp)) Try.underlying26 rfl (by kernel_rfl) rfl hx2 Try.underlying28 rfl (by kernel_rfl)) rfl ⟨⟨_, rfl, isP_zero _ _⟩, ((((hB.trans (hB1.mono (by omega))).trans (hB2.mono (by omega))).grown gx1 (by omega) (fun q hq => by cases hq; omega)).grown gx2 (by omega) (fun q hq => by cases hq; omega))⟩
set_option maxHeartbeats 4000000 in
set_option maxRecDepth 100000 in
theorem rs_reset (ty fl st : Int) (A : Option Addr) (n cap : Nat) (L : List Int) (w : World) (hR : BS w (.slice A n cap) L) (hln : L.length = n) (hb : Byt L) (hn : n ≤ 1099511627776) (hrg : rightB ty fl st n = true) (h9 : ¬ 9 < ty) (e0 : (ty == 0) = false) (e1 : (ty == 1) = false) (e2 : (ty == 2) = false) (e3 : (ty == 3) = true) (e4 : (ty == 4) = false) (e5 : (ty == 5) = false) (e6 : (ty == 6) = false) (e7 : (ty == 7) = false) (e8 : (ty == 8) = false) (e9 : (ty == 9) = false) (n8 : (ty != 8) = true) (s0 : (st == 0) = false) (m0 : (st != 0) = true) (hlen : n = 4) (x : Int) (hx : num L 0 = x) :
    Calls Try.prog 15 #[.agg (fC ty fl st (.slice A n cap))] w fun e w' => Ans w.heap.size ({ PP.base ty st with co := x }, okB) e w' ∧ Below w.heap.size w w' := by
  have HR := Lib.hid hR
  have HL := Lib.hid hln
  have HY := Lib.hid hb
  clear hR hln hb
  have HRG := Lib.hid hrg
  clear hrg
  have hlk : ((n : Int) != 4) = false := by simp; omega
  have hl4 : 4 ≤ L.length := by rw [HL.out]; omega
  clear hlen
  have HNX := Lib.hid hx
  clear hx
  go_enter Try.func15, Try.ntmps15
  go_upto_region 2 with fail
  refine wp_forget (fun W => Below w.heap.size w W ∧ Hid (Blk W w.heap.size 32 (fC ty fl st (.slice A n cap))) ∧ Hid (Blk W (w.heap.size + 1) 26 zP) ∧ Hid (Blk W (w.heap.size + 2) 28 zB) ∧ Hid (Blk W (w.heap.size + 3) 26 (pB ty st)))
    ⟨by go_grown, Lib.hid ((((Blk.new _ _ _).alloc _).alloc _).alloc _), Lib.hid (((Blk.new_at (by simp only [World.size_alloc])).alloc _).alloc _), Lib.hid ((Blk.new_at (by simp only [World.size_alloc])).alloc _), Lib.hid (Blk.new_at (by simp only [World.size_alloc]))⟩ ?_
  rintro W ⟨hB, HF, HZ, HX, HP⟩
  have hBs := hB.size
  have hl3 := HP.out.lt
  have hl0 : w.heap.size < W.heap.size := by omega
  have f0 : W.cell? ⟨w.heap.size, 0, none⟩ = some (.int .i64 ty) := HF.out.cell 0
  have f1 : W.cell? ⟨w.heap.size, 1, none⟩ = some (.int .i64 fl) := HF.out.cell 1
  have f2 : W.cell? ⟨w.heap.size, 2, none⟩ = some (.int .i64 st) := HF.out.cell 2
  have f3 : W.cell? ⟨w.heap.size, 3, none⟩ = some (.slice A n cap) := HF.out.cell 3
  have HRW := Lib.hid (HR.out.below hB (Nat.le_refl _))
  generalize hg : w.heap.size = g at *
  have HG := Lib.hid hg
  clear hg
  go_upto_region 41 with (first
    | (go_at_call 32; refine (rright_any ty fl st A n cap _).mono ?_; rintro e w1 ⟨rfl, hB1⟩; have hS1 := hB1.size; have HF1 := Lib.hid (HF.out.below hB1 (by omega)); have HP1 := Lib.hid (HP.out.below hB1 (by omega)); have HZ1 := Lib.hid (HZ.out.below hB1 (by omega)); have HX1 := Lib.hid (HX.out.below hB1 (by omega)); have f10 : w1.cell? ⟨g, 0, none⟩ = some (.int .i64 ty) := HF1.out.cell 0; have f11 : w1.cell? ⟨g, 1, none⟩ = some (.int .i64 fl) := HF1.out.cell 1; have f12 : w1.cell? ⟨g, 2, none⟩ = some (.int .i64 st) := HF1.out.cell 2; have f13 : w1.cell? ⟨g, 3, none⟩ = some (.slice A n cap) := HF1.out.cell 3; rw [HRG.out])
    | (go_at_call 36; refine (all_any _ L _ (HRW.out.below hB1 (Nat.le_refl _)) HY.out hl4).mono ?_; rintro e w2 ⟨rfl, hB2⟩; have hS2 := hB2.size; have HF2 := Lib.hid (HF1.out.below hB2 (by omega)); have HP2 := Lib.hid (HP1.out.below hB2 (by omega)); have HZ2 := Lib.hid (HZ1.out.below hB2 (by omega)); have HX2 := Lib.hid (HX1.out.below hB2 (by omega)); have f20 : w2.cell? ⟨g, 0, none⟩ = some (.int .i64 ty) := HF2.out.cell 0; have f21 : w2.cell? ⟨g, 1, none⟩ = some (.int .i64 fl) := HF2.out.cell 1; have f22 : w2.cell? ⟨g, 2, none⟩ = some (.int .i64 st) := HF2.out.cell 2; have f23 : w2.cell? ⟨g, 3, none⟩ = some (.slice A n cap) := HF2.out.cell 3; rw [HNX.out]; have c6 : w2.cell? ⟨g + 3, 6, none⟩ = some (.int .i64 0) := HP2.out.cell 6; have z6 : w2.frozen? ⟨g + 3, 6, none⟩ = false := HP2.out.frozen 6))
  have HP4 := Lib.hid (HP2.out.put 6 (.int .i64 x))
  have HZ4 := Lib.hid (HZ2.out.far (p := ⟨g + 3, 6, none⟩) (by simp) (.int .i64 x))
  have HX4 := Lib.hid (HX2.out.far (p := ⟨g + 3, 6, none⟩) (by simp) (.int .i64 x))
  have HF4 := Lib.hid (HF2.out.far (p := ⟨g + 3, 6, none⟩) (by simp) (.int .i64 x))
  have hB4 : Below g w (w2.setCell ⟨g + 3, 6, none⟩ (.int .i64 x)) := ((hB.trans (hB1.mono (by omega))).trans (hB2.mono (by omega))).setCell (by simp) _
  have hs4 : w2.heap.size ≤ (w2.setCell ⟨g + 3, 6, none⟩ (.int .i64 x)).heap.size := by simp only [World.size_setCell]; exact Nat.le_refl _
  refine wp_forget (fun V => Below g w V ∧ w2.heap.size ≤ V.heap.size ∧ Hid (Blk V g 32 (fC ty fl st (.slice A n cap))) ∧ Hid (Blk V (g + 3) 26 #[.int .i64 ty, .int .i64 st, .bool false, .bool false, .bool false, .slice none 0 0, .int .i64 x, .int .i64 0, .int .i64 0, .int .i64 0, .slice none 0 0]) ∧ Hid (Blk V (g + 1) 26 zP) ∧ Hid (Blk V (g + 2) 28 zB)) ⟨hB4, hs4, HF4, HP4, HZ4, HX4⟩ ?_
  clear HP4 HZ4 HX4 HF4 hB4 hs4
  rintro V ⟨hBe, hsV, HFe, HPe, HZe, HXe⟩
  have k8 : V.cell? ⟨g + 3, 6, none⟩ = some (.int .i64 x) := HPe.out.cell 6
  have k2 : V.cell? ⟨g, 2, none⟩ = some (.int .i64 st) := HFe.out.cell 2
  go_wp2_with (first
    | (refine wpList_load_row rfl 26 (.tmp 4) rfl (g + 3) rfl 26 _ _ _ HPe.out Try.underlying26 rfl (by kernel_rfl) ?_)
    | (refine wpList_store_row rfl 26 (.tmp 2) (.tmp 191) rfl (g + 1) rfl #[.int .i64 ty, .int .i64 st, .bool false, .bool false, .bool false, .slice none 0 0, .int .i64 x, .int .i64 0, .int .i64 0, .int .i64 0, .slice none 0 0] rfl 26 _ HZe.out rfl (by kernel_rfl) (by simp [Value.oneCell']) ?_; intro x1 hx1 gx1 sx1; have HXx := Lib.hid (HXe.out.grown gx1 (by simp)))
    | (refine wpList_store_row rfl 28 (.tmp 3) (.tmp 192) rfl (g + 2) rfl zB rfl 28 _ HXx.out rfl (by kernel_rfl) (by simp [Value.oneCell']) ?_; intro x2 hx2 gx2 sx2))
  have hgo := HG.out
  subst hgo
  refine bodyPost_ret (results_cc rfl _ (w.heap.size + 1) (w.heap.size + 2) 26 28 _ _ _ _ rfl (hx1.grown gx2 (by simp)) Try.underlying26 rfl (by kernel_rfl) rfl hx2 Try.underlying28 rfl (by kernel_rfl)) rfl ⟨⟨_, rfl, ⟨.slice none 0 0, .slice none 0 0, rfl, World.ownsRow_nil _ _ _ _, World.ownsRow_nil _ _ _ _⟩⟩, ((hBe.grown gx1 (by omega) (fun q hq => by cases hq; omega)).grown gx2 (by omega) (fun q hq => by cases hq; omega))⟩
set_option maxHeartbeats 4000000 in
set_option maxRecDepth 100000 in
theorem rs_wind_bad (ty fl st : Int) (A : Option Addr) (n cap : Nat) (L : List Int) (w : World) (hR : BS w (.slice A n cap) L) (hln : L.length = n) (hb : Byt L) (hn : n ≤ 1099511627776) (hrg : rightB ty fl st n = true) (h9 : ¬ 9 < ty) (e0 : (ty == 0) = false) (e1 : (ty == 1) = false) (e2 : (ty == 2) = false) (e3 : (ty == 3) = false) (e4 : (ty == 4) = false) (e5 : (ty == 5) = false) (e6 : (ty == 6) = false) (e7 : (ty == 7) = false) (e8 : (ty == 8) = true) (e9 : (ty == 9) = false) (n8 : (ty != 8) = false) (hlen : n ≠ 4) :
    Calls Try.prog 15 #[.agg (fC ty fl st (.slice A n cap))] w fun e w' => Ans w.heap.size (PP.zero, cB 6) e w' ∧ Below w.heap.size w w' := by
  have HR := Lib.hid hR
  have HL := Lib.hid hln
  have HY := Lib.hid hb
  clear hR hln hb
  have HRG := Lib.hid hrg
  clear hrg
  have hlk : ((n : Int) != 4) = true := by simp; omega
  clear hlen
  go_enter Try.func15, Try.ntmps15
  go_upto_region 2 with fail
  refine wp_forget (fun W => Below w.heap.size w W ∧ Hid (Blk W w.heap.size 32 (fC ty fl st (.slice A n cap))) ∧ Hid (Blk W (w.heap.size + 1) 26 zP) ∧ Hid (Blk W (w.heap.size + 2) 28 zB) ∧ Hid (Blk W (w.heap.size + 3) 26 (pB ty st)))
    ⟨by go_grown, Lib.hid ((((Blk.new _ _ _).alloc _).alloc _).alloc _), Lib.hid (((Blk.new_at (by simp only [World.size_alloc])).alloc _).alloc _), Lib.hid ((Blk.new_at (by simp only [World.size_alloc])).alloc _), Lib.hid (Blk.new_at (by simp only [World.size_alloc]))⟩ ?_
  rintro W ⟨hB, HF, HZ, HX, HP⟩
  have hBs := hB.size
  have hl3 := HP.out.lt
  have hl0 : w.heap.size < W.heap.size := by omega
  have f0 : W.cell? ⟨w.heap.size, 0, none⟩ = some (.int .i64 ty) := HF.out.cell 0
  have f1 : W.cell? ⟨w.heap.size, 1, none⟩ = some (.int .i64 fl) := HF.out.cell 1
  have f2 : W.cell? ⟨w.heap.size, 2, none⟩ = some (.int .i64 st) := HF.out.cell 2
  have f3 : W.cell? ⟨w.heap.size, 3, none⟩ = some (.slice A n cap) := HF.out.cell 3
  have HRW := Lib.hid (HR.out.below hB (Nat.le_refl _))
  generalize hg : w.heap.size = g at *
  have HG := Lib.hid hg
  clear hg
  go_wp2_with (first
    | (go_at_call 32; refine (rright_any ty fl st A n cap _).mono ?_; rintro e w1 ⟨rfl, hB1⟩; have hS1 := hB1.size; have HF1 := Lib.hid (HF.out.below hB1 (by omega)); have HP1 := Lib.hid (HP.out.below hB1 (by omega)); have HZ1 := Lib.hid (HZ.out.below hB1 (by omega)); have HX1 := Lib.hid (HX.out.below hB1 (by omega)); have f10 : w1.cell? ⟨g, 0, none⟩ = some (.int .i64 ty) := HF1.out.cell 0; have f11 : w1.cell? ⟨g, 1, none⟩ = some (.int .i64 fl) := HF1.out.cell 1; have f12 : w1.cell? ⟨g, 2, none⟩ = some (.int .i64 st) := HF1.out.cell 2; have f13 : w1.cell? ⟨g, 3, none⟩ = some (.slice A n cap) := HF1.out.cell 3; rw [HRG.out])
    | (go_at_call 33; refine (rbadc_any 6 _).mono ?_; rintro e w2 ⟨rfl, hB2⟩; have hS2 := hB2.size; have HF2 := Lib.hid (HF1.out.below hB2 (by omega)); have HP2 := Lib.hid (HP1.out.below hB2 (by omega)); have HZ2 := Lib.hid (HZ1.out.below hB2 (by omega)); have HX2 := Lib.hid (HX1.out.below hB2 (by omega)); have f20 : w2.cell? ⟨g, 0, none⟩ = some (.int .i64 ty) := HF2.out.cell 0; have f21 : w2.cell? ⟨g, 1, none⟩ = some (.int .i64 fl) := HF2.out.cell 1; have f22 : w2.cell? ⟨g, 2, none⟩ = some (.int .i64 st) := HF2.out.cell 2; have f23 : w2.cell? ⟨g, 3, none⟩ = some (.slice A n cap) := HF2.out.cell 3)
    | (refine wpList_store_row rfl 26 (.tmp 2) (.tmp 156) rfl (g + 1) rfl zP rfl 26 _ HZ2.out rfl (by kernel_rfl) (by simp [Value.oneCell']) ?_; intro x1 hx1 gx1 sx1; have HXx := Lib.hid (HX2.out.grown gx1 (by simp)))
    | (refine wpList_store_row rfl 28 (.tmp 3) (.tmp 157) rfl (g + 2) rfl #[.int .i64 2, .int .i64 (6), .int .i64 0] rfl 28 _ HXx.out rfl (by kernel_rfl) (by simp [Value.oneCell']) ?_; intro x2 hx2 gx2 sx2))
  have hgo := HG.out
  subst hgo
  refine bodyPost_ret (results_cc rfl _ (w.heap.size + 1) (w.heap.size + 2) 26 28 _ _ _ _ rfl (hx1.grown gx2 (by simp)) Try.underlying26 rfl (by kernel_rfl) rfl hx2 Try.underlying28 rfl (by kernel_rfl)) rfl ⟨⟨_, rfl, isP_zero _ _⟩, ((((hB.trans (hB1.mono (by omega))).trans (hB2.mono (by omega))).grown gx1 (by omega) (fun q hq => by cases hq; omega)).grown gx2 (by omega) (fun q hq => by cases hq; omega))⟩
set_option maxHeartbeats 4000000 in
set_option maxRecDepth 100000 in
theorem rs_wind_zero (ty fl st : Int) (A : Option Addr) (n cap : Nat) (L : List Int) (w : World) (hR : BS w (.slice A n cap) L) (hln : L.length = n) (hb : Byt L) (hn : n ≤ 1099511627776) (hrg : rightB ty fl st n = true) (h9 : ¬ 9 < ty) (e0 : (ty == 0) = false) (e1 : (ty == 1) = false) (e2 : (ty == 2) = false) (e3 : (ty == 3) = false) (e4 : (ty == 4) = false) (e5 : (ty == 5) = false) (e6 : (ty == 6) = false) (e7 : (ty == 7) = false) (e8 : (ty == 8) = true) (e9 : (ty == 9) = false) (n8 : (ty != 8) = false) (hlen : n = 4) (x : Int) (hx : num L 0 % 2147483648 = x) (h0 : (x == 0) = true) (hs : (st == 0) = true) :
    Calls Try.prog 15 #[.agg (fC ty fl st (.slice A n cap))] w fun e w' => Ans w.heap.size (PP.zero, cB 1) e w' ∧ Below w.heap.size w w' := by
  have HR := Lib.hid hR
  have HL := Lib.hid hln
  have HY := Lib.hid hb
  clear hR hln hb
  have HRG := Lib.hid hrg
  clear hrg
  have hlk : ((n : Int) != 4) = false := by simp; omega
  have hl4 : 4 ≤ L.length := by rw [HL.out]; omega
  clear hlen
  have HNX := Lib.hid hx
  clear hx
  go_enter Try.func15, Try.ntmps15
  go_upto_region 2 with fail
  refine wp_forget (fun W => Below w.heap.size w W ∧ Hid (Blk W w.heap.size 32 (fC ty fl st (.slice A n cap))) ∧ Hid (Blk W (w.heap.size + 1) 26 zP) ∧ Hid (Blk W (w.heap.size + 2) 28 zB) ∧ Hid (Blk W (w.heap.size + 3) 26 (pB ty st)))
    ⟨by go_grown, Lib.hid ((((Blk.new _ _ _).alloc _).alloc _).alloc _), Lib.hid (((Blk.new_at (by simp only [World.size_alloc])).alloc _).alloc _), Lib.hid ((Blk.new_at (by simp only [World.size_alloc])).alloc _), Lib.hid (Blk.new_at (by simp only [World.size_alloc]))⟩ ?_
  rintro W ⟨hB, HF, HZ, HX, HP⟩
  have hBs := hB.size
  have hl3 := HP.out.lt
  have hl0 : w.heap.size < W.heap.size := by omega
  have f0 : W.cell? ⟨w.heap.size, 0, none⟩ = some (.int .i64 ty) := HF.out.cell 0
  have f1 : W.cell? ⟨w.heap.size, 1, none⟩ = some (.int .i64 fl) := HF.out.cell 1
  have f2 : W.cell? ⟨w.heap.size, 2, none⟩ = some (.int .i64 st) := HF.out.cell 2
  have f3 : W.cell? ⟨w.heap.size, 3, none⟩ = some (.slice A n cap) := HF.out.cell 3
  have HRW := Lib.hid (HR.out.below hB (Nat.le_refl _))
  generalize hg : w.heap.size = g at *
  have HG := Lib.hid hg
  clear hg
  go_upto_region 35 with (first
    | (go_at_call 32; refine (rright_any ty fl st A n cap _).mono ?_; rintro e w1 ⟨rfl, hB1⟩; have hS1 := hB1.size; have HF1 := Lib.hid (HF.out.below hB1 (by omega)); have HP1 := Lib.hid (HP.out.below hB1 (by omega)); have HZ1 := Lib.hid (HZ.out.below hB1 (by omega)); have HX1 := Lib.hid (HX.out.below hB1 (by omega)); have f10 : w1.cell? ⟨g, 0, none⟩ = some (.int .i64 ty) := HF1.out.cell 0; have f11 : w1.cell? ⟨g, 1, none⟩ = some (.int .i64 fl) := HF1.out.cell 1; have f12 : w1.cell? ⟨g, 2, none⟩ = some (.int .i64 st) := HF1.out.cell 2; have f13 : w1.cell? ⟨g, 3, none⟩ = some (.slice A n cap) := HF1.out.cell 3; rw [HRG.out])
    | (go_at_call 35; refine (four_any _ L _ (HRW.out.below hB1 (Nat.le_refl _)) HY.out hl4).mono ?_; rintro e w2 ⟨rfl, hB2⟩; have hS2 := hB2.size; have HF2 := Lib.hid (HF1.out.below hB2 (by omega)); have HP2 := Lib.hid (HP1.out.below hB2 (by omega)); have HZ2 := Lib.hid (HZ1.out.below hB2 (by omega)); have HX2 := Lib.hid (HX1.out.below hB2 (by omega)); have f20 : w2.cell? ⟨g, 0, none⟩ = some (.int .i64 ty) := HF2.out.cell 0; have f21 : w2.cell? ⟨g, 1, none⟩ = some (.int .i64 fl) := HF2.out.cell 1; have f22 : w2.cell? ⟨g, 2, none⟩ = some (.int .i64 st) := HF2.out.cell 2; have f23 : w2.cell? ⟨g, 3, none⟩ = some (.slice A n cap) := HF2.out.cell 3; rw [HNX.out]; have c6 : w2.cell? ⟨g + 3, 8, none⟩ = some (.int .i64 0) := HP2.out.cell 8; have z6 : w2.frozen? ⟨g + 3, 8, none⟩ = false := HP2.out.frozen 8))
  have HP4 := Lib.hid (HP2.out.put 8 (.int .i64 x))
  have HZ4 := Lib.hid (HZ2.out.far (p := ⟨g + 3, 8, none⟩) (by simp) (.int .i64 x))
  have HX4 := Lib.hid (HX2.out.far (p := ⟨g + 3, 8, none⟩) (by simp) (.int .i64 x))
  have HF4 := Lib.hid (HF2.out.far (p := ⟨g + 3, 8, none⟩) (by simp) (.int .i64 x))
  have hB4 : Below g w (w2.setCell ⟨g + 3, 8, none⟩ (.int .i64 x)) := ((hB.trans (hB1.mono (by omega))).trans (hB2.mono (by omega))).setCell (by simp) _
  have hs4 : w2.heap.size ≤ (w2.setCell ⟨g + 3, 8, none⟩ (.int .i64 x)).heap.size := by simp only [World.size_setCell]; exact Nat.le_refl _
  refine wp_forget (fun V => Below g w V ∧ w2.heap.size ≤ V.heap.size ∧ Hid (Blk V g 32 (fC ty fl st (.slice A n cap))) ∧ Hid (Blk V (g + 3) 26 #[.int .i64 ty, .int .i64 st, .bool false, .bool false, .bool false, .slice none 0 0, .int .i64 0, .int .i64 0, .int .i64 x, .int .i64 0, .slice none 0 0]) ∧ Hid (Blk V (g + 1) 26 zP) ∧ Hid (Blk V (g + 2) 28 zB)) ⟨hB4, hs4, HF4, HP4, HZ4, HX4⟩ ?_
  clear HP4 HZ4 HX4 HF4 hB4 hs4
  rintro V ⟨hBe, hsV, HFe, HPe, HZe, HXe⟩
  have k8 : V.cell? ⟨g + 3, 8, none⟩ = some (.int .i64 x) := HPe.out.cell 8
  have k2 : V.cell? ⟨g, 2, none⟩ = some (.int .i64 st) := HFe.out.cell 2
  go_wp2_with (first
    | (go_at_call 33; refine (rbadc_any 1 _).mono ?_; rintro e w9 ⟨rfl, hB9⟩; have hS9 := hB9.size; have HZ9 := Lib.hid (HZe.out.below hB9 (by omega)); have HX9 := Lib.hid (HXe.out.below hB9 (by omega)))
    | (refine wpList_store_row rfl 26 (.tmp 2) (.tmp 170) rfl (g + 1) rfl zP rfl 26 _ HZ9.out rfl (by kernel_rfl) (by simp [Value.oneCell']) ?_; intro x1 hx1 gx1 sx1; have HXx := Lib.hid (HX9.out.grown gx1 (by simp)))
    | (refine wpList_store_row rfl 28 (.tmp 3) (.tmp 171) rfl (g + 2) rfl #[.int .i64 2, .int .i64 (1), .int .i64 0] rfl 28 _ HXx.out rfl (by kernel_rfl) (by simp [Value.oneCell']) ?_; intro x2 hx2 gx2 sx2))
  have hgo := HG.out
  subst hgo
  refine bodyPost_ret (results_cc rfl _ (w.heap.size + 1) (w.heap.size + 2) 26 28 _ _ _ _ rfl (hx1.grown gx2 (by simp)) Try.underlying26 rfl (by kernel_rfl) rfl hx2 Try.underlying28 rfl (by kernel_rfl)) rfl ⟨⟨_, rfl, isP_zero _ _⟩, (((hBe.trans (hB9.mono (by omega))).grown gx1 (by omega) (fun q hq => by cases hq; omega)).grown gx2 (by omega) (fun q hq => by cases hq; omega))⟩
set_option maxHeartbeats 4000000 in
set_option maxRecDepth 100000 in
theorem rs_wind_st (ty fl st : Int) (A : Option Addr) (n cap : Nat) (L : List Int) (w : World) (hR : BS w (.slice A n cap) L) (hln : L.length = n) (hb : Byt L) (hn : n ≤ 1099511627776) (hrg : rightB ty fl st n = true) (h9 : ¬ 9 < ty) (e0 : (ty == 0) = false) (e1 : (ty == 1) = false) (e2 : (ty == 2) = false) (e3 : (ty == 3) = false) (e4 : (ty == 4) = false) (e5 : (ty == 5) = false) (e6 : (ty == 6) = false) (e7 : (ty == 7) = false) (e8 : (ty == 8) = true) (e9 : (ty == 9) = false) (n8 : (ty != 8) = false) (hlen : n = 4) (x : Int) (hx : num L 0 % 2147483648 = x) (h0 : (x == 0) = true) (hs : (st == 0) = false) :
    Calls Try.prog 15 #[.agg (fC ty fl st (.slice A n cap))] w fun e w' => Ans w.heap.size (PP.zero, sB 1 st) e w' ∧ Below w.heap.size w w' := by
  have HR := Lib.hid hR
  have HL := Lib.hid hln
  have HY := Lib.hid hb
  clear hR hln hb
  have HRG := Lib.hid hrg
  clear hrg
  have hlk : ((n : Int) != 4) = false := by simp; omega
  have hl4 : 4 ≤ L.length := by rw [HL.out]; omega
  clear hlen
  have HNX := Lib.hid hx
  clear hx
  go_enter Try.func15, Try.ntmps15
  go_upto_region 2 with fail
  refine wp_forget (fun W => Below w.heap.size w W ∧ Hid (Blk W w.heap.size 32 (fC ty fl st (.slice A n cap))) ∧ Hid (Blk W (w.heap.size + 1) 26 zP) ∧ Hid (Blk W (w.heap.size + 2) 28 zB) ∧ Hid (Blk W (w.heap.size + 3) 26 (pB ty st)))
    ⟨by go_grown, Lib.hid ((((Blk.new _ _ _).alloc _).alloc _).alloc _), Lib.hid (((Blk.new_at (by simp only [World.size_alloc])).alloc _).alloc _), Lib.hid ((Blk.new_at (by simp only [World.size_alloc])).alloc _), Lib.hid (Blk.new_at (by simp only [World.size_alloc]))⟩ ?_
  rintro W ⟨hB, HF, HZ, HX, HP⟩
  have hBs := hB.size
  have hl3 := HP.out.lt
  have hl0 : w.heap.size < W.heap.size := by omega
  have f0 : W.cell? ⟨w.heap.size, 0, none⟩ = some (.int .i64 ty) := HF.out.cell 0
  have f1 : W.cell? ⟨w.heap.size, 1, none⟩ = some (.int .i64 fl) := HF.out.cell 1
  have f2 : W.cell? ⟨w.heap.size, 2, none⟩ = some (.int .i64 st) := HF.out.cell 2
  have f3 : W.cell? ⟨w.heap.size, 3, none⟩ = some (.slice A n cap) := HF.out.cell 3
  have HRW := Lib.hid (HR.out.below hB (Nat.le_refl _))
  generalize hg : w.heap.size = g at *
  have HG := Lib.hid hg
  clear hg
  go_upto_region 35 with (first
    | (go_at_call 32; refine (rright_any ty fl st A n cap _).mono ?_; rintro e w1 ⟨rfl, hB1⟩; have hS1 := hB1.size; have HF1 := Lib.hid (HF.out.below hB1 (by omega)); have HP1 := Lib.hid (HP.out.below hB1 (by omega)); have HZ1 := Lib.hid (HZ.out.below hB1 (by omega)); have HX1 := Lib.hid (HX.out.below hB1 (by omega)); have f10 : w1.cell? ⟨g, 0, none⟩ = some (.int .i64 ty) := HF1.out.cell 0; have f11 : w1.cell? ⟨g, 1, none⟩ = some (.int .i64 fl) := HF1.out.cell 1; have f12 : w1.cell? ⟨g, 2, none⟩ = some (.int .i64 st) := HF1.out.cell 2; have f13 : w1.cell? ⟨g, 3, none⟩ = some (.slice A n cap) := HF1.out.cell 3; rw [HRG.out])
    | (go_at_call 35; refine (four_any _ L _ (HRW.out.below hB1 (Nat.le_refl _)) HY.out hl4).mono ?_; rintro e w2 ⟨rfl, hB2⟩; have hS2 := hB2.size; have HF2 := Lib.hid (HF1.out.below hB2 (by omega)); have HP2 := Lib.hid (HP1.out.below hB2 (by omega)); have HZ2 := Lib.hid (HZ1.out.below hB2 (by omega)); have HX2 := Lib.hid (HX1.out.below hB2 (by omega)); have f20 : w2.cell? ⟨g, 0, none⟩ = some (.int .i64 ty) := HF2.out.cell 0; have f21 : w2.cell? ⟨g, 1, none⟩ = some (.int .i64 fl) := HF2.out.cell 1; have f22 : w2.cell? ⟨g, 2, none⟩ = some (.int .i64 st) := HF2.out.cell 2; have f23 : w2.cell? ⟨g, 3, none⟩ = some (.slice A n cap) := HF2.out.cell 3; rw [HNX.out]; have c6 : w2.cell? ⟨g + 3, 8, none⟩ = some (.int .i64 0) := HP2.out.cell 8; have z6 : w2.frozen? ⟨g + 3, 8, none⟩ = false := HP2.out.frozen 8))
  have HP4 := Lib.hid (HP2.out.put 8 (.int .i64 x))
  have HZ4 := Lib.hid (HZ2.out.far (p := ⟨g + 3, 8, none⟩) (by simp) (.int .i64 x))
  have HX4 := Lib.hid (HX2.out.far (p := ⟨g + 3, 8, none⟩) (by simp) (.int .i64 x))
  have HF4 := Lib.hid (HF2.out.far (p := ⟨g + 3, 8, none⟩) (by simp) (.int .i64 x))
  have hB4 : Below g w (w2.setCell ⟨g + 3, 8, none⟩ (.int .i64 x)) := ((hB.trans (hB1.mono (by omega))).trans (hB2.mono (by omega))).setCell (by simp) _
  have hs4 : w2.heap.size ≤ (w2.setCell ⟨g + 3, 8, none⟩ (.int .i64 x)).heap.size := by simp only [World.size_setCell]; exact Nat.le_refl _
  refine wp_forget (fun V => Below g w V ∧ w2.heap.size ≤ V.heap.size ∧ Hid (Blk V g 32 (fC ty fl st (.slice A n cap))) ∧ Hid (Blk V (g + 3) 26 #[.int .i64 ty, .int .i64 st, .bool false, .bool false, .bool false, .slice none 0 0, .int .i64 0, .int .i64 0, .int .i64 x, .int .i64 0, .slice none 0 0]) ∧ Hid (Blk V (g + 1) 26 zP) ∧ Hid (Blk V (g + 2) 28 zB)) ⟨hB4, hs4, HF4, HP4, HZ4, HX4⟩ ?_
  clear HP4 HZ4 HX4 HF4 hB4 hs4
  rintro V ⟨hBe, hsV, HFe, HPe, HZe, HXe⟩
  have k8 : V.cell? ⟨g + 3, 8, none⟩ = some (.int .i64 x) := HPe.out.cell 8
  have k2 : V.cell? ⟨g, 2, none⟩ = some (.int .i64 st) := HFe.out.cell 2
  go_wp2_with (first
    | (go_at_call 33; refine (rbads_any 1 st _).mono ?_; rintro e w9 ⟨rfl, hB9⟩; have hS9 := hB9.size; have HZ9 := Lib.hid (HZe.out.below hB9 (by omega)); have HX9 := Lib.hid (HXe.out.below hB9 (by omega)))
    | (refine wpList_store_row rfl 26 (.tmp 2) (.tmp 178) rfl (g + 1) rfl zP rfl 26 _ HZ9.out rfl (by kernel_rfl) (by simp [Value.oneCell']) ?_; intro x1 hx1 gx1 sx1; have HXx := Lib.hid (HX9.out.grown gx1 (by simp)))
    | (refine wpList_store_row rfl 28 (.tmp 3) (.tmp 179) rfl (g + 2) rfl #[.int .i64 1, .int .i64 1, .int .i64 st] rfl 28 _ HXx.out rfl (by kernel_rfl) (by simp [Value.oneCell']) ?_; intro x2 hx2 gx2 sx2))
  have hgo := HG.out
  subst hgo
  refine bodyPost_ret (results_cc rfl _ (w.heap.size + 1) (w.heap.size + 2) 26 28 _ _ _ _ rfl (hx1.grown gx2 (by simp)) Try.underlying26 rfl (by kernel_rfl) rfl hx2 Try.underlying28 rfl (by kernel_rfl)) rfl ⟨⟨_, rfl, isP_zero _ _⟩, (((hBe.trans (hB9.mono (by omega))).grown gx1 (by omega) (fun q hq => by cases hq; omega)).grown gx2 (by omega) (fun q hq => by cases hq; omega))⟩
set_option maxHeartbeats 4000000 in
set_option maxRecDepth 100000 in
theorem rs_wind (ty fl st : Int) (A : Option Addr) (n cap : Nat) (L : List Int) (w : World) (hR : BS w (.slice A n cap) L) (hln : L.length = n) (hb : Byt L) (hn : n ≤ 1099511627776) (hrg : rightB ty fl st n = true) (h9 : ¬ 9 < ty) (e0 : (ty == 0) = false) (e1 : (ty == 1) = false) (e2 : (ty == 2) = false) (e3 : (ty == 3) = false) (e4 : (ty == 4) = false) (e5 : (ty == 5) = false) (e6 : (ty == 6) = false) (e7 : (ty == 7) = false) (e8 : (ty == 8) = true) (e9 : (ty == 9) = false) (n8 : (ty != 8) = false) (hlen : n = 4) (x : Int) (hx : num L 0 % 2147483648 = x) (h0 : (x == 0) = false) :
    Calls Try.prog 15 #[.agg (fC ty fl st (.slice A n cap))] w fun e w' => Ans w.heap.size ({ PP.base ty st with mo := x }, okB) e w' ∧ Below w.heap.size w w' := by
  have HR := Lib.hid hR
  have HL := Lib.hid hln
  have HY := Lib.hid hb
  clear hR hln hb
  have HRG := Lib.hid hrg
  clear hrg
  have hlk : ((n : Int) != 4) = false := by simp; omega
  have hl4 : 4 ≤ L.length := by rw [HL.out]; omega
  clear hlen
  have HNX := Lib.hid hx
  clear hx
  go_enter Try.func15, Try.ntmps15
  go_upto_region 2 with fail
  refine wp_forget (fun W => Below w.heap.size w W ∧ Hid (Blk W w.heap.size 32 (fC ty fl st (.slice A n cap))) ∧ Hid (Blk W (w.heap.size + 1) 26 zP) ∧ Hid (Blk W (w.heap.size + 2) 28 zB) ∧ Hid (Blk W (w.heap.size + 3) 26 (pB ty st)))
    ⟨by go_grown, Lib.hid ((((Blk.new _ _ _).alloc _).alloc _).alloc _), Lib.hid (((Blk.new_at (by simp only [World.size_alloc])).alloc _).alloc _), Lib.hid ((Blk.new_at (by simp only [World.size_alloc])).alloc _), Lib.hid (Blk.new_at (by simp only [World.size_alloc]))⟩ ?_
  rintro W ⟨hB, HF, HZ, HX, HP⟩
  have hBs := hB.size
  have hl3 := HP.out.lt
  have hl0 : w.heap.size < W.heap.size := by omega
  have f0 : W.cell? ⟨w.heap.size, 0, none⟩ = some (.int .i64 ty) := HF.out.cell 0
  have f1 : W.cell? ⟨w.heap.size, 1, none⟩ = some (.int .i64 fl) := HF.out.cell 1
  have f2 : W.cell? ⟨w.heap.size, 2, none⟩ = some (.int .i64 st) := HF.out.cell 2
  have f3 : W.cell? ⟨w.heap.size, 3, none⟩ = some (.slice A n cap) := HF.out.cell 3
  have HRW := Lib.hid (HR.out.below hB (Nat.le_refl _))
  generalize hg : w.heap.size = g at *
  have HG := Lib.hid hg
  clear hg
  go_upto_region 35 with (first
    | (go_at_call 32; refine (rright_any ty fl st A n cap _).mono ?_; rintro e w1 ⟨rfl, hB1⟩; have hS1 := hB1.size; have HF1 := Lib.hid (HF.out.below hB1 (by omega)); have HP1 := Lib.hid (HP.out.below hB1 (by omega)); have HZ1 := Lib.hid (HZ.out.below hB1 (by omega)); have HX1 := Lib.hid (HX.out.below hB1 (by omega)); have f10 : w1.cell? ⟨g, 0, none⟩ = some (.int .i64 ty) := HF1.out.cell 0; have f11 : w1.cell? ⟨g, 1, none⟩ = some (.int .i64 fl) := HF1.out.cell 1; have f12 : w1.cell? ⟨g, 2, none⟩ = some (.int .i64 st) := HF1.out.cell 2; have f13 : w1.cell? ⟨g, 3, none⟩ = some (.slice A n cap) := HF1.out.cell 3; rw [HRG.out])
    | (go_at_call 35; refine (four_any _ L _ (HRW.out.below hB1 (Nat.le_refl _)) HY.out hl4).mono ?_; rintro e w2 ⟨rfl, hB2⟩; have hS2 := hB2.size; have HF2 := Lib.hid (HF1.out.below hB2 (by omega)); have HP2 := Lib.hid (HP1.out.below hB2 (by omega)); have HZ2 := Lib.hid (HZ1.out.below hB2 (by omega)); have HX2 := Lib.hid (HX1.out.below hB2 (by omega)); have f20 : w2.cell? ⟨g, 0, none⟩ = some (.int .i64 ty) := HF2.out.cell 0; have f21 : w2.cell? ⟨g, 1, none⟩ = some (.int .i64 fl) := HF2.out.cell 1; have f22 : w2.cell? ⟨g, 2, none⟩ = some (.int .i64 st) := HF2.out.cell 2; have f23 : w2.cell? ⟨g, 3, none⟩ = some (.slice A n cap) := HF2.out.cell 3; rw [HNX.out]; have c6 : w2.cell? ⟨g + 3, 8, none⟩ = some (.int .i64 0) := HP2.out.cell 8; have z6 : w2.frozen? ⟨g + 3, 8, none⟩ = false := HP2.out.frozen 8))
  have HP4 := Lib.hid (HP2.out.put 8 (.int .i64 x))
  have HZ4 := Lib.hid (HZ2.out.far (p := ⟨g + 3, 8, none⟩) (by simp) (.int .i64 x))
  have HX4 := Lib.hid (HX2.out.far (p := ⟨g + 3, 8, none⟩) (by simp) (.int .i64 x))
  have HF4 := Lib.hid (HF2.out.far (p := ⟨g + 3, 8, none⟩) (by simp) (.int .i64 x))
  have hB4 : Below g w (w2.setCell ⟨g + 3, 8, none⟩ (.int .i64 x)) := ((hB.trans (hB1.mono (by omega))).trans (hB2.mono (by omega))).setCell (by simp) _
  have hs4 : w2.heap.size ≤ (w2.setCell ⟨g + 3, 8, none⟩ (.int .i64 x)).heap.size := by simp only [World.size_setCell]; exact Nat.le_refl _
  refine wp_forget (fun V => Below g w V ∧ w2.heap.size ≤ V.heap.size ∧ Hid (Blk V g 32 (fC ty fl st (.slice A n cap))) ∧ Hid (Blk V (g + 3) 26 #[.int .i64 ty, .int .i64 st, .bool false, .bool false, .bool false, .slice none 0 0, .int .i64 0, .int .i64 0, .int .i64 x, .int .i64 0, .slice none 0 0]) ∧ Hid (Blk V (g + 1) 26 zP) ∧ Hid (Blk V (g + 2) 28 zB)) ⟨hB4, hs4, HF4, HP4, HZ4, HX4⟩ ?_
  clear HP4 HZ4 HX4 HF4 hB4 hs4
  rintro V ⟨hBe, hsV, HFe, HPe, HZe, HXe⟩
  have k8 : V.cell? ⟨g + 3, 8, none⟩ = some (.int .i64 x) := HPe.out.cell 8
  have k2 : V.cell? ⟨g, 2, none⟩ = some (.int .i64 st) := HFe.out.cell 2
  go_upto_region 41 with fail
  go_wp2_with (first
    | (refine wpList_load_row rfl 26 (.tmp 4) rfl (g + 3) rfl 26 _ _ _ HPe.out Try.underlying26 rfl (by kernel_rfl) ?_)
    | (refine wpList_store_row rfl 26 (.tmp 2) (.tmp 191) rfl (g + 1) rfl #[.int .i64 ty, .int .i64 st, .bool false, .bool false, .bool false, .slice none 0 0, .int .i64 0, .int .i64 0, .int .i64 x, .int .i64 0, .slice none 0 0] rfl 26 _ HZe.out rfl (by kernel_rfl) (by simp [Value.oneCell']) ?_; intro x1 hx1 gx1 sx1; have HXx := Lib.hid (HXe.out.grown gx1 (by simp)))
    | (refine wpList_store_row rfl 28 (.tmp 3) (.tmp 192) rfl (g + 2) rfl zB rfl 28 _ HXx.out rfl (by kernel_rfl) (by simp [Value.oneCell']) ?_; intro x2 hx2 gx2 sx2))
  have hgo := HG.out
  subst hgo
  refine bodyPost_ret (results_cc rfl _ (w.heap.size + 1) (w.heap.size + 2) 26 28 _ _ _ _ rfl (hx1.grown gx2 (by simp)) Try.underlying26 rfl (by kernel_rfl) rfl hx2 Try.underlying28 rfl (by kernel_rfl)) rfl ⟨⟨_, rfl, ⟨.slice none 0 0, .slice none 0 0, rfl, World.ownsRow_nil _ _ _ _, World.ownsRow_nil _ _ _ _⟩⟩, ((hBe.grown gx1 (by omega) (fun q hq => by cases hq; omega)).grown gx2 (by omega) (fun q hq => by cases hq; omega))⟩
set_option maxHeartbeats 4000000 in
set_option maxRecDepth 100000 in
theorem rs_ping_bad (ty fl st : Int) (A : Option Addr) (n cap : Nat) (L : List Int) (w : World) (hR : BS w (.slice A n cap) L) (hln : L.length = n) (hb : Byt L) (hn : n ≤ 1099511627776) (hrg : rightB ty fl st n = true) (h9 : ¬ 9 < ty) (e0 : (ty == 0) = false) (e1 : (ty == 1) = false) (e2 : (ty == 2) = false) (e3 : (ty == 3) = false) (e4 : (ty == 4) = false) (e5 : (ty == 5) = false) (e6 : (ty == 6) = true) (e7 : (ty == 7) = false) (e8 : (ty == 8) = false) (e9 : (ty == 9) = false) (n8 : (ty != 8) = true) (s0 : (st == 0) = true) (m0 : (st != 0) = false) (hlen : n ≠ 8) :
    Calls Try.prog 15 #[.agg (fC ty fl st (.slice A n cap))] w fun e w' => Ans w.heap.size (PP.zero, cB 6) e w' ∧ Below w.heap.size w w' := by
  have HR := Lib.hid hR
  have HL := Lib.hid hln
  have HY := Lib.hid hb
  clear hR hln hb
  have HRG := Lib.hid hrg
  clear hrg
  have hlk : ((n : Int) != 8) = true := by simp; omega
  clear hlen
  go_enter Try.func15, Try.ntmps15
  go_upto_region 2 with fail
  refine wp_forget (fun W => Below w.heap.size w W ∧ Hid (Blk W w.heap.size 32 (fC ty fl st (.slice A n cap))) ∧ Hid (Blk W (w.heap.size + 1) 26 zP) ∧ Hid (Blk W (w.heap.size + 2) 28 zB) ∧ Hid (Blk W (w.heap.size + 3) 26 (pB ty st)))
    ⟨by go_grown, Lib.hid ((((Blk.new _ _ _).alloc _).alloc _).alloc _), Lib.hid (((Blk.new_at (by simp only [World.size_alloc])).alloc _).alloc _), Lib.hid ((Blk.new_at (by simp only [World.size_alloc])).alloc _), Lib.hid (Blk.new_at (by simp only [World.size_alloc]))⟩ ?_
  rintro W ⟨hB, HF, HZ, HX, HP⟩
  have hBs := hB.size
  have hl3 := HP.out.lt
  have hl0 : w.heap.size < W.heap.size := by omega
  have f0 : W.cell? ⟨w.heap.size, 0, none⟩ = some (.int .i64 ty) := HF.out.cell 0
  have f1 : W.cell? ⟨w.heap.size, 1, none⟩ = some (.int .i64 fl) := HF.out.cell 1
  have f2 : W.cell? ⟨w.heap.size, 2, none⟩ = some (.int .i64 st) := HF.out.cell 2
  have f3 : W.cell? ⟨w.heap.size, 3, none⟩ = some (.slice A n cap) := HF.out.cell 3
  have HRW := Lib.hid (HR.out.below hB (Nat.le_refl _))
  generalize hg : w.heap.size = g at *
  have HG := Lib.hid hg
  clear hg
  go_wp2_with (first
    | (go_at_call 32; refine (rright_any ty fl st A n cap _).mono ?_; rintro e w1 ⟨rfl, hB1⟩; have hS1 := hB1.size; have HF1 := Lib.hid (HF.out.below hB1 (by omega)); have HP1 := Lib.hid (HP.out.below hB1 (by omega)); have HZ1 := Lib.hid (HZ.out.below hB1 (by omega)); have HX1 := Lib.hid (HX.out.below hB1 (by omega)); have f10 : w1.cell? ⟨g, 0, none⟩ = some (.int .i64 ty) := HF1.out.cell 0; have f11 : w1.cell? ⟨g, 1, none⟩ = some (.int .i64 fl) := HF1.out.cell 1; have f12 : w1.cell? ⟨g, 2, none⟩ = some (.int .i64 st) := HF1.out.cell 2; have f13 : w1.cell? ⟨g, 3, none⟩ = some (.slice A n cap) := HF1.out.cell 3; rw [HRG.out])
    | (go_at_call 33; refine (rbadc_any 6 _).mono ?_; rintro e w2 ⟨rfl, hB2⟩; have hS2 := hB2.size; have HF2 := Lib.hid (HF1.out.below hB2 (by omega)); have HP2 := Lib.hid (HP1.out.below hB2 (by omega)); have HZ2 := Lib.hid (HZ1.out.below hB2 (by omega)); have HX2 := Lib.hid (HX1.out.below hB2 (by omega)); have f20 : w2.cell? ⟨g, 0, none⟩ = some (.int .i64 ty) := HF2.out.cell 0; have f21 : w2.cell? ⟨g, 1, none⟩ = some (.int .i64 fl) := HF2.out.cell 1; have f22 : w2.cell? ⟨g, 2, none⟩ = some (.int .i64 st) := HF2.out.cell 2; have f23 : w2.cell? ⟨g, 3, none⟩ = some (.slice A n cap) := HF2.out.cell 3)
    | (refine wpList_store_row rfl 26 (.tmp 2) (.tmp 119) rfl (g + 1) rfl zP rfl 26 _ HZ2.out rfl (by kernel_rfl) (by simp [Value.oneCell']) ?_; intro x1 hx1 gx1 sx1; have HXx := Lib.hid (HX2.out.grown gx1 (by simp)))
    | (refine wpList_store_row rfl 28 (.tmp 3) (.tmp 120) rfl (g + 2) rfl #[.int .i64 2, .int .i64 (6), .int .i64 0] rfl 28 _ HXx.out rfl (by kernel_rfl) (by simp [Value.oneCell']) ?_; intro x2 hx2 gx2 sx2))
  have hgo := HG.out
  subst hgo
  refine bodyPost_ret (results_cc rfl _ (w.heap.size + 1) (w.heap.size + 2) 26 28 _ _ _ _ rfl (hx1.grown gx2 (by simp)) Try.underlying26 rfl (by kernel_rfl) rfl hx2 Try.underlying28 rfl (by kernel_rfl)) rfl ⟨⟨_, rfl, isP_zero _ _⟩, ((((hB.trans (hB1.mono (by omega))).trans (hB2.mono (by omega))).grown gx1 (by omega) (fun q hq => by cases hq; omega)).grown gx2 (by omega) (fun q hq => by cases hq; omega))⟩
set_option maxHeartbeats 4000000 in
set_option maxRecDepth 100000 in
theorem rs_away_bad (ty fl st : Int) (A : Option Addr) (n cap : Nat) (L : List Int) (w : World) (hR : BS w (.slice A n cap) L) (hln : L.length = n) (hb : Byt L) (hn : n ≤ 1099511627776) (hrg : rightB ty fl st n = true) (h9 : ¬ 9 < ty) (e0 : (ty == 0) = false) (e1 : (ty == 1) = false) (e2 : (ty == 2) = false) (e3 : (ty == 3) = false) (e4 : (ty == 4) = false) (e5 : (ty == 5) = false) (e6 : (ty == 6) = false) (e7 : (ty == 7) = true) (e8 : (ty == 8) = false) (e9 : (ty == 9) = false) (n8 : (ty != 8) = true) (s0 : (st == 0) = true) (m0 : (st != 0) = false) (hlen : n < 8) :
    Calls Try.prog 15 #[.agg (fC ty fl st (.slice A n cap))] w fun e w' => Ans w.heap.size (PP.zero, cB 6) e w' ∧ Below w.heap.size w w' := by
  have HR := Lib.hid hR
  have HL := Lib.hid hln
  have HY := Lib.hid hb
  clear hR hln hb
  have HRG := Lib.hid hrg
  clear hrg
  have hlk : (n : Int) < 8 := by omega
  go_enter Try.func15, Try.ntmps15
  go_upto_region 2 with fail
  refine wp_forget (fun W => Below w.heap.size w W ∧ Hid (Blk W w.heap.size 32 (fC ty fl st (.slice A n cap))) ∧ Hid (Blk W (w.heap.size + 1) 26 zP) ∧ Hid (Blk W (w.heap.size + 2) 28 zB) ∧ Hid (Blk W (w.heap.size + 3) 26 (pB ty st)))
    ⟨by go_grown, Lib.hid ((((Blk.new _ _ _).alloc _).alloc _).alloc _), Lib.hid (((Blk.new_at (by simp only [World.size_alloc])).alloc _).alloc _), Lib.hid ((Blk.new_at (by simp only [World.size_alloc])).alloc _), Lib.hid (Blk.new_at (by simp only [World.size_alloc]))⟩ ?_
  rintro W ⟨hB, HF, HZ, HX, HP⟩
  have hBs := hB.size
  have hl3 := HP.out.lt
  have hl0 : w.heap.size < W.heap.size := by omega
  have f0 : W.cell? ⟨w.heap.size, 0, none⟩ = some (.int .i64 ty) := HF.out.cell 0
  have f1 : W.cell? ⟨w.heap.size, 1, none⟩ = some (.int .i64 fl) := HF.out.cell 1
  have f2 : W.cell? ⟨w.heap.size, 2, none⟩ = some (.int .i64 st) := HF.out.cell 2
  have f3 : W.cell? ⟨w.heap.size, 3, none⟩ = some (.slice A n cap) := HF.out.cell 3
  have HRW := Lib.hid (HR.out.below hB (Nat.le_refl _))
  generalize hg : w.heap.size = g at *
  have HG := Lib.hid hg
  clear hg
  go_wp2_with (first
    | (go_at_call 32; refine (rright_any ty fl st A n cap _).mono ?_; rintro e w1 ⟨rfl, hB1⟩; have hS1 := hB1.size; have HF1 := Lib.hid (HF.out.below hB1 (by omega)); have HP1 := Lib.hid (HP.out.below hB1 (by omega)); have HZ1 := Lib.hid (HZ.out.below hB1 (by omega)); have HX1 := Lib.hid (HX.out.below hB1 (by omega)); have f10 : w1.cell? ⟨g, 0, none⟩ = some (.int .i64 ty) := HF1.out.cell 0; have f11 : w1.cell? ⟨g, 1, none⟩ = some (.int .i64 fl) := HF1.out.cell 1; have f12 : w1.cell? ⟨g, 2, none⟩ = some (.int .i64 st) := HF1.out.cell 2; have f13 : w1.cell? ⟨g, 3, none⟩ = some (.slice A n cap) := HF1.out.cell 3; rw [HRG.out])
    | (go_at_call 33; refine (rbadc_any 6 _).mono ?_; rintro e w2 ⟨rfl, hB2⟩; have hS2 := hB2.size; have HF2 := Lib.hid (HF1.out.below hB2 (by omega)); have HP2 := Lib.hid (HP1.out.below hB2 (by omega)); have HZ2 := Lib.hid (HZ1.out.below hB2 (by omega)); have HX2 := Lib.hid (HX1.out.below hB2 (by omega)); have f20 : w2.cell? ⟨g, 0, none⟩ = some (.int .i64 ty) := HF2.out.cell 0; have f21 : w2.cell? ⟨g, 1, none⟩ = some (.int .i64 fl) := HF2.out.cell 1; have f22 : w2.cell? ⟨g, 2, none⟩ = some (.int .i64 st) := HF2.out.cell 2; have f23 : w2.cell? ⟨g, 3, none⟩ = some (.slice A n cap) := HF2.out.cell 3)
    | (refine wpList_store_row rfl 26 (.tmp 2) (.tmp 136) rfl (g + 1) rfl zP rfl 26 _ HZ2.out rfl (by kernel_rfl) (by simp [Value.oneCell']) ?_; intro x1 hx1 gx1 sx1; have HXx := Lib.hid (HX2.out.grown gx1 (by simp)))
    | (refine wpList_store_row rfl 28 (.tmp 3) (.tmp 137) rfl (g + 2) rfl #[.int .i64 2, .int .i64 (6), .int .i64 0] rfl 28 _ HXx.out rfl (by kernel_rfl) (by simp [Value.oneCell']) ?_; intro x2 hx2 gx2 sx2))
  have hgo := HG.out
  subst hgo
  refine bodyPost_ret (results_cc rfl _ (w.heap.size + 1) (w.heap.size + 2) 26 28 _ _ _ _ rfl (hx1.grown gx2 (by simp)) Try.underlying26 rfl (by kernel_rfl) rfl hx2 Try.underlying28 rfl (by kernel_rfl)) rfl ⟨⟨_, rfl, isP_zero _ _⟩, ((((hB.trans (hB1.mono (by omega))).trans (hB2.mono (by omega))).grown gx1 (by omega) (fun q hq => by cases hq; omega)).grown gx2 (by omega) (fun q hq => by cases hq; omega))⟩
end Go.Proofs.Ytolpfbdklcjlkaa
