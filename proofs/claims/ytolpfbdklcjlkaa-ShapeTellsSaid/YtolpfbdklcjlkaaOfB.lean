/- Of: the rest of the types. -/
import Derived.Test.YtolpfbdklcjlkaaOf
namespace Go.Proofs.Ytolpfbdklcjlkaa
open Go.ChangeShapes Go.WideShapes Go.ChangeAt Go.RowKit
set_option linter.unusedVariables false
set_option linter.unusedSimpArgs false
set_option maxHeartbeats 4000000 in
set_option maxRecDepth 100000 in
theorem of_reset_bad (ty fl st : Int) (A : Option Addr) (n cap : Nat) (L : List Int) (w : World) (hR : BS w (.slice A n cap) L) (hln : L.length = n) (hb : Byt L) (hn : n ≤ 1099511627776) (hrg : rightB ty fl st n = true) (h9 : ¬ 9 < ty) (hmi : misB ty st = false) (e0 : (ty == 0) = false) (e1 : (ty == 1) = false) (e2 : (ty == 2) = false) (e3 : (ty == 3) = true) (hlen : n ≠ 4) :
    Calls Try.prog 10 #[.agg (fC ty fl st (.slice A n cap))] w fun e w' => Ans w.heap.size (PP.zero, cB 6) e w' ∧ Below w.heap.size w w' := by
  have HR := Lib.hid hR
  have HL := Lib.hid hln
  have HY := Lib.hid hb
  clear hR hln hb
  have HRG := Lib.hid hrg
  clear hrg
  have HMI := Lib.hid hmi
  clear hmi
  have hlk : ((n : Int) != 4) = true := by simp; omega
  have hLn : L.length = n := HL.out
  clear hLn hlen
  go_enter Try.func10, Try.ntmps10
  go_upto_region 2 with fail
  refine wp_forget (fun W => Below w.heap.size w W ∧ Hid (Blk W w.heap.size 32 (fC ty fl st (.slice A n cap))) ∧ Hid (Blk W (w.heap.size + 1) 26 zP) ∧ Hid (Blk W (w.heap.size + 2) 28 zB) ∧ Hid (Blk W (w.heap.size + 3) 26 (pB ty st)))
    ⟨by go_grown, Lib.hid ((((Blk.new _ _ _).alloc _).alloc _).alloc _), Lib.hid (((Blk.new_at (by simp only [World.size_alloc])).alloc _).alloc _), Lib.hid ((Blk.new_at (by simp only [World.size_alloc])).alloc _), Lib.hid (Blk.new_at (by simp only [World.size_alloc]))⟩ ?_
  rintro W ⟨hB, HF, HZ, HX, HP⟩
  have hBs := hB.size
  have hl3 := HP.out.lt
  have hl0 : w.heap.size < W.heap.size := by omega
  have f0 : W.cell? ⟨w.heap.size, 0, none⟩ = some (.int .i64 ty) := HF.out.cell 0
  have f1 : W.cell? ⟨w.heap.size, 1, none⟩ = some (.int .i64 fl) := HF.out.cell 1
  have f2 : W.cell? ⟨w.heap.size, 2, none⟩ = some (.int .i64 st) := HF.out.cell 2
  have f3 : W.cell? ⟨w.heap.size, 3, none⟩ = some (.slice A n cap) := HF.out.cell 3
  have HRW := Lib.hid (HR.out.below hB (Nat.le_refl _))
  generalize hg : w.heap.size = g at *
  have HG := Lib.hid hg
  clear hg
  go_wp2_with (first
    | (go_at_call 19; refine (right_any ty fl st A n cap _).mono ?_; rintro e w1 ⟨rfl, hB1⟩; have hS1 := hB1.size; have HF1 := Lib.hid (HF.out.below hB1 (by omega)); have HP1 := Lib.hid (HP.out.below hB1 (by omega)); have HZ1 := Lib.hid (HZ.out.below hB1 (by omega)); have HX1 := Lib.hid (HX.out.below hB1 (by omega)); have f10 : w1.cell? ⟨g, 0, none⟩ = some (.int .i64 ty) := HF1.out.cell 0; have f11 : w1.cell? ⟨g, 1, none⟩ = some (.int .i64 fl) := HF1.out.cell 1; have f12 : w1.cell? ⟨g, 2, none⟩ = some (.int .i64 st) := HF1.out.cell 2; have f13 : w1.cell? ⟨g, 3, none⟩ = some (.slice A n cap) := HF1.out.cell 3; rw [HRG.out])
    | (go_at_call 20; refine (mis_any ty fl st _ _).mono ?_; rintro e w2 ⟨rfl, hB2⟩; have hS2 := hB2.size; have HF2 := Lib.hid (HF1.out.below hB2 (by omega)); have HP2 := Lib.hid (HP1.out.below hB2 (by omega)); have HZ2 := Lib.hid (HZ1.out.below hB2 (by omega)); have HX2 := Lib.hid (HX1.out.below hB2 (by omega)); have f20 : w2.cell? ⟨g, 0, none⟩ = some (.int .i64 ty) := HF2.out.cell 0; have f21 : w2.cell? ⟨g, 1, none⟩ = some (.int .i64 fl) := HF2.out.cell 1; have f22 : w2.cell? ⟨g, 2, none⟩ = some (.int .i64 st) := HF2.out.cell 2; have f23 : w2.cell? ⟨g, 3, none⟩ = some (.slice A n cap) := HF2.out.cell 3; rw [HMI.out])
    | (go_at_call 21; refine (conn_any 6 _).mono ?_; rintro e w3 ⟨rfl, hB3⟩; have hS3 := hB3.size; have HF3 := Lib.hid (HF2.out.below hB3 (by omega)); have HP3 := Lib.hid (HP2.out.below hB3 (by omega)); have HZ3 := Lib.hid (HZ2.out.below hB3 (by omega)); have HX3 := Lib.hid (HX2.out.below hB3 (by omega)); have f30 : w3.cell? ⟨g, 0, none⟩ = some (.int .i64 ty) := HF3.out.cell 0; have f31 : w3.cell? ⟨g, 1, none⟩ = some (.int .i64 fl) := HF3.out.cell 1; have f32 : w3.cell? ⟨g, 2, none⟩ = some (.int .i64 st) := HF3.out.cell 2; have f33 : w3.cell? ⟨g, 3, none⟩ = some (.slice A n cap) := HF3.out.cell 3)
    | (refine wpList_store_row rfl 26 (.tmp 2) (.tmp 55) rfl (g + 1) rfl zP rfl 26 _ HZ3.out rfl (by kernel_rfl) (by simp [Value.oneCell']) ?_; intro x1 hx1 gx1 sx1; have HXx := Lib.hid (HX3.out.grown gx1 (by simp)))
    | (refine wpList_store_row rfl 28 (.tmp 3) (.tmp 56) rfl (g + 2) rfl #[.int .i64 2, .int .i64 (6), .int .i64 0] rfl 28 _ HXx.out rfl (by kernel_rfl) (by simp [Value.oneCell']) ?_; intro x2 hx2 gx2 sx2))
  have hgo := HG.out
  subst hgo
  refine bodyPost_ret (results_cc rfl _ (w.heap.size + 1) (w.heap.size + 2) 26 28 _ _ _ _ rfl (hx1.grown gx2 (by simp)) Try.underlying26 rfl (by kernel_rfl) rfl hx2 Try.underlying28 rfl (by kernel_rfl)) rfl ⟨⟨_, rfl, isP_zero _ _⟩, (((((hB.trans (hB1.mono (by omega))).trans (hB2.mono (by omega))).trans (hB3.mono (by omega))).grown gx1 (by omega) (fun q hq => by cases hq; omega)).grown gx2 (by omega) (fun q hq => by cases hq; omega))⟩
set_option maxHeartbeats 4000000 in
set_option maxRecDepth 100000 in
theorem of_reset (ty fl st : Int) (A : Option Addr) (n cap : Nat) (L : List Int) (w : World) (hR : BS w (.slice A n cap) L) (hln : L.length = n) (hb : Byt L) (hn : n ≤ 1099511627776) (hrg : rightB ty fl st n = true) (h9 : ¬ 9 < ty) (hmi : misB ty st = false) (e0 : (ty == 0) = false) (e1 : (ty == 1) = false) (e2 : (ty == 2) = false) (e3 : (ty == 3) = true) (hlen : n = 4) (x : Int) (hx : num L 0 = x) :
    Calls Try.prog 10 #[.agg (fC ty fl st (.slice A n cap))] w fun e w' => Ans w.heap.size ({ PP.base ty st with co := x }, okB) e w' ∧ Below w.heap.size w w' := by
  have HR := Lib.hid hR
  have HL := Lib.hid hln
  have HY := Lib.hid hb
  clear hR hln hb
  have HRG := Lib.hid hrg
  clear hrg
  have HMI := Lib.hid hmi
  clear hmi
  have hlk : ((n : Int) != 4) = false := by simp; omega
  have hLn : L.length = n := HL.out
  have hl4 : 4 ≤ L.length := by omega
  clear hLn hlen
  have HNX := Lib.hid hx
  clear hx
  go_enter Try.func10, Try.ntmps10
  go_upto_region 2 with fail
  refine wp_forget (fun W => Below w.heap.size w W ∧ Hid (Blk W w.heap.size 32 (fC ty fl st (.slice A n cap))) ∧ Hid (Blk W (w.heap.size + 1) 26 zP) ∧ Hid (Blk W (w.heap.size + 2) 28 zB) ∧ Hid (Blk W (w.heap.size + 3) 26 (pB ty st)))
    ⟨by go_grown, Lib.hid ((((Blk.new _ _ _).alloc _).alloc _).alloc _), Lib.hid (((Blk.new_at (by simp only [World.size_alloc])).alloc _).alloc _), Lib.hid ((Blk.new_at (by simp only [World.size_alloc])).alloc _), Lib.hid (Blk.new_at (by simp only [World.size_alloc]))⟩ ?_
  rintro W ⟨hB, HF, HZ, HX, HP⟩
  have hBs := hB.size
  have hl3 := HP.out.lt
  have hl0 : w.heap.size < W.heap.size := by omega
  have f0 : W.cell? ⟨w.heap.size, 0, none⟩ = some (.int .i64 ty) := HF.out.cell 0
  have f1 : W.cell? ⟨w.heap.size, 1, none⟩ = some (.int .i64 fl) := HF.out.cell 1
  have f2 : W.cell? ⟨w.heap.size, 2, none⟩ = some (.int .i64 st) := HF.out.cell 2
  have f3 : W.cell? ⟨w.heap.size, 3, none⟩ = some (.slice A n cap) := HF.out.cell 3
  have HRW := Lib.hid (HR.out.below hB (Nat.le_refl _))
  generalize hg : w.heap.size = g at *
  have HG := Lib.hid hg
  clear hg
  go_upto_region 32 with (first
    | (go_at_call 19; refine (right_any ty fl st A n cap _).mono ?_; rintro e w1 ⟨rfl, hB1⟩; have hS1 := hB1.size; have HF1 := Lib.hid (HF.out.below hB1 (by omega)); have HP1 := Lib.hid (HP.out.below hB1 (by omega)); have HZ1 := Lib.hid (HZ.out.below hB1 (by omega)); have HX1 := Lib.hid (HX.out.below hB1 (by omega)); have f10 : w1.cell? ⟨g, 0, none⟩ = some (.int .i64 ty) := HF1.out.cell 0; have f11 : w1.cell? ⟨g, 1, none⟩ = some (.int .i64 fl) := HF1.out.cell 1; have f12 : w1.cell? ⟨g, 2, none⟩ = some (.int .i64 st) := HF1.out.cell 2; have f13 : w1.cell? ⟨g, 3, none⟩ = some (.slice A n cap) := HF1.out.cell 3; rw [HRG.out])
    | (go_at_call 20; refine (mis_any ty fl st _ _).mono ?_; rintro e w2 ⟨rfl, hB2⟩; have hS2 := hB2.size; have HF2 := Lib.hid (HF1.out.below hB2 (by omega)); have HP2 := Lib.hid (HP1.out.below hB2 (by omega)); have HZ2 := Lib.hid (HZ1.out.below hB2 (by omega)); have HX2 := Lib.hid (HX1.out.below hB2 (by omega)); have f20 : w2.cell? ⟨g, 0, none⟩ = some (.int .i64 ty) := HF2.out.cell 0; have f21 : w2.cell? ⟨g, 1, none⟩ = some (.int .i64 fl) := HF2.out.cell 1; have f22 : w2.cell? ⟨g, 2, none⟩ = some (.int .i64 st) := HF2.out.cell 2; have f23 : w2.cell? ⟨g, 3, none⟩ = some (.slice A n cap) := HF2.out.cell 3; rw [HMI.out])
    | (go_at_call 25; refine (number_any _ L _ (HRW.out.below (hB1.trans (hB2.mono (by omega))) (Nat.le_refl _)) HY.out (by omega)).mono ?_; rintro e w3 ⟨rfl, hB3⟩; have hS3 := hB3.size; have HF3 := Lib.hid (HF2.out.below hB3 (by omega)); have HP3 := Lib.hid (HP2.out.below hB3 (by omega)); have HZ3 := Lib.hid (HZ2.out.below hB3 (by omega)); have HX3 := Lib.hid (HX2.out.below hB3 (by omega)); have f30 : w3.cell? ⟨g, 0, none⟩ = some (.int .i64 ty) := HF3.out.cell 0; have f31 : w3.cell? ⟨g, 1, none⟩ = some (.int .i64 fl) := HF3.out.cell 1; have f32 : w3.cell? ⟨g, 2, none⟩ = some (.int .i64 st) := HF3.out.cell 2; have f33 : w3.cell? ⟨g, 3, none⟩ = some (.slice A n cap) := HF3.out.cell 3; rw [HNX.out]; have c6 : w3.cell? ⟨g + 3, 6, none⟩ = some (.int .i64 0) := HP3.out.cell 6; have z6 : w3.frozen? ⟨g + 3, 6, none⟩ = false := HP3.out.frozen 6))
  have HP4 := Lib.hid (HP3.out.put 6 (.int .i64 x))
  have HZ4 := Lib.hid (HZ3.out.far (p := ⟨g + 3, 6, none⟩) (by simp) (.int .i64 x))
  have HX4 := Lib.hid (HX3.out.far (p := ⟨g + 3, 6, none⟩) (by simp) (.int .i64 x))
  have hB4 : Below g w (w3.setCell ⟨g + 3, 6, none⟩ (.int .i64 x)) := (((hB.trans (hB1.mono (by omega))).trans (hB2.mono (by omega))).trans (hB3.mono (by omega))).setCell (by simp) _
  have hs4 : w3.heap.size ≤ (w3.setCell ⟨g + 3, 6, none⟩ (.int .i64 x)).heap.size := by simp only [World.size_setCell]; exact Nat.le_refl _
  refine wp_forget (fun V => Below g w V ∧ w3.heap.size ≤ V.heap.size ∧ Hid (Blk V (g + 3) 26 #[.int .i64 ty, .int .i64 st, .bool false, .bool false, .bool false, .slice none 0 0, .int .i64 x, .int .i64 0, .int .i64 0, .int .i64 0, .slice none 0 0]) ∧ Hid (Blk V (g + 1) 26 zP) ∧ Hid (Blk V (g + 2) 28 zB)) ⟨hB4, hs4, HP4, HZ4, HX4⟩ ?_
  clear HP4 HZ4 HX4 hB4 hs4
  rintro V ⟨hBe, hsV, HPe, HZe, HXe⟩
  go_wp2_with (first
    | (refine wpList_load_row rfl 26 (.tmp 4) rfl (g + 3) rfl 26 _ _ _ HPe.out Try.underlying26 rfl (by kernel_rfl) ?_)
    | (refine wpList_store_row rfl 26 (.tmp 2) (.tmp 117) rfl (g + 1) rfl #[.int .i64 ty, .int .i64 st, .bool false, .bool false, .bool false, .slice none 0 0, .int .i64 x, .int .i64 0, .int .i64 0, .int .i64 0, .slice none 0 0] rfl 26 _ HZe.out rfl (by kernel_rfl) (by simp [Value.oneCell']) ?_; intro x1 hx1 gx1 sx1; have HXx := Lib.hid (HXe.out.grown gx1 (by simp)))
    | (refine wpList_store_row rfl 28 (.tmp 3) (.tmp 118) rfl (g + 2) rfl zB rfl 28 _ HXx.out rfl (by kernel_rfl) (by simp [Value.oneCell']) ?_; intro x2 hx2 gx2 sx2))
  have hgo := HG.out
  subst hgo
  refine bodyPost_ret (results_cc rfl _ (w.heap.size + 1) (w.heap.size + 2) 26 28 _ _ _ _ rfl (hx1.grown gx2 (by simp)) Try.underlying26 rfl (by kernel_rfl) rfl hx2 Try.underlying28 rfl (by kernel_rfl)) rfl ⟨⟨_, rfl, ⟨.slice none 0 0, .slice none 0 0, rfl, World.ownsRow_nil _ _ _ _, World.ownsRow_nil _ _ _ _⟩⟩, ((hBe.grown gx1 (by omega) (fun q hq => by cases hq; omega)).grown gx2 (by omega) (fun q hq => by cases hq; omega))⟩
set_option maxHeartbeats 4000000 in
set_option maxRecDepth 100000 in
theorem of_ping_bad (ty fl st : Int) (A : Option Addr) (n cap : Nat) (L : List Int) (w : World) (hR : BS w (.slice A n cap) L) (hln : L.length = n) (hb : Byt L) (hn : n ≤ 1099511627776) (hrg : rightB ty fl st n = true) (h9 : ¬ 9 < ty) (hmi : misB ty st = false) (e0 : (ty == 0) = false) (e1 : (ty == 1) = false) (e2 : (ty == 2) = false) (e3 : (ty == 3) = false) (e4 : (ty == 4) = false) (e6 : (ty == 6) = true) (hlen : n ≠ 8) :
    Calls Try.prog 10 #[.agg (fC ty fl st (.slice A n cap))] w fun e w' => Ans w.heap.size (PP.zero, cB 6) e w' ∧ Below w.heap.size w w' := by
  have HR := Lib.hid hR
  have HL := Lib.hid hln
  have HY := Lib.hid hb
  clear hR hln hb
  have HRG := Lib.hid hrg
  clear hrg
  have HMI := Lib.hid hmi
  clear hmi
  have hlk : ((n : Int) != 8) = true := by simp; omega
  have hLn : L.length = n := HL.out
  clear hLn hlen
  go_enter Try.func10, Try.ntmps10
  go_upto_region 2 with fail
  refine wp_forget (fun W => Below w.heap.size w W ∧ Hid (Blk W w.heap.size 32 (fC ty fl st (.slice A n cap))) ∧ Hid (Blk W (w.heap.size + 1) 26 zP) ∧ Hid (Blk W (w.heap.size + 2) 28 zB) ∧ Hid (Blk W (w.heap.size + 3) 26 (pB ty st)))
    ⟨by go_grown, Lib.hid ((((Blk.new _ _ _).alloc _).alloc _).alloc _), Lib.hid (((Blk.new_at (by simp only [World.size_alloc])).alloc _).alloc _), Lib.hid ((Blk.new_at (by simp only [World.size_alloc])).alloc _), Lib.hid (Blk.new_at (by simp only [World.size_alloc]))⟩ ?_
  rintro W ⟨hB, HF, HZ, HX, HP⟩
  have hBs := hB.size
  have hl3 := HP.out.lt
  have hl0 : w.heap.size < W.heap.size := by omega
  have f0 : W.cell? ⟨w.heap.size, 0, none⟩ = some (.int .i64 ty) := HF.out.cell 0
  have f1 : W.cell? ⟨w.heap.size, 1, none⟩ = some (.int .i64 fl) := HF.out.cell 1
  have f2 : W.cell? ⟨w.heap.size, 2, none⟩ = some (.int .i64 st) := HF.out.cell 2
  have f3 : W.cell? ⟨w.heap.size, 3, none⟩ = some (.slice A n cap) := HF.out.cell 3
  have HRW := Lib.hid (HR.out.below hB (Nat.le_refl _))
  generalize hg : w.heap.size = g at *
  have HG := Lib.hid hg
  clear hg
  go_wp2_with (first
    | (go_at_call 19; refine (right_any ty fl st A n cap _).mono ?_; rintro e w1 ⟨rfl, hB1⟩; have hS1 := hB1.size; have HF1 := Lib.hid (HF.out.below hB1 (by omega)); have HP1 := Lib.hid (HP.out.below hB1 (by omega)); have HZ1 := Lib.hid (HZ.out.below hB1 (by omega)); have HX1 := Lib.hid (HX.out.below hB1 (by omega)); have f10 : w1.cell? ⟨g, 0, none⟩ = some (.int .i64 ty) := HF1.out.cell 0; have f11 : w1.cell? ⟨g, 1, none⟩ = some (.int .i64 fl) := HF1.out.cell 1; have f12 : w1.cell? ⟨g, 2, none⟩ = some (.int .i64 st) := HF1.out.cell 2; have f13 : w1.cell? ⟨g, 3, none⟩ = some (.slice A n cap) := HF1.out.cell 3; rw [HRG.out])
    | (go_at_call 20; refine (mis_any ty fl st _ _).mono ?_; rintro e w2 ⟨rfl, hB2⟩; have hS2 := hB2.size; have HF2 := Lib.hid (HF1.out.below hB2 (by omega)); have HP2 := Lib.hid (HP1.out.below hB2 (by omega)); have HZ2 := Lib.hid (HZ1.out.below hB2 (by omega)); have HX2 := Lib.hid (HX1.out.below hB2 (by omega)); have f20 : w2.cell? ⟨g, 0, none⟩ = some (.int .i64 ty) := HF2.out.cell 0; have f21 : w2.cell? ⟨g, 1, none⟩ = some (.int .i64 fl) := HF2.out.cell 1; have f22 : w2.cell? ⟨g, 2, none⟩ = some (.int .i64 st) := HF2.out.cell 2; have f23 : w2.cell? ⟨g, 3, none⟩ = some (.slice A n cap) := HF2.out.cell 3; rw [HMI.out])
    | (go_at_call 21; refine (conn_any 6 _).mono ?_; rintro e w3 ⟨rfl, hB3⟩; have hS3 := hB3.size; have HF3 := Lib.hid (HF2.out.below hB3 (by omega)); have HP3 := Lib.hid (HP2.out.below hB3 (by omega)); have HZ3 := Lib.hid (HZ2.out.below hB3 (by omega)); have HX3 := Lib.hid (HX2.out.below hB3 (by omega)); have f30 : w3.cell? ⟨g, 0, none⟩ = some (.int .i64 ty) := HF3.out.cell 0; have f31 : w3.cell? ⟨g, 1, none⟩ = some (.int .i64 fl) := HF3.out.cell 1; have f32 : w3.cell? ⟨g, 2, none⟩ = some (.int .i64 st) := HF3.out.cell 2; have f33 : w3.cell? ⟨g, 3, none⟩ = some (.slice A n cap) := HF3.out.cell 3)
    | (refine wpList_store_row rfl 26 (.tmp 2) (.tmp 72) rfl (g + 1) rfl zP rfl 26 _ HZ3.out rfl (by kernel_rfl) (by simp [Value.oneCell']) ?_; intro x1 hx1 gx1 sx1; have HXx := Lib.hid (HX3.out.grown gx1 (by simp)))
    | (refine wpList_store_row rfl 28 (.tmp 3) (.tmp 73) rfl (g + 2) rfl #[.int .i64 2, .int .i64 (6), .int .i64 0] rfl 28 _ HXx.out rfl (by kernel_rfl) (by simp [Value.oneCell']) ?_; intro x2 hx2 gx2 sx2))
  have hgo := HG.out
  subst hgo
  refine bodyPost_ret (results_cc rfl _ (w.heap.size + 1) (w.heap.size + 2) 26 28 _ _ _ _ rfl (hx1.grown gx2 (by simp)) Try.underlying26 rfl (by kernel_rfl) rfl hx2 Try.underlying28 rfl (by kernel_rfl)) rfl ⟨⟨_, rfl, isP_zero _ _⟩, (((((hB.trans (hB1.mono (by omega))).trans (hB2.mono (by omega))).trans (hB3.mono (by omega))).grown gx1 (by omega) (fun q hq => by cases hq; omega)).grown gx2 (by omega) (fun q hq => by cases hq; omega))⟩
set_option maxHeartbeats 4000000 in
set_option maxRecDepth 100000 in
theorem of_ping (ty fl st : Int) (A : Option Addr) (n cap : Nat) (L : List Int) (w : World) (hR : BS w (.slice A n cap) L) (hln : L.length = n) (hb : Byt L) (hn : n ≤ 1099511627776) (hrg : rightB ty fl st n = true) (h9 : ¬ 9 < ty) (hmi : misB ty st = false) (e0 : (ty == 0) = false) (e1 : (ty == 1) = false) (e2 : (ty == 2) = false) (e3 : (ty == 3) = false) (e4 : (ty == 4) = false) (e6 : (ty == 6) = true) (hlen : n = 8) (b' : List Int) (hb' : L = b')  :
    Calls Try.prog 10 #[.agg (fC ty fl st (.slice A n cap))] w fun e w' => Ans w.heap.size ({ PP.base ty st with k := flag fl 1, body := b' }, okB) e w' ∧ Below w.heap.size w w' := by
  have HR := Lib.hid hR
  have HL := Lib.hid hln
  have HY := Lib.hid hb
  clear hR hln hb
  have HRG := Lib.hid hrg
  clear hrg
  have HMI := Lib.hid hmi
  clear hmi
  have hlt2 : b'.length ≤ 1099511627776 := by rw [← hb', HL.out]; exact hn
  have HB' := Lib.hid hb'
  clear hb'
  have hlk : ((n : Int) != 8) = false := by simp; omega
  have hLn : L.length = n := HL.out
  have hl4 : 8 ≤ L.length := by omega
  clear hLn hlen
  go_enter Try.func10, Try.ntmps10
  go_upto_region 2 with fail
  refine wp_forget (fun W => Below w.heap.size w W ∧ Hid (Blk W w.heap.size 32 (fC ty fl st (.slice A n cap))) ∧ Hid (Blk W (w.heap.size + 1) 26 zP) ∧ Hid (Blk W (w.heap.size + 2) 28 zB) ∧ Hid (Blk W (w.heap.size + 3) 26 (pB ty st)))
    ⟨by go_grown, Lib.hid ((((Blk.new _ _ _).alloc _).alloc _).alloc _), Lib.hid (((Blk.new_at (by simp only [World.size_alloc])).alloc _).alloc _), Lib.hid ((Blk.new_at (by simp only [World.size_alloc])).alloc _), Lib.hid (Blk.new_at (by simp only [World.size_alloc]))⟩ ?_
  rintro W ⟨hB, HF, HZ, HX, HP⟩
  have hBs := hB.size
  have hl3 := HP.out.lt
  have hl0 : w.heap.size < W.heap.size := by omega
  have f0 : W.cell? ⟨w.heap.size, 0, none⟩ = some (.int .i64 ty) := HF.out.cell 0
  have f1 : W.cell? ⟨w.heap.size, 1, none⟩ = some (.int .i64 fl) := HF.out.cell 1
  have f2 : W.cell? ⟨w.heap.size, 2, none⟩ = some (.int .i64 st) := HF.out.cell 2
  have f3 : W.cell? ⟨w.heap.size, 3, none⟩ = some (.slice A n cap) := HF.out.cell 3
  have HRW := Lib.hid (HR.out.below hB (Nat.le_refl _))
  generalize hg : w.heap.size = g at *
  have HG := Lib.hid hg
  clear hg
  go_upto_region 23 with (first
    | (go_at_call 19; refine (right_any ty fl st A n cap _).mono ?_; rintro e w1 ⟨rfl, hB1⟩; have hS1 := hB1.size; have HF1 := Lib.hid (HF.out.below hB1 (by omega)); have HP1 := Lib.hid (HP.out.below hB1 (by omega)); have HZ1 := Lib.hid (HZ.out.below hB1 (by omega)); have HX1 := Lib.hid (HX.out.below hB1 (by omega)); have f10 : w1.cell? ⟨g, 0, none⟩ = some (.int .i64 ty) := HF1.out.cell 0; have f11 : w1.cell? ⟨g, 1, none⟩ = some (.int .i64 fl) := HF1.out.cell 1; have f12 : w1.cell? ⟨g, 2, none⟩ = some (.int .i64 st) := HF1.out.cell 2; have f13 : w1.cell? ⟨g, 3, none⟩ = some (.slice A n cap) := HF1.out.cell 3; rw [HRG.out])
    | (go_at_call 20; refine (mis_any ty fl st _ _).mono ?_; rintro e w2 ⟨rfl, hB2⟩; have hS2 := hB2.size; have HF2 := Lib.hid (HF1.out.below hB2 (by omega)); have HP2 := Lib.hid (HP1.out.below hB2 (by omega)); have HZ2 := Lib.hid (HZ1.out.below hB2 (by omega)); have HX2 := Lib.hid (HX1.out.below hB2 (by omega)); have f20 : w2.cell? ⟨g, 0, none⟩ = some (.int .i64 ty) := HF2.out.cell 0; have f21 : w2.cell? ⟨g, 1, none⟩ = some (.int .i64 fl) := HF2.out.cell 1; have f22 : w2.cell? ⟨g, 2, none⟩ = some (.int .i64 st) := HF2.out.cell 2; have f23 : w2.cell? ⟨g, 3, none⟩ = some (.slice A n cap) := HF2.out.cell 3; rw [HMI.out]))
  have hsl : BS w2 (.slice A n cap) b' := by have h := HRW.out.below (hB1.trans (hB2.mono (by omega))) (Nat.le_refl _); rw [HB'.out] at h; exact h
  have HSL := Lib.hid hsl
  clear hsl
  have c4' : w2.frozen? ⟨g + 3, 4, none⟩ = false := HP2.out.frozen 4
  have c4 : w2.cell? ⟨g + 3, 4, none⟩ = some (.bool false) := HP2.out.cell 4
  have c5' : w2.frozen? ⟨g + 3, 5, none⟩ = false := HP2.out.frozen 5
  have c5 : w2.cell? ⟨g + 3, 5, none⟩ = some (.slice none 0 0) := HP2.out.cell 5
  have q0 : g < w2.heap.size := by omega
  have q1 : g + 3 < w2.heap.size := by omega
  go_region_held3 (fun wx => wx.cell? ⟨g, 1, none⟩ = some (.int .i64 fl)) (first | assumption | go_simp) ((go_at_call 27; refine (copied_any _ _ _ (HSL.out.below (by go_grown) (Nat.le_refl _)) hlt2).mono ?_; rintro e we2 ⟨⟨vc, rfl, hown⟩, hD2⟩; obtain ⟨Ac, cc, rfl⟩ := own_form hown; obtain ⟨d2, e2⟩ := bcell (show Below w2.heap.size w2 we2 from Below.trans (by go_grown) hD2); have k1 : we2.cell? ⟨g, 1, none⟩ = some (.int .i64 fl) := (d2 g 1 q0).trans f21; have c4'' : we2.cell? ⟨g + 3, 4, none⟩ = some (.bool false) := (d2 _ 4 q1).trans c4; have z4'' : we2.frozen? ⟨g + 3, 4, none⟩ = false := (e2 _ 4 q1).trans c4'; have c5'' : we2.cell? ⟨g + 3, 5, none⟩ = some (.slice none 0 0) := (d2 _ 5 q1).trans c5; have z5'' : we2.frozen? ⟨g + 3, 5, none⟩ = false := (e2 _ 5 q1).trans c5'))
  all_goals
    have hB2' : Below w2.heap.size w2 we2 := Below.trans (by go_grown) hD2
    have HPe := Lib.hid (((HP2.out.below hB2' q1).put 4 (.bool (flag fl 1))).put 5 (.slice Ac b'.length cc))
    have HZe := Lib.hid (((HZ2.out.below hB2' (by omega)).far (p := ⟨g + 3, 4, none⟩) (by simp) (.bool (flag fl 1))).far (p := ⟨g + 3, 5, none⟩) (by simp) (.slice Ac b'.length cc))
    have HXe := Lib.hid (((HX2.out.below hB2' (by omega)).far (p := ⟨g + 3, 4, none⟩) (by simp) (.bool (flag fl 1))).far (p := ⟨g + 3, 5, none⟩) (by simp) (.slice Ac b'.length cc))
    have hown' : we2.ownsRow w2.heap.size 5 1 (.slice Ac b'.length cc) b'.length (bv b') := hown
    have HOe := Lib.hid (ownsRow_setCell_below (ownsRow_setCell_below hown' (a := ⟨g + 3, 4, none⟩) q1 (.bool (flag fl 1))) (a := ⟨g + 3, 5, none⟩) q1 (.slice Ac b'.length cc))
    have hBe : Below g w ((we2.setCell ⟨g + 3, 4, none⟩ (.bool (flag fl 1))).setCell ⟨g + 3, 5, none⟩ (.slice Ac b'.length cc)) := (((((hB.trans (hB1.mono (by omega))).trans (hB2.mono (by omega))).trans (hB2'.mono (by omega))).setCell (by simp) (.bool (flag fl 1))).setCell (by simp) (.slice Ac b'.length cc))
    change Exit.inBlock _ _ _ _ ((we2.setCell ⟨g + 3, 4, none⟩ (.bool (flag fl 1))).setCell ⟨g + 3, 5, none⟩ (.slice Ac b'.length cc))
    have hse : w2.heap.size ≤ ((we2.setCell ⟨g + 3, 4, none⟩ (.bool (flag fl 1))).setCell ⟨g + 3, 5, none⟩ (.slice Ac b'.length cc)).heap.size := by simp only [World.size_setCell]; exact hB2'.size
    clear hB1 hB2 hown hown' hD2 hB2' d2 e2
    generalize ((we2.setCell ⟨g + 3, 4, none⟩ (.bool (flag fl 1))).setCell ⟨g + 3, 5, none⟩ (.slice Ac b'.length cc)) = we at *
    go_wp2_with (first
      | (refine wpList_load_row rfl 26 (.tmp 4) rfl (g + 3) rfl 26 _ _ _ HPe.out Try.underlying26 rfl (by kernel_rfl) ?_)
      | (refine wpList_store_row rfl 26 (.tmp 2) (.tmp 117) rfl (g + 1) rfl #[.int .i64 ty, .int .i64 st, .bool false, .bool false, .bool (flag fl 1), .slice Ac b'.length cc, .int .i64 0, .int .i64 0, .int .i64 0, .int .i64 0, .slice none 0 0] rfl 26 _ HZe.out rfl (by kernel_rfl) (by simp [Value.oneCell']) ?_; intro x1 hx1 gx1 sx1; have HXx := Lib.hid (HXe.out.grown gx1 (by simp)))
      | (refine wpList_store_row rfl 28 (.tmp 3) (.tmp 118) rfl (g + 2) rfl zB rfl 28 _ HXx.out rfl (by kernel_rfl) (by simp [Value.oneCell']) ?_; intro x2 hx2 gx2 sx2))
    have hgo := HG.out
    subst hgo
    refine bodyPost_ret (results_cc rfl _ (w.heap.size + 1) (w.heap.size + 2) 26 28 _ _ _ _ rfl (hx1.grown gx2 (by simp)) Try.underlying26 rfl (by kernel_rfl) rfl hx2 Try.underlying28 rfl (by kernel_rfl)) rfl ⟨⟨_, rfl, ⟨.slice Ac b'.length cc, .slice none 0 0, rfl, (own_grown (own_grown HOe.out gx1 (by omega)) gx2 (by omega)).mono (by omega), World.ownsRow_nil _ _ _ _⟩⟩, ((hBe.grown gx1 (by omega) (fun q hq => by cases hq; omega)).grown gx2 (by omega) (fun q hq => by cases hq; omega))⟩
set_option maxHeartbeats 4000000 in
set_option maxRecDepth 100000 in
theorem of_cont (ty fl st : Int) (A : Option Addr) (n cap : Nat) (L : List Int) (w : World) (hR : BS w (.slice A n cap) L) (hln : L.length = n) (hb : Byt L) (hn : n ≤ 1099511627776) (hrg : rightB ty fl st n = true) (h9 : ¬ 9 < ty) (hmi : misB ty st = false) (e0 : (ty == 0) = false) (e1 : (ty == 1) = false) (e2 : (ty == 2) = false) (e3 : (ty == 3) = false) (e4 : (ty == 4) = false) (e6 : (ty == 6) = false) (e7 : (ty == 7) = false) (e8 : (ty == 8) = false) (e9 : (ty == 9) = true) (b' : List Int) (hb' : L = b')  :
    Calls Try.prog 10 #[.agg (fC ty fl st (.slice A n cap))] w fun e w' => Ans w.heap.size ({ PP.base ty st with f := flag fl 4, body := b' }, okB) e w' ∧ Below w.heap.size w w' := by
  have HR := Lib.hid hR
  have HL := Lib.hid hln
  have HY := Lib.hid hb
  clear hR hln hb
  have HRG := Lib.hid hrg
  clear hrg
  have HMI := Lib.hid hmi
  clear hmi
  have hlt2 : b'.length ≤ 1099511627776 := by rw [← hb', HL.out]; exact hn
  have HB' := Lib.hid hb'
  clear hb'
  go_enter Try.func10, Try.ntmps10
  go_upto_region 2 with fail
  refine wp_forget (fun W => Below w.heap.size w W ∧ Hid (Blk W w.heap.size 32 (fC ty fl st (.slice A n cap))) ∧ Hid (Blk W (w.heap.size + 1) 26 zP) ∧ Hid (Blk W (w.heap.size + 2) 28 zB) ∧ Hid (Blk W (w.heap.size + 3) 26 (pB ty st)))
    ⟨by go_grown, Lib.hid ((((Blk.new _ _ _).alloc _).alloc _).alloc _), Lib.hid (((Blk.new_at (by simp only [World.size_alloc])).alloc _).alloc _), Lib.hid ((Blk.new_at (by simp only [World.size_alloc])).alloc _), Lib.hid (Blk.new_at (by simp only [World.size_alloc]))⟩ ?_
  rintro W ⟨hB, HF, HZ, HX, HP⟩
  have hBs := hB.size
  have hl3 := HP.out.lt
  have hl0 : w.heap.size < W.heap.size := by omega
  have f0 : W.cell? ⟨w.heap.size, 0, none⟩ = some (.int .i64 ty) := HF.out.cell 0
  have f1 : W.cell? ⟨w.heap.size, 1, none⟩ = some (.int .i64 fl) := HF.out.cell 1
  have f2 : W.cell? ⟨w.heap.size, 2, none⟩ = some (.int .i64 st) := HF.out.cell 2
  have f3 : W.cell? ⟨w.heap.size, 3, none⟩ = some (.slice A n cap) := HF.out.cell 3
  have HRW := Lib.hid (HR.out.below hB (Nat.le_refl _))
  generalize hg : w.heap.size = g at *
  have HG := Lib.hid hg
  clear hg
  go_upto_region 31 with (first
    | (go_at_call 19; refine (right_any ty fl st A n cap _).mono ?_; rintro e w1 ⟨rfl, hB1⟩; have hS1 := hB1.size; have HF1 := Lib.hid (HF.out.below hB1 (by omega)); have HP1 := Lib.hid (HP.out.below hB1 (by omega)); have HZ1 := Lib.hid (HZ.out.below hB1 (by omega)); have HX1 := Lib.hid (HX.out.below hB1 (by omega)); have f10 : w1.cell? ⟨g, 0, none⟩ = some (.int .i64 ty) := HF1.out.cell 0; have f11 : w1.cell? ⟨g, 1, none⟩ = some (.int .i64 fl) := HF1.out.cell 1; have f12 : w1.cell? ⟨g, 2, none⟩ = some (.int .i64 st) := HF1.out.cell 2; have f13 : w1.cell? ⟨g, 3, none⟩ = some (.slice A n cap) := HF1.out.cell 3; rw [HRG.out])
    | (go_at_call 20; refine (mis_any ty fl st _ _).mono ?_; rintro e w2 ⟨rfl, hB2⟩; have hS2 := hB2.size; have HF2 := Lib.hid (HF1.out.below hB2 (by omega)); have HP2 := Lib.hid (HP1.out.below hB2 (by omega)); have HZ2 := Lib.hid (HZ1.out.below hB2 (by omega)); have HX2 := Lib.hid (HX1.out.below hB2 (by omega)); have f20 : w2.cell? ⟨g, 0, none⟩ = some (.int .i64 ty) := HF2.out.cell 0; have f21 : w2.cell? ⟨g, 1, none⟩ = some (.int .i64 fl) := HF2.out.cell 1; have f22 : w2.cell? ⟨g, 2, none⟩ = some (.int .i64 st) := HF2.out.cell 2; have f23 : w2.cell? ⟨g, 3, none⟩ = some (.slice A n cap) := HF2.out.cell 3; rw [HMI.out]))
  have hsl : BS w2 (.slice A n cap) b' := by have h := HRW.out.below (hB1.trans (hB2.mono (by omega))) (Nat.le_refl _); rw [HB'.out] at h; exact h
  have HSL := Lib.hid hsl
  clear hsl
  have c3' : w2.frozen? ⟨g + 3, 3, none⟩ = false := HP2.out.frozen 3
  have c3 : w2.cell? ⟨g + 3, 3, none⟩ = some (.bool false) := HP2.out.cell 3
  have c5' : w2.frozen? ⟨g + 3, 5, none⟩ = false := HP2.out.frozen 5
  have c5 : w2.cell? ⟨g + 3, 5, none⟩ = some (.slice none 0 0) := HP2.out.cell 5
  have q0 : g < w2.heap.size := by omega
  have q1 : g + 3 < w2.heap.size := by omega
  go_region_held3 (fun wx => wx.cell? ⟨g, 1, none⟩ = some (.int .i64 fl)) (first | assumption | go_simp) ((go_at_call 27; refine (copied_any _ _ _ (HSL.out.below (by go_grown) (Nat.le_refl _)) hlt2).mono ?_; rintro e we2 ⟨⟨vc, rfl, hown⟩, hD2⟩; obtain ⟨Ac, cc, rfl⟩ := own_form hown; obtain ⟨d2, e2⟩ := bcell (show Below w2.heap.size w2 we2 from Below.trans (by go_grown) hD2); have k1 : we2.cell? ⟨g, 1, none⟩ = some (.int .i64 fl) := (d2 g 1 q0).trans f21; have c3'' : we2.cell? ⟨g + 3, 3, none⟩ = some (.bool false) := (d2 _ 3 q1).trans c3; have z3'' : we2.frozen? ⟨g + 3, 3, none⟩ = false := (e2 _ 3 q1).trans c3'; have c5'' : we2.cell? ⟨g + 3, 5, none⟩ = some (.slice none 0 0) := (d2 _ 5 q1).trans c5; have z5'' : we2.frozen? ⟨g + 3, 5, none⟩ = false := (e2 _ 5 q1).trans c5'))
  all_goals
    have hB2' : Below w2.heap.size w2 we2 := Below.trans (by go_grown) hD2
    have HPe := Lib.hid (((HP2.out.below hB2' q1).put 3 (.bool (flag fl 4))).put 5 (.slice Ac b'.length cc))
    have HZe := Lib.hid (((HZ2.out.below hB2' (by omega)).far (p := ⟨g + 3, 3, none⟩) (by simp) (.bool (flag fl 4))).far (p := ⟨g + 3, 5, none⟩) (by simp) (.slice Ac b'.length cc))
    have HXe := Lib.hid (((HX2.out.below hB2' (by omega)).far (p := ⟨g + 3, 3, none⟩) (by simp) (.bool (flag fl 4))).far (p := ⟨g + 3, 5, none⟩) (by simp) (.slice Ac b'.length cc))
    have hown' : we2.ownsRow w2.heap.size 5 1 (.slice Ac b'.length cc) b'.length (bv b') := hown
    have HOe := Lib.hid (ownsRow_setCell_below (ownsRow_setCell_below hown' (a := ⟨g + 3, 3, none⟩) q1 (.bool (flag fl 4))) (a := ⟨g + 3, 5, none⟩) q1 (.slice Ac b'.length cc))
    have hBe : Below g w ((we2.setCell ⟨g + 3, 3, none⟩ (.bool (flag fl 4))).setCell ⟨g + 3, 5, none⟩ (.slice Ac b'.length cc)) := (((((hB.trans (hB1.mono (by omega))).trans (hB2.mono (by omega))).trans (hB2'.mono (by omega))).setCell (by simp) (.bool (flag fl 4))).setCell (by simp) (.slice Ac b'.length cc))
    change Exit.inBlock _ _ _ _ ((we2.setCell ⟨g + 3, 3, none⟩ (.bool (flag fl 4))).setCell ⟨g + 3, 5, none⟩ (.slice Ac b'.length cc))
    have hse : w2.heap.size ≤ ((we2.setCell ⟨g + 3, 3, none⟩ (.bool (flag fl 4))).setCell ⟨g + 3, 5, none⟩ (.slice Ac b'.length cc)).heap.size := by simp only [World.size_setCell]; exact hB2'.size
    clear hB1 hB2 hown hown' hD2 hB2' d2 e2
    generalize ((we2.setCell ⟨g + 3, 3, none⟩ (.bool (flag fl 4))).setCell ⟨g + 3, 5, none⟩ (.slice Ac b'.length cc)) = we at *
    go_wp2_with (first
      | (refine wpList_load_row rfl 26 (.tmp 4) rfl (g + 3) rfl 26 _ _ _ HPe.out Try.underlying26 rfl (by kernel_rfl) ?_)
      | (refine wpList_store_row rfl 26 (.tmp 2) (.tmp 117) rfl (g + 1) rfl #[.int .i64 ty, .int .i64 st, .bool false, .bool (flag fl 4), .bool false, .slice Ac b'.length cc, .int .i64 0, .int .i64 0, .int .i64 0, .int .i64 0, .slice none 0 0] rfl 26 _ HZe.out rfl (by kernel_rfl) (by simp [Value.oneCell']) ?_; intro x1 hx1 gx1 sx1; have HXx := Lib.hid (HXe.out.grown gx1 (by simp)))
      | (refine wpList_store_row rfl 28 (.tmp 3) (.tmp 118) rfl (g + 2) rfl zB rfl 28 _ HXx.out rfl (by kernel_rfl) (by simp [Value.oneCell']) ?_; intro x2 hx2 gx2 sx2))
    have hgo := HG.out
    subst hgo
    refine bodyPost_ret (results_cc rfl _ (w.heap.size + 1) (w.heap.size + 2) 26 28 _ _ _ _ rfl (hx1.grown gx2 (by simp)) Try.underlying26 rfl (by kernel_rfl) rfl hx2 Try.underlying28 rfl (by kernel_rfl)) rfl ⟨⟨_, rfl, ⟨.slice Ac b'.length cc, .slice none 0 0, rfl, (own_grown (own_grown HOe.out gx1 (by omega)) gx2 (by omega)).mono (by omega), World.ownsRow_nil _ _ _ _⟩⟩, ((hBe.grown gx1 (by omega) (fun q hq => by cases hq; omega)).grown gx2 (by omega) (fun q hq => by cases hq; omega))⟩
set_option maxHeartbeats 4000000 in
set_option maxRecDepth 100000 in
theorem of_away_bad (ty fl st : Int) (A : Option Addr) (n cap : Nat) (L : List Int) (w : World) (hR : BS w (.slice A n cap) L) (hln : L.length = n) (hb : Byt L) (hn : n ≤ 1099511627776) (hrg : rightB ty fl st n = true) (h9 : ¬ 9 < ty) (hmi : misB ty st = false) (e0 : (ty == 0) = false) (e1 : (ty == 1) = false) (e2 : (ty == 2) = false) (e3 : (ty == 3) = false) (e4 : (ty == 4) = false) (e6 : (ty == 6) = false) (e7 : (ty == 7) = true) (hlen : n < 8) :
    Calls Try.prog 10 #[.agg (fC ty fl st (.slice A n cap))] w fun e w' => Ans w.heap.size (PP.zero, cB 6) e w' ∧ Below w.heap.size w w' := by
  have HR := Lib.hid hR
  have HL := Lib.hid hln
  have HY := Lib.hid hb
  clear hR hln hb
  have HRG := Lib.hid hrg
  clear hrg
  have HMI := Lib.hid hmi
  clear hmi
  have hlk : (n : Int) < 8 := by omega
  go_enter Try.func10, Try.ntmps10
  go_upto_region 2 with fail
  refine wp_forget (fun W => Below w.heap.size w W ∧ Hid (Blk W w.heap.size 32 (fC ty fl st (.slice A n cap))) ∧ Hid (Blk W (w.heap.size + 1) 26 zP) ∧ Hid (Blk W (w.heap.size + 2) 28 zB) ∧ Hid (Blk W (w.heap.size + 3) 26 (pB ty st)))
    ⟨by go_grown, Lib.hid ((((Blk.new _ _ _).alloc _).alloc _).alloc _), Lib.hid (((Blk.new_at (by simp only [World.size_alloc])).alloc _).alloc _), Lib.hid ((Blk.new_at (by simp only [World.size_alloc])).alloc _), Lib.hid (Blk.new_at (by simp only [World.size_alloc]))⟩ ?_
  rintro W ⟨hB, HF, HZ, HX, HP⟩
  have hBs := hB.size
  have hl3 := HP.out.lt
  have hl0 : w.heap.size < W.heap.size := by omega
  have f0 : W.cell? ⟨w.heap.size, 0, none⟩ = some (.int .i64 ty) := HF.out.cell 0
  have f1 : W.cell? ⟨w.heap.size, 1, none⟩ = some (.int .i64 fl) := HF.out.cell 1
  have f2 : W.cell? ⟨w.heap.size, 2, none⟩ = some (.int .i64 st) := HF.out.cell 2
  have f3 : W.cell? ⟨w.heap.size, 3, none⟩ = some (.slice A n cap) := HF.out.cell 3
  have HRW := Lib.hid (HR.out.below hB (Nat.le_refl _))
  generalize hg : w.heap.size = g at *
  have HG := Lib.hid hg
  clear hg
  go_wp2_with (first
    | (go_at_call 19; refine (right_any ty fl st A n cap _).mono ?_; rintro e w1 ⟨rfl, hB1⟩; have hS1 := hB1.size; have HF1 := Lib.hid (HF.out.below hB1 (by omega)); have HP1 := Lib.hid (HP.out.below hB1 (by omega)); have HZ1 := Lib.hid (HZ.out.below hB1 (by omega)); have HX1 := Lib.hid (HX.out.below hB1 (by omega)); have f10 : w1.cell? ⟨g, 0, none⟩ = some (.int .i64 ty) := HF1.out.cell 0; have f11 : w1.cell? ⟨g, 1, none⟩ = some (.int .i64 fl) := HF1.out.cell 1; have f12 : w1.cell? ⟨g, 2, none⟩ = some (.int .i64 st) := HF1.out.cell 2; have f13 : w1.cell? ⟨g, 3, none⟩ = some (.slice A n cap) := HF1.out.cell 3; rw [HRG.out])
    | (go_at_call 20; refine (mis_any ty fl st _ _).mono ?_; rintro e w2 ⟨rfl, hB2⟩; have hS2 := hB2.size; have HF2 := Lib.hid (HF1.out.below hB2 (by omega)); have HP2 := Lib.hid (HP1.out.below hB2 (by omega)); have HZ2 := Lib.hid (HZ1.out.below hB2 (by omega)); have HX2 := Lib.hid (HX1.out.below hB2 (by omega)); have f20 : w2.cell? ⟨g, 0, none⟩ = some (.int .i64 ty) := HF2.out.cell 0; have f21 : w2.cell? ⟨g, 1, none⟩ = some (.int .i64 fl) := HF2.out.cell 1; have f22 : w2.cell? ⟨g, 2, none⟩ = some (.int .i64 st) := HF2.out.cell 2; have f23 : w2.cell? ⟨g, 3, none⟩ = some (.slice A n cap) := HF2.out.cell 3; rw [HMI.out])
    | (go_at_call 21; refine (conn_any 6 _).mono ?_; rintro e w3 ⟨rfl, hB3⟩; have hS3 := hB3.size; have HF3 := Lib.hid (HF2.out.below hB3 (by omega)); have HP3 := Lib.hid (HP2.out.below hB3 (by omega)); have HZ3 := Lib.hid (HZ2.out.below hB3 (by omega)); have HX3 := Lib.hid (HX2.out.below hB3 (by omega)); have f30 : w3.cell? ⟨g, 0, none⟩ = some (.int .i64 ty) := HF3.out.cell 0; have f31 : w3.cell? ⟨g, 1, none⟩ = some (.int .i64 fl) := HF3.out.cell 1; have f32 : w3.cell? ⟨g, 2, none⟩ = some (.int .i64 st) := HF3.out.cell 2; have f33 : w3.cell? ⟨g, 3, none⟩ = some (.slice A n cap) := HF3.out.cell 3)
    | (refine wpList_store_row rfl 26 (.tmp 2) (.tmp 87) rfl (g + 1) rfl zP rfl 26 _ HZ3.out rfl (by kernel_rfl) (by simp [Value.oneCell']) ?_; intro x1 hx1 gx1 sx1; have HXx := Lib.hid (HX3.out.grown gx1 (by simp)))
    | (refine wpList_store_row rfl 28 (.tmp 3) (.tmp 88) rfl (g + 2) rfl #[.int .i64 2, .int .i64 (6), .int .i64 0] rfl 28 _ HXx.out rfl (by kernel_rfl) (by simp [Value.oneCell']) ?_; intro x2 hx2 gx2 sx2))
  have hgo := HG.out
  subst hgo
  refine bodyPost_ret (results_cc rfl _ (w.heap.size + 1) (w.heap.size + 2) 26 28 _ _ _ _ rfl (hx1.grown gx2 (by simp)) Try.underlying26 rfl (by kernel_rfl) rfl hx2 Try.underlying28 rfl (by kernel_rfl)) rfl ⟨⟨_, rfl, isP_zero _ _⟩, (((((hB.trans (hB1.mono (by omega))).trans (hB2.mono (by omega))).trans (hB3.mono (by omega))).grown gx1 (by omega) (fun q hq => by cases hq; omega)).grown gx2 (by omega) (fun q hq => by cases hq; omega))⟩
set_option maxHeartbeats 4000000 in
set_option maxRecDepth 100000 in
theorem of_away (ty fl st : Int) (A : Option Addr) (n cap : Nat) (L : List Int) (w : World) (hR : BS w (.slice A n cap) L) (hln : L.length = n) (hb : Byt L) (hn : n ≤ 1099511627776) (hrg : rightB ty fl st n = true) (h9 : ¬ 9 < ty) (hmi : misB ty st = false) (e0 : (ty == 0) = false) (e1 : (ty == 1) = false) (e2 : (ty == 2) = false) (e3 : (ty == 3) = false) (e4 : (ty == 4) = false) (e6 : (ty == 6) = false) (e7 : (ty == 7) = true) (hlen : ¬ n < 8) (b' : List Int) (hb' : L.drop 8 = b') (x y : Int) (hx : num L 0 % 2147483648 = x) (hy : num L 4 = y) :
    Calls Try.prog 10 #[.agg (fC ty fl st (.slice A n cap))] w fun e w' => Ans w.heap.size ({ PP.base ty st with la := x, co := y, body := b' }, okB) e w' ∧ Below w.heap.size w w' := by
  have HR := Lib.hid hR
  have HL := Lib.hid hln
  have HY := Lib.hid hb
  clear hR hln hb
  have HRG := Lib.hid hrg
  clear hrg
  have HMI := Lib.hid hmi
  clear hmi
  have hlk : ¬ (n : Int) < 8 := by omega
  have hl8 : 8 ≤ L.length := by rw [HL.out]; omega
  have hl4 : 4 ≤ L.length := by omega
  have hlt2 : b'.length ≤ 1099511627776 := by rw [← hb']; simp; rw [HL.out]; omega
  have HB' := Lib.hid hb'
  have HM1 := Lib.hid hx
  have hy' : num (L.drop 4) 0 = y := (num_drop L 4 0).trans hy
  have HM2 := Lib.hid hy'
  clear hb' hx hy hy' hlen
  go_enter Try.func10, Try.ntmps10
  go_upto_region 2 with fail
  refine wp_forget (fun W => Below w.heap.size w W ∧ Hid (Blk W w.heap.size 32 (fC ty fl st (.slice A n cap))) ∧ Hid (Blk W (w.heap.size + 1) 26 zP) ∧ Hid (Blk W (w.heap.size + 2) 28 zB) ∧ Hid (Blk W (w.heap.size + 3) 26 (pB ty st)))
    ⟨by go_grown, Lib.hid ((((Blk.new _ _ _).alloc _).alloc _).alloc _), Lib.hid (((Blk.new_at (by simp only [World.size_alloc])).alloc _).alloc _), Lib.hid ((Blk.new_at (by simp only [World.size_alloc])).alloc _), Lib.hid (Blk.new_at (by simp only [World.size_alloc]))⟩ ?_
  rintro W ⟨hB, HF, HZ, HX, HP⟩
  have hBs := hB.size
  have hl3 := HP.out.lt
  have hl0 : w.heap.size < W.heap.size := by omega
  have f0 : W.cell? ⟨w.heap.size, 0, none⟩ = some (.int .i64 ty) := HF.out.cell 0
  have f1 : W.cell? ⟨w.heap.size, 1, none⟩ = some (.int .i64 fl) := HF.out.cell 1
  have f2 : W.cell? ⟨w.heap.size, 2, none⟩ = some (.int .i64 st) := HF.out.cell 2
  have f3 : W.cell? ⟨w.heap.size, 3, none⟩ = some (.slice A n cap) := HF.out.cell 3
  have HRW := Lib.hid (HR.out.below hB (Nat.le_refl _))
  generalize hg : w.heap.size = g at *
  have HG := Lib.hid hg
  clear hg
  go_upto_region 27 with (first
    | (go_at_call 19; refine (right_any ty fl st A n cap _).mono ?_; rintro e w1 ⟨rfl, hB1⟩; have hS1 := hB1.size; have HF1 := Lib.hid (HF.out.below hB1 (by omega)); have HP1 := Lib.hid (HP.out.below hB1 (by omega)); have HZ1 := Lib.hid (HZ.out.below hB1 (by omega)); have HX1 := Lib.hid (HX.out.below hB1 (by omega)); have f10 : w1.cell? ⟨g, 0, none⟩ = some (.int .i64 ty) := HF1.out.cell 0; have f11 : w1.cell? ⟨g, 1, none⟩ = some (.int .i64 fl) := HF1.out.cell 1; have f12 : w1.cell? ⟨g, 2, none⟩ = some (.int .i64 st) := HF1.out.cell 2; have f13 : w1.cell? ⟨g, 3, none⟩ = some (.slice A n cap) := HF1.out.cell 3; rw [HRG.out])
    | (go_at_call 20; refine (mis_any ty fl st _ _).mono ?_; rintro e w2 ⟨rfl, hB2⟩; have hS2 := hB2.size; have HF2 := Lib.hid (HF1.out.below hB2 (by omega)); have HP2 := Lib.hid (HP1.out.below hB2 (by omega)); have HZ2 := Lib.hid (HZ1.out.below hB2 (by omega)); have HX2 := Lib.hid (HX1.out.below hB2 (by omega)); have f20 : w2.cell? ⟨g, 0, none⟩ = some (.int .i64 ty) := HF2.out.cell 0; have f21 : w2.cell? ⟨g, 1, none⟩ = some (.int .i64 fl) := HF2.out.cell 1; have f22 : w2.cell? ⟨g, 2, none⟩ = some (.int .i64 st) := HF2.out.cell 2; have f23 : w2.cell? ⟨g, 3, none⟩ = some (.slice A n cap) := HF2.out.cell 3; rw [HMI.out]))
  have HRW2 := Lib.hid (HRW.out.below (hB1.trans (hB2.mono (by omega))) (Nat.le_refl _))
  obtain ⟨A4, n4, c4', hrun4, hs4⟩ := run_fromI HRW2.out 4 (by omega) (by omega)
  obtain ⟨A8, n8, c8', hrun8, hs8⟩ := run_fromI HRW2.out 8 (by omega) (by omega)
  have HS4 : Hid (BS w2 (.slice A4 n4 c4') (L.drop 4)) := Lib.hid hs4
  have hs8' : BS w2 (.slice A8 n8 c8') b' := by have h := hs8; rwa [show (8 : Int).toNat = 8 from rfl, HB'.out] at h
  have HSL := Lib.hid hs8'
  have hl44 : 4 ≤ (L.drop 4).length := by simp; omega
  clear hs4 hs8 hs8'
  have c7' : w2.frozen? ⟨g + 3, 7, none⟩ = false := HP2.out.frozen 7
  have c7 : w2.cell? ⟨g + 3, 7, none⟩ = some (.int .i64 0) := HP2.out.cell 7
  have c6' : w2.frozen? ⟨g + 3, 6, none⟩ = false := HP2.out.frozen 6
  have c6 : w2.cell? ⟨g + 3, 6, none⟩ = some (.int .i64 0) := HP2.out.cell 6
  have c5' : w2.frozen? ⟨g + 3, 5, none⟩ = false := HP2.out.frozen 5
  have c5 : w2.cell? ⟨g + 3, 5, none⟩ = some (.slice none 0 0) := HP2.out.cell 5
  have q0 : g < w2.heap.size := by omega
  have q1 : g + 3 < w2.heap.size := by omega
  go_region_held3 (fun wx => wx.cell? ⟨g, 0, none⟩ = some (.int .i64 ty)) (first | assumption | go_simp) (first | (go_at_call 28; refine (bare_any _ L _ (HRW2.out.below (by go_grown) (Nat.le_refl _)) HY.out hl4).mono ?_; rintro e v1 ⟨rfl, hE1⟩; rw [HM1.out]; have hV1 : Below w2.heap.size w2 v1 := Below.trans (by go_grown) hE1; have k0 : v1.cell? ⟨g, 0, none⟩ = some (.int .i64 ty) := (hV1.cell (p := ⟨g, 0, none⟩) q0).trans f20) | (go_at_call 25; refine (number_any _ (L.drop 4) _ (HS4.out.below hV1 (Nat.le_refl _)) (HY.out.drop 4) hl44).mono ?_; rintro e v2 ⟨rfl, hE2⟩; rw [HM2.out]; have hV2 : Below w2.heap.size w2 v2 := hV1.trans (hE2.mono hV1.size); have k0 : v2.cell? ⟨g, 0, none⟩ = some (.int .i64 ty) := (hV2.cell (p := ⟨g, 0, none⟩) q0).trans f20) | (go_at_call 27; refine (copied_any _ _ _ (HSL.out.below hV2 (Nat.le_refl _)) hlt2).mono ?_; rintro e we2 ⟨⟨vc, rfl, hown⟩, hD2⟩; obtain ⟨Ac, cc, rfl⟩ := own_form hown; obtain ⟨d2, e2⟩ := bcell (show Below w2.heap.size w2 we2 from hV2.trans (hD2.mono hV2.size)); have k0 : we2.cell? ⟨g, 0, none⟩ = some (.int .i64 ty) := (d2 g 0 q0).trans f20; have c7'' : we2.cell? ⟨g + 3, 7, none⟩ = some (.int .i64 0) := (d2 _ 7 q1).trans c7; have z7'' : we2.frozen? ⟨g + 3, 7, none⟩ = false := (e2 _ 7 q1).trans c7'; have c6'' : we2.cell? ⟨g + 3, 6, none⟩ = some (.int .i64 0) := (d2 _ 6 q1).trans c6; have z6'' : we2.frozen? ⟨g + 3, 6, none⟩ = false := (e2 _ 6 q1).trans c6'; have c5'' : we2.cell? ⟨g + 3, 5, none⟩ = some (.slice none 0 0) := (d2 _ 5 q1).trans c5; have z5'' : we2.frozen? ⟨g + 3, 5, none⟩ = false := (e2 _ 5 q1).trans c5'))
  all_goals
    have hB2' : Below w2.heap.size w2 we2 := hV2.trans (hD2.mono hV2.size)
    have HPe := Lib.hid ((((HP2.out.below hB2' q1).put 7 (.int .i64 x)).put 6 (.int .i64 y)).put 5 (.slice Ac b'.length cc))
    have HZe := Lib.hid ((((HZ2.out.below hB2' (by omega)).far (p := ⟨g + 3, 7, none⟩) (by simp) (.int .i64 x)).far (p := ⟨g + 3, 6, none⟩) (by simp) (.int .i64 y)).far (p := ⟨g + 3, 5, none⟩) (by simp) (.slice Ac b'.length cc))
    have HXe := Lib.hid ((((HX2.out.below hB2' (by omega)).far (p := ⟨g + 3, 7, none⟩) (by simp) (.int .i64 x)).far (p := ⟨g + 3, 6, none⟩) (by simp) (.int .i64 y)).far (p := ⟨g + 3, 5, none⟩) (by simp) (.slice Ac b'.length cc))
    have hown' : we2.ownsRow w2.heap.size 5 1 (.slice Ac b'.length cc) b'.length (bv b') := hown.mono hV2.size
    have HOe := Lib.hid (ownsRow_setCell_below (ownsRow_setCell_below (ownsRow_setCell_below hown' (a := ⟨g + 3, 7, none⟩) q1 (.int .i64 x)) (a := ⟨g + 3, 6, none⟩) q1 (.int .i64 y)) (a := ⟨g + 3, 5, none⟩) q1 (.slice Ac b'.length cc))
    have hBe : Below g w (((we2.setCell ⟨g + 3, 7, none⟩ (.int .i64 x)).setCell ⟨g + 3, 6, none⟩ (.int .i64 y)).setCell ⟨g + 3, 5, none⟩ (.slice Ac b'.length cc)) := ((((((hB.trans (hB1.mono (by omega))).trans (hB2.mono (by omega))).trans (hB2'.mono (by omega))).setCell (by simp) (.int .i64 x)).setCell (by simp) (.int .i64 y)).setCell (by simp) (.slice Ac b'.length cc))
    change Exit.inBlock _ _ _ _ (((we2.setCell ⟨g + 3, 7, none⟩ (.int .i64 x)).setCell ⟨g + 3, 6, none⟩ (.int .i64 y)).setCell ⟨g + 3, 5, none⟩ (.slice Ac b'.length cc))
    have hse : w2.heap.size ≤ (((we2.setCell ⟨g + 3, 7, none⟩ (.int .i64 x)).setCell ⟨g + 3, 6, none⟩ (.int .i64 y)).setCell ⟨g + 3, 5, none⟩ (.slice Ac b'.length cc)).heap.size := by simp only [World.size_setCell]; exact hB2'.size
    clear hB1 hB2 hrun4 hrun8 hown hown' hD2 hB2' d2 e2
    generalize (((we2.setCell ⟨g + 3, 7, none⟩ (.int .i64 x)).setCell ⟨g + 3, 6, none⟩ (.int .i64 y)).setCell ⟨g + 3, 5, none⟩ (.slice Ac b'.length cc)) = we at *
    go_wp2_with (first
      | (refine wpList_load_row rfl 26 (.tmp 4) rfl (g + 3) rfl 26 _ _ _ HPe.out Try.underlying26 rfl (by kernel_rfl) ?_)
      | (refine wpList_store_row rfl 26 (.tmp 2) (.tmp 117) rfl (g + 1) rfl #[.int .i64 ty, .int .i64 st, .bool false, .bool false, .bool false, .slice Ac b'.length cc, .int .i64 y, .int .i64 x, .int .i64 0, .int .i64 0, .slice none 0 0] rfl 26 _ HZe.out rfl (by kernel_rfl) (by simp [Value.oneCell']) ?_; intro x1 hx1 gx1 sx1; have HXx := Lib.hid (HXe.out.grown gx1 (by simp)))
      | (refine wpList_store_row rfl 28 (.tmp 3) (.tmp 118) rfl (g + 2) rfl zB rfl 28 _ HXx.out rfl (by kernel_rfl) (by simp [Value.oneCell']) ?_; intro x2 hx2 gx2 sx2))
    have hgo := HG.out
    subst hgo
    refine bodyPost_ret (results_cc rfl _ (w.heap.size + 1) (w.heap.size + 2) 26 28 _ _ _ _ rfl (hx1.grown gx2 (by simp)) Try.underlying26 rfl (by kernel_rfl) rfl hx2 Try.underlying28 rfl (by kernel_rfl)) rfl ⟨⟨_, rfl, ⟨.slice Ac b'.length cc, .slice none 0 0, rfl, (own_grown (own_grown HOe.out gx1 (by omega)) gx2 (by omega)).mono (by omega), World.ownsRow_nil _ _ _ _⟩⟩, ((hBe.grown gx1 (by omega) (fun q hq => by cases hq; omega)).grown gx2 (by omega) (fun q hq => by cases hq; omega))⟩

theorem right_len {ty fl st : Int} {n : Nat} (h : rightB ty fl st n = true) : n ≤ 16777215 ∧ 0 ≤ ty := by
  unfold rightB at h
  simp at h
  omega
/-- What Of answers: of any frame. -/
theorem of_any (ty fl st : Int) (v : Value) (L : List Int) (w : World) (hR : BS w v L) (hb : Byt L) :
    Calls Try.prog 10 #[.agg (fC ty fl st v)] w fun e w' => Ans w.heap.size (ofF ty fl st L) e w' ∧ Below w.heap.size w w' := by
  obtain ⟨A, cap, rfl, _⟩ := id hR
  unfold ofF
  cases hrg : rightB ty fl st L.length with
  | false => rw [if_pos (.inl rfl)]; exact of_wrong ty fl st A _ cap L w hR rfl hb hrg
  | true =>
    obtain ⟨hn', hty⟩ := right_len hrg
    have hn : L.length ≤ 1099511627776 := by omega
    by_cases h9 : 9 < ty
    · rw [if_pos (.inr h9)]; exact of_far ty fl st A _ cap L w hR rfl hb hrg h9
    · rw [if_neg (by simp [h9])]
      cases hmi : misB ty st with
      | true => rw [if_pos rfl]; exact of_mis ty fl st A _ cap L w hR rfl hb hrg h9 hmi
      | false =>
        rw [if_neg (by simp)]
        have h5 : ty ≠ 5 := fun h => by subst h; unfold misB at hmi; simp at hmi
        rcases (show ty = 0 ∨ ty = 1 ∨ ty = 2 ∨ ty = 3 ∨ ty = 4 ∨ ty = 6 ∨ ty = 7 ∨ ty = 8 ∨ ty = 9 by omega) with rfl | rfl | rfl | rfl | rfl | rfl | rfl | rfl | rfl
        · exact of_data 0 fl st A _ cap L w hR rfl hb hn hrg h9 hmi rfl _ rfl
        · exact of_head 1 fl st A _ cap L w hR rfl hb hn hrg h9 hmi rfl rfl _ rfl
        · exact of_prio 2 fl st A _ cap L w hR rfl hb hn hrg h9 hmi rfl rfl rfl _ rfl
        · show Calls _ _ _ _ fun e w' => Ans w.heap.size (resetF 3 st L) e w' ∧ _
          unfold resetF
          by_cases hl : L.length = 4
          · rw [if_neg (by omega)]; exact of_reset 3 fl st A _ cap L w hR rfl hb hn hrg h9 hmi rfl rfl rfl rfl hl _ rfl
          · rw [if_pos hl]; exact of_reset_bad 3 fl st A _ cap L w hR rfl hb hn hrg h9 hmi rfl rfl rfl rfl hl
        · exact of_sett 4 fl st A _ cap L w hR rfl hb hn hrg h9 hmi rfl rfl rfl rfl rfl _ rfl
        · show Calls _ _ _ _ fun e w' => Ans w.heap.size (pingF 6 fl st L) e w' ∧ _
          unfold pingF
          by_cases hl : L.length = 8
          · rw [if_neg (by omega)]; exact of_ping 6 fl st A _ cap L w hR rfl hb hn hrg h9 hmi rfl rfl rfl rfl rfl rfl hl _ rfl
          · rw [if_pos hl]; exact of_ping_bad 6 fl st A _ cap L w hR rfl hb hn hrg h9 hmi rfl rfl rfl rfl rfl rfl hl
        · show Calls _ _ _ _ fun e w' => Ans w.heap.size (awayF 7 st L) e w' ∧ _
          unfold awayF
          by_cases hl : L.length < 8
          · rw [if_pos hl]; exact of_away_bad 7 fl st A _ cap L w hR rfl hb hn hrg h9 hmi rfl rfl rfl rfl rfl rfl rfl hl
          · rw [if_neg hl]; exact of_away 7 fl st A _ cap L w hR rfl hb hn hrg h9 hmi rfl rfl rfl rfl rfl rfl rfl hl _ rfl _ _ rfl rfl
        · exact of_wind 8 fl st A _ cap L w hR rfl hb hn hrg h9 hmi rfl rfl rfl rfl rfl rfl rfl rfl _ rfl
        · exact of_cont 9 fl st A _ cap L w hR rfl hb hn hrg h9 hmi rfl rfl rfl rfl rfl rfl rfl rfl rfl _ rfl
end Go.Proofs.Ytolpfbdklcjlkaa
