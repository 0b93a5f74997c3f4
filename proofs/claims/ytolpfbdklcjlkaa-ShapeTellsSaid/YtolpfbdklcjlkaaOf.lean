/- Of. -/
import Derived.Test.YtolpfbdklcjlkaaData
import Derived.Test.YtolpfbdklcjlkaaHeadB
import Derived.Test.YtolpfbdklcjlkaaPrio
import Derived.Test.YtolpfbdklcjlkaaSett
namespace Go.Proofs.Ytolpfbdklcjlkaa
open Go.ChangeShapes Go.WideShapes Go.ChangeAt Go.RowKit
set_option linter.unusedVariables false
set_option linter.unusedSimpArgs false
set_option maxHeartbeats 4000000 in
set_option maxRecDepth 100000 in
theorem of_wrong (ty fl st : Int) (A : Option Addr) (n cap : Nat) (L : List Int) (w : World) (hR : BS w (.slice A n cap) L) (hln : L.length = n) (hb : Byt L) (hrg : rightB ty fl st n = false) :
    Calls Try.prog 10 #[.agg (fC ty fl st (.slice A n cap))] w fun e w' => Ans w.heap.size (PP.base ty st, okB) e w' ∧ Below w.heap.size w w' := by
  have HR := Lib.hid hR
  have HL := Lib.hid hln
  have HY := Lib.hid hb
  clear hR hln hb
  have HRG := Lib.hid hrg
  clear hrg
  go_enter Try.func10, Try.ntmps10
  go_upto_region 2 with fail
  refine wp_forget (fun W => Below w.heap.size w W ∧ Hid (Blk W w.heap.size 32 (fC ty fl st (.slice A n cap))) ∧ Hid (Blk W (w.heap.size + 1) 26 zP) ∧ Hid (Blk W (w.heap.size + 2) 28 zB) ∧ Hid (Blk W (w.heap.size + 3) 26 (pB ty st)))
    ⟨by go_grown, Lib.hid ((((Blk.new _ _ _).alloc _).alloc _).alloc _), Lib.hid (((Blk.new_at (by simp only [World.size_alloc])).alloc _).alloc _), Lib.hid ((Blk.new_at (by simp only [World.size_alloc])).alloc _), Lib.hid (Blk.new_at (by simp only [World.size_alloc]))⟩ ?_
  rintro W ⟨hB, HF, HZ, HX, HP⟩
  have hBs := hB.size
  have hl3 := HP.out.lt
  have hl0 : w.heap.size < W.heap.size := by omega
  have f0 : W.cell? ⟨w.heap.size, 0, none⟩ = some (.int .i64 ty) := HF.out.cell 0
  have f1 : W.cell? ⟨w.heap.size, 1, none⟩ = some (.int .i64 fl) := HF.out.cell 1
  have f2 : W.cell? ⟨w.heap.size, 2, none⟩ = some (.int .i64 st) := HF.out.cell 2
  have f3 : W.cell? ⟨w.heap.size, 3, none⟩ = some (.slice A n cap) := HF.out.cell 3
  have HRW := Lib.hid (HR.out.below hB (Nat.le_refl _))
  generalize hg : w.heap.size = g at *
  have HG := Lib.hid hg
  clear hg
  go_upto_region 3 with (go_at_call 19; refine (right_any ty fl st A n cap _).mono ?_; rintro e w1 ⟨rfl, hB1⟩; have hS1 := hB1.size; have HF1 := Lib.hid (HF.out.below hB1 (by omega)); have HP1 := Lib.hid (HP.out.below hB1 (by omega)); have HZ1 := Lib.hid (HZ.out.below hB1 (by omega)); have HX1 := Lib.hid (HX.out.below hB1 (by omega)); have f10 : w1.cell? ⟨g, 0, none⟩ = some (.int .i64 ty) := HF1.out.cell 0; have f11 : w1.cell? ⟨g, 1, none⟩ = some (.int .i64 fl) := HF1.out.cell 1; have f12 : w1.cell? ⟨g, 2, none⟩ = some (.int .i64 st) := HF1.out.cell 2; have f13 : w1.cell? ⟨g, 3, none⟩ = some (.slice A n cap) := HF1.out.cell 3; rw [HRG.out])
  have HPe := HP1
  have HZe := HZ1
  have HXe := HX1
  have hBe : Below g w w1 := (hB.trans (hB1.mono (by omega)))
  go_wp2_with (first
    | (refine wpList_load_row rfl 26 (.tmp 4) rfl (g + 3) rfl 26 _ _ _ HPe.out Try.underlying26 rfl (by kernel_rfl) ?_)
    | (refine wpList_store_row rfl 26 (.tmp 2) (.tmp 19) rfl (g + 1) rfl (pB ty st) rfl 26 _ HZe.out rfl (by kernel_rfl) (by simp [Value.oneCell']) ?_; intro x1 hx1 gx1 sx1; have HXx := Lib.hid (HXe.out.grown gx1 (by simp)))
    | (refine wpList_store_row rfl 28 (.tmp 3) (.tmp 20) rfl (g + 2) rfl zB rfl 28 _ HXx.out rfl (by kernel_rfl) (by simp [Value.oneCell']) ?_; intro x2 hx2 gx2 sx2))
  have hgo := HG.out
  subst hgo
  refine bodyPost_ret (results_cc rfl _ (w.heap.size + 1) (w.heap.size + 2) 26 28 _ _ _ _ rfl (hx1.grown gx2 (by simp)) Try.underlying26 rfl (by kernel_rfl) rfl hx2 Try.underlying28 rfl (by kernel_rfl)) rfl ⟨⟨_, rfl, isP_base _ _ _ _⟩, ((hBe.grown gx1 (by omega) (fun q hq => by cases hq; omega)).grown gx2 (by omega) (fun q hq => by cases hq; omega))⟩
set_option maxHeartbeats 4000000 in
set_option maxRecDepth 100000 in
theorem of_far (ty fl st : Int) (A : Option Addr) (n cap : Nat) (L : List Int) (w : World) (hR : BS w (.slice A n cap) L) (hln : L.length = n) (hb : Byt L) (hrg : rightB ty fl st n = true) (h9 : 9 < ty) :
    Calls Try.prog 10 #[.agg (fC ty fl st (.slice A n cap))] w fun e w' => Ans w.heap.size (PP.base ty st, okB) e w' ∧ Below w.heap.size w w' := by
  have HR := Lib.hid hR
  have HL := Lib.hid hln
  have HY := Lib.hid hb
  clear hR hln hb
  have HRG := Lib.hid hrg
  clear hrg
  go_enter Try.func10, Try.ntmps10
  go_upto_region 2 with fail
  refine wp_forget (fun W => Below w.heap.size w W ∧ Hid (Blk W w.heap.size 32 (fC ty fl st (.slice A n cap))) ∧ Hid (Blk W (w.heap.size + 1) 26 zP) ∧ Hid (Blk W (w.heap.size + 2) 28 zB) ∧ Hid (Blk W (w.heap.size + 3) 26 (pB ty st)))
    ⟨by go_grown, Lib.hid ((((Blk.new _ _ _).alloc _).alloc _).alloc _), Lib.hid (((Blk.new_at (by simp only [World.size_alloc])).alloc _).alloc _), Lib.hid ((Blk.new_at (by simp only [World.size_alloc])).alloc _), Lib.hid (Blk.new_at (by simp only [World.size_alloc]))⟩ ?_
  rintro W ⟨hB, HF, HZ, HX, HP⟩
  have hBs := hB.size
  have hl3 := HP.out.lt
  have hl0 : w.heap.size < W.heap.size := by omega
  have f0 : W.cell? ⟨w.heap.size, 0, none⟩ = some (.int .i64 ty) := HF.out.cell 0
  have f1 : W.cell? ⟨w.heap.size, 1, none⟩ = some (.int .i64 fl) := HF.out.cell 1
  have f2 : W.cell? ⟨w.heap.size, 2, none⟩ = some (.int .i64 st) := HF.out.cell 2
  have f3 : W.cell? ⟨w.heap.size, 3, none⟩ = some (.slice A n cap) := HF.out.cell 3
  have HRW := Lib.hid (HR.out.below hB (Nat.le_refl _))
  generalize hg : w.heap.size = g at *
  have HG := Lib.hid hg
  clear hg
  go_upto_region 3 with (go_at_call 19; refine (right_any ty fl st A n cap _).mono ?_; rintro e w1 ⟨rfl, hB1⟩; have hS1 := hB1.size; have HF1 := Lib.hid (HF.out.below hB1 (by omega)); have HP1 := Lib.hid (HP.out.below hB1 (by omega)); have HZ1 := Lib.hid (HZ.out.below hB1 (by omega)); have HX1 := Lib.hid (HX.out.below hB1 (by omega)); have f10 : w1.cell? ⟨g, 0, none⟩ = some (.int .i64 ty) := HF1.out.cell 0; have f11 : w1.cell? ⟨g, 1, none⟩ = some (.int .i64 fl) := HF1.out.cell 1; have f12 : w1.cell? ⟨g, 2, none⟩ = some (.int .i64 st) := HF1.out.cell 2; have f13 : w1.cell? ⟨g, 3, none⟩ = some (.slice A n cap) := HF1.out.cell 3; rw [HRG.out])
  have HPe := HP1
  have HZe := HZ1
  have HXe := HX1
  have hBe : Below g w w1 := (hB.trans (hB1.mono (by omega)))
  go_wp2_with (first
    | (refine wpList_load_row rfl 26 (.tmp 4) rfl (g + 3) rfl 26 _ _ _ HPe.out Try.underlying26 rfl (by kernel_rfl) ?_)
    | (refine wpList_store_row rfl 26 (.tmp 2) (.tmp 19) rfl (g + 1) rfl (pB ty st) rfl 26 _ HZe.out rfl (by kernel_rfl) (by simp [Value.oneCell']) ?_; intro x1 hx1 gx1 sx1; have HXx := Lib.hid (HXe.out.grown gx1 (by simp)))
    | (refine wpList_store_row rfl 28 (.tmp 3) (.tmp 20) rfl (g + 2) rfl zB rfl 28 _ HXx.out rfl (by kernel_rfl) (by simp [Value.oneCell']) ?_; intro x2 hx2 gx2 sx2))
  have hgo := HG.out
  subst hgo
  refine bodyPost_ret (results_cc rfl _ (w.heap.size + 1) (w.heap.size + 2) 26 28 _ _ _ _ rfl (hx1.grown gx2 (by simp)) Try.underlying26 rfl (by kernel_rfl) rfl hx2 Try.underlying28 rfl (by kernel_rfl)) rfl ⟨⟨_, rfl, isP_base _ _ _ _⟩, ((hBe.grown gx1 (by omega) (fun q hq => by cases hq; omega)).grown gx2 (by omega) (fun q hq => by cases hq; omega))⟩
set_option maxHeartbeats 4000000 in
set_option maxRecDepth 100000 in
theorem of_mis (ty fl st : Int) (A : Option Addr) (n cap : Nat) (L : List Int) (w : World) (hR : BS w (.slice A n cap) L) (hln : L.length = n) (hb : Byt L) (hrg : rightB ty fl st n = true) (h9 : ¬ 9 < ty) (hmi : misB ty st = true) :
    Calls Try.prog 10 #[.agg (fC ty fl st (.slice A n cap))] w fun e w' => Ans w.heap.size (PP.zero, cB 1) e w' ∧ Below w.heap.size w w' := by
  have HR := Lib.hid hR
  have HL := Lib.hid hln
  have HY := Lib.hid hb
  clear hR hln hb
  have HRG := Lib.hid hrg
  clear hrg
  have HMI := Lib.hid hmi
  clear hmi
  go_enter Try.func10, Try.ntmps10
  go_upto_region 2 with fail
  refine wp_forget (fun W => Below w.heap.size w W ∧ Hid (Blk W w.heap.size 32 (fC ty fl st (.slice A n cap))) ∧ Hid (Blk W (w.heap.size + 1) 26 zP) ∧ Hid (Blk W (w.heap.size + 2) 28 zB) ∧ Hid (Blk W (w.heap.size + 3) 26 (pB ty st)))
    ⟨by go_grown, Lib.hid ((((Blk.new _ _ _).alloc _).alloc _).alloc _), Lib.hid (((Blk.new_at (by simp only [World.size_alloc])).alloc _).alloc _), Lib.hid ((Blk.new_at (by simp only [World.size_alloc])).alloc _), Lib.hid (Blk.new_at (by simp only [World.size_alloc]))⟩ ?_
  rintro W ⟨hB, HF, HZ, HX, HP⟩
  have hBs := hB.size
  have hl3 := HP.out.lt
  have hl0 : w.heap.size < W.heap.size := by omega
  have f0 : W.cell? ⟨w.heap.size, 0, none⟩ = some (.int .i64 ty) := HF.out.cell 0
  have f1 : W.cell? ⟨w.heap.size, 1, none⟩ = some (.int .i64 fl) := HF.out.cell 1
  have f2 : W.cell? ⟨w.heap.size, 2, none⟩ = some (.int .i64 st) := HF.out.cell 2
  have f3 : W.cell? ⟨w.heap.size, 3, none⟩ = some (.slice A n cap) := HF.out.cell 3
  have HRW := Lib.hid (HR.out.below hB (Nat.le_refl _))
  generalize hg : w.heap.size = g at *
  have HG := Lib.hid hg
  clear hg
  go_wp2_with (first
    | (go_at_call 19; refine (right_any ty fl st A n cap _).mono ?_; rintro e w1 ⟨rfl, hB1⟩; have hS1 := hB1.size; have HF1 := Lib.hid (HF.out.below hB1 (by omega)); have HP1 := Lib.hid (HP.out.below hB1 (by omega)); have HZ1 := Lib.hid (HZ.out.below hB1 (by omega)); have HX1 := Lib.hid (HX.out.below hB1 (by omega)); have f10 : w1.cell? ⟨g, 0, none⟩ = some (.int .i64 ty) := HF1.out.cell 0; have f11 : w1.cell? ⟨g, 1, none⟩ = some (.int .i64 fl) := HF1.out.cell 1; have f12 : w1.cell? ⟨g, 2, none⟩ = some (.int .i64 st) := HF1.out.cell 2; have f13 : w1.cell? ⟨g, 3, none⟩ = some (.slice A n cap) := HF1.out.cell 3; rw [HRG.out])
    | (go_at_call 20; refine (mis_any ty fl st _ _).mono ?_; rintro e w2 ⟨rfl, hB2⟩; have hS2 := hB2.size; have HF2 := Lib.hid (HF1.out.below hB2 (by omega)); have HP2 := Lib.hid (HP1.out.below hB2 (by omega)); have HZ2 := Lib.hid (HZ1.out.below hB2 (by omega)); have HX2 := Lib.hid (HX1.out.below hB2 (by omega)); have f20 : w2.cell? ⟨g, 0, none⟩ = some (.int .i64 ty) := HF2.out.cell 0; have f21 : w2.cell? ⟨g, 1, none⟩ = some (.int .i64 fl) := HF2.out.cell 1; have f22 : w2.cell? ⟨g, 2, none⟩ = some (.int .i64 st) := HF2.out.cell 2; have f23 : w2.cell? ⟨g, 3, none⟩ = some (.slice A n cap) := HF2.out.cell 3; rw [HMI.out])
    | (go_at_call 21; refine (conn_any 1 _).mono ?_; rintro e w3 ⟨rfl, hB3⟩; have hS3 := hB3.size; have HF3 := Lib.hid (HF2.out.below hB3 (by omega)); have HP3 := Lib.hid (HP2.out.below hB3 (by omega)); have HZ3 := Lib.hid (HZ2.out.below hB3 (by omega)); have HX3 := Lib.hid (HX2.out.below hB3 (by omega)); have f30 : w3.cell? ⟨g, 0, none⟩ = some (.int .i64 ty) := HF3.out.cell 0; have f31 : w3.cell? ⟨g, 1, none⟩ = some (.int .i64 fl) := HF3.out.cell 1; have f32 : w3.cell? ⟨g, 2, none⟩ = some (.int .i64 st) := HF3.out.cell 2; have f33 : w3.cell? ⟨g, 3, none⟩ = some (.slice A n cap) := HF3.out.cell 3)
    | (refine wpList_store_row rfl 26 (.tmp 2) (.tmp 23) rfl (g + 1) rfl zP rfl 26 _ HZ3.out rfl (by kernel_rfl) (by simp [Value.oneCell']) ?_; intro x1 hx1 gx1 sx1; have HXx := Lib.hid (HX3.out.grown gx1 (by simp)))
    | (refine wpList_store_row rfl 28 (.tmp 3) (.tmp 24) rfl (g + 2) rfl #[.int .i64 2, .int .i64 (1), .int .i64 0] rfl 28 _ HXx.out rfl (by kernel_rfl) (by simp [Value.oneCell']) ?_; intro x2 hx2 gx2 sx2))
  have hgo := HG.out
  subst hgo
  refine bodyPost_ret (results_cc rfl _ (w.heap.size + 1) (w.heap.size + 2) 26 28 _ _ _ _ rfl (hx1.grown gx2 (by simp)) Try.underlying26 rfl (by kernel_rfl) rfl hx2 Try.underlying28 rfl (by kernel_rfl)) rfl ⟨⟨_, rfl, isP_zero _ _⟩, (((((hB.trans (hB1.mono (by omega))).trans (hB2.mono (by omega))).trans (hB3.mono (by omega))).grown gx1 (by omega) (fun q hq => by cases hq; omega)).grown gx2 (by omega) (fun q hq => by cases hq; omega))⟩
set_option maxHeartbeats 4000000 in
set_option maxRecDepth 100000 in
theorem of_data (ty fl st : Int) (A : Option Addr) (n cap : Nat) (L : List Int) (w : World) (hR : BS w (.slice A n cap) L) (hln : L.length = n) (hb : Byt L) (hn : n ≤ 1099511627776) (hrg : rightB ty fl st n = true) (h9 : ¬ 9 < ty) (hmi : misB ty st = false) (e0 : (ty == 0) = true) (r : PP × (Int × Int × Int)) (hr : dataF ty fl st L = r) :
    Calls Try.prog 10 #[.agg (fC ty fl st (.slice A n cap))] w fun e w' => Ans w.heap.size (r) e w' ∧ Below w.heap.size w w' := by
  have HR := Lib.hid hR
  have HL := Lib.hid hln
  have HY := Lib.hid hb
  clear hR hln hb
  have HRG := Lib.hid hrg
  clear hrg
  have HMI := Lib.hid hmi
  clear hmi
  have HRR := Lib.hid hr
  clear hr
  obtain ⟨⟨qty, qst, qe, qf, qk, qbody, qco, qla, qmo, qcs, qn, qZ⟩, qb⟩ := r
  go_enter Try.func10, Try.ntmps10
  go_upto_region 2 with fail
  refine wp_forget (fun W => Below w.heap.size w W ∧ Hid (Blk W w.heap.size 32 (fC ty fl st (.slice A n cap))) ∧ Hid (Blk W (w.heap.size + 1) 26 zP) ∧ Hid (Blk W (w.heap.size + 2) 28 zB) ∧ Hid (Blk W (w.heap.size + 3) 26 (pB ty st)))
    ⟨by go_grown, Lib.hid ((((Blk.new _ _ _).alloc _).alloc _).alloc _), Lib.hid (((Blk.new_at (by simp only [World.size_alloc])).alloc _).alloc _), Lib.hid ((Blk.new_at (by simp only [World.size_alloc])).alloc _), Lib.hid (Blk.new_at (by simp only [World.size_alloc]))⟩ ?_
  rintro W ⟨hB, HF, HZ, HX, HP⟩
  have hBs := hB.size
  have hl3 := HP.out.lt
  have hl0 : w.heap.size < W.heap.size := by omega
  have f0 : W.cell? ⟨w.heap.size, 0, none⟩ = some (.int .i64 ty) := HF.out.cell 0
  have f1 : W.cell? ⟨w.heap.size, 1, none⟩ = some (.int .i64 fl) := HF.out.cell 1
  have f2 : W.cell? ⟨w.heap.size, 2, none⟩ = some (.int .i64 st) := HF.out.cell 2
  have f3 : W.cell? ⟨w.heap.size, 3, none⟩ = some (.slice A n cap) := HF.out.cell 3
  have HRW := Lib.hid (HR.out.below hB (Nat.le_refl _))
  generalize hg : w.heap.size = g at *
  have HG := Lib.hid hg
  clear hg
  go_wp2_with (first
    | (go_at_call 19; refine (right_any ty fl st A n cap _).mono ?_; rintro e w1 ⟨rfl, hB1⟩; have hS1 := hB1.size; have HF1 := Lib.hid (HF.out.below hB1 (by omega)); have HP1 := Lib.hid (HP.out.below hB1 (by omega)); have HZ1 := Lib.hid (HZ.out.below hB1 (by omega)); have HX1 := Lib.hid (HX.out.below hB1 (by omega)); have f10 : w1.cell? ⟨g, 0, none⟩ = some (.int .i64 ty) := HF1.out.cell 0; have f11 : w1.cell? ⟨g, 1, none⟩ = some (.int .i64 fl) := HF1.out.cell 1; have f12 : w1.cell? ⟨g, 2, none⟩ = some (.int .i64 st) := HF1.out.cell 2; have f13 : w1.cell? ⟨g, 3, none⟩ = some (.slice A n cap) := HF1.out.cell 3; rw [HRG.out])
    | (go_at_call 20; refine (mis_any ty fl st _ _).mono ?_; rintro e w2 ⟨rfl, hB2⟩; have hS2 := hB2.size; have HF2 := Lib.hid (HF1.out.below hB2 (by omega)); have HP2 := Lib.hid (HP1.out.below hB2 (by omega)); have HZ2 := Lib.hid (HZ1.out.below hB2 (by omega)); have HX2 := Lib.hid (HX1.out.below hB2 (by omega)); have f20 : w2.cell? ⟨g, 0, none⟩ = some (.int .i64 ty) := HF2.out.cell 0; have f21 : w2.cell? ⟨g, 1, none⟩ = some (.int .i64 fl) := HF2.out.cell 1; have f22 : w2.cell? ⟨g, 2, none⟩ = some (.int .i64 st) := HF2.out.cell 2; have f23 : w2.cell? ⟨g, 3, none⟩ = some (.slice A n cap) := HF2.out.cell 3; rw [HMI.out])
    | (go_at_call 22; refine (data_any ty fl st _ L _ (HRW.out.below (hB1.trans (hB2.mono (by omega))) (Nat.le_refl _)) HY.out (by rw [HL.out]; exact hn)).mono ?_; rintro e w3 ⟨hans, hB3⟩; have hS3 := hB3.size; have HF3 := Lib.hid (HF2.out.below hB3 (by omega)); have HP3 := Lib.hid (HP2.out.below hB3 (by omega)); have HZ3 := Lib.hid (HZ2.out.below hB3 (by omega)); have HX3 := Lib.hid (HX2.out.below hB3 (by omega)); have f30 : w3.cell? ⟨g, 0, none⟩ = some (.int .i64 ty) := HF3.out.cell 0; have f31 : w3.cell? ⟨g, 1, none⟩ = some (.int .i64 fl) := HF3.out.cell 1; have f32 : w3.cell? ⟨g, 2, none⟩ = some (.int .i64 st) := HF3.out.cell 2; have f33 : w3.cell? ⟨g, 3, none⟩ = some (.slice A n cap) := HF3.out.cell 3; rw [HRR.out] at hans; obtain ⟨v, rfl, vb, vs, rfl, hob, hsv⟩ := hans; obtain ⟨Ab, cb, rfl⟩ := own_form hob; obtain ⟨As, cs, rfl⟩ := own_form hsv; have HOB := Lib.hid hob; have HSV := Lib.hid hsv; clear hob hsv)
    | (refine wpList_store_row rfl 26 (.tmp 2) (.tmp 34) rfl (g + 1) rfl _ rfl 26 _ HZ3.out rfl (by kernel_rfl) (by simp [Value.oneCell']) ?_; intro x1 hx1 gx1 sx1; have HXx := Lib.hid (HX3.out.grown gx1 (by simp)))
    | (refine wpList_store_row rfl 28 (.tmp 3) (.tmp 35) rfl (g + 2) rfl _ rfl 28 _ HXx.out rfl (by kernel_rfl) (by simp [Value.oneCell']) ?_; intro x2 hx2 gx2 sx2)
    | (refine wpList_load_row rfl 26 (.tmp 4) rfl (g + 3) rfl 26 _ _ _ HP2.out Try.underlying26 rfl (by kernel_rfl) ?_))
  have hgo := HG.out
  subst hgo
  refine bodyPost_ret (results_cc rfl _ (w.heap.size + 1) (w.heap.size + 2) 26 28 _ _ _ _ rfl (hx1.grown gx2 (by simp)) Try.underlying26 rfl (by kernel_rfl) rfl hx2 Try.underlying28 rfl (by kernel_rfl)) rfl ⟨⟨_, rfl, ⟨_, _, rfl, (own_grown (own_grown HOB.out gx1 (by omega)) gx2 (by omega)).mono (by omega), (own_grown (own_grown HSV.out gx1 (by omega)) gx2 (by omega)).mono (by omega)⟩⟩, (((((hB.trans (hB1.mono (by omega))).trans (hB2.mono (by omega))).trans (hB3.mono (by omega))).grown gx1 (by omega) (fun q hq => by cases hq; omega)).grown gx2 (by omega) (fun q hq => by cases hq; omega))⟩
set_option maxHeartbeats 4000000 in
set_option maxRecDepth 100000 in
theorem of_head (ty fl st : Int) (A : Option Addr) (n cap : Nat) (L : List Int) (w : World) (hR : BS w (.slice A n cap) L) (hln : L.length = n) (hb : Byt L) (hn : n ≤ 1099511627776) (hrg : rightB ty fl st n = true) (h9 : ¬ 9 < ty) (hmi : misB ty st = false) (e0 : (ty == 0) = false) (e1 : (ty == 1) = true) (r : PP × (Int × Int × Int)) (hr : headersF ty fl st L = r) :
    Calls Try.prog 10 #[.agg (fC ty fl st (.slice A n cap))] w fun e w' => Ans w.heap.size (r) e w' ∧ Below w.heap.size w w' := by
  have HR := Lib.hid hR
  have HL := Lib.hid hln
  have HY := Lib.hid hb
  clear hR hln hb
  have HRG := Lib.hid hrg
  clear hrg
  have HMI := Lib.hid hmi
  clear hmi
  have HRR := Lib.hid hr
  clear hr
  obtain ⟨⟨qty, qst, qe, qf, qk, qbody, qco, qla, qmo, qcs, qn, qZ⟩, qb⟩ := r
  go_enter Try.func10, Try.ntmps10
  go_upto_region 2 with fail
  refine wp_forget (fun W => Below w.heap.size w W ∧ Hid (Blk W w.heap.size 32 (fC ty fl st (.slice A n cap))) ∧ Hid (Blk W (w.heap.size + 1) 26 zP) ∧ Hid (Blk W (w.heap.size + 2) 28 zB) ∧ Hid (Blk W (w.heap.size + 3) 26 (pB ty st)))
    ⟨by go_grown, Lib.hid ((((Blk.new _ _ _).alloc _).alloc _).alloc _), Lib.hid (((Blk.new_at (by simp only [World.size_alloc])).alloc _).alloc _), Lib.hid ((Blk.new_at (by simp only [World.size_alloc])).alloc _), Lib.hid (Blk.new_at (by simp only [World.size_alloc]))⟩ ?_
  rintro W ⟨hB, HF, HZ, HX, HP⟩
  have hBs := hB.size
  have hl3 := HP.out.lt
  have hl0 : w.heap.size < W.heap.size := by omega
  have f0 : W.cell? ⟨w.heap.size, 0, none⟩ = some (.int .i64 ty) := HF.out.cell 0
  have f1 : W.cell? ⟨w.heap.size, 1, none⟩ = some (.int .i64 fl) := HF.out.cell 1
  have f2 : W.cell? ⟨w.heap.size, 2, none⟩ = some (.int .i64 st) := HF.out.cell 2
  have f3 : W.cell? ⟨w.heap.size, 3, none⟩ = some (.slice A n cap) := HF.out.cell 3
  have HRW := Lib.hid (HR.out.below hB (Nat.le_refl _))
  generalize hg : w.heap.size = g at *
  have HG := Lib.hid hg
  clear hg
  go_wp2_with (first
    | (go_at_call 19; refine (right_any ty fl st A n cap _).mono ?_; rintro e w1 ⟨rfl, hB1⟩; have hS1 := hB1.size; have HF1 := Lib.hid (HF.out.below hB1 (by omega)); have HP1 := Lib.hid (HP.out.below hB1 (by omega)); have HZ1 := Lib.hid (HZ.out.below hB1 (by omega)); have HX1 := Lib.hid (HX.out.below hB1 (by omega)); have f10 : w1.cell? ⟨g, 0, none⟩ = some (.int .i64 ty) := HF1.out.cell 0; have f11 : w1.cell? ⟨g, 1, none⟩ = some (.int .i64 fl) := HF1.out.cell 1; have f12 : w1.cell? ⟨g, 2, none⟩ = some (.int .i64 st) := HF1.out.cell 2; have f13 : w1.cell? ⟨g, 3, none⟩ = some (.slice A n cap) := HF1.out.cell 3; rw [HRG.out])
    | (go_at_call 20; refine (mis_any ty fl st _ _).mono ?_; rintro e w2 ⟨rfl, hB2⟩; have hS2 := hB2.size; have HF2 := Lib.hid (HF1.out.below hB2 (by omega)); have HP2 := Lib.hid (HP1.out.below hB2 (by omega)); have HZ2 := Lib.hid (HZ1.out.below hB2 (by omega)); have HX2 := Lib.hid (HX1.out.below hB2 (by omega)); have f20 : w2.cell? ⟨g, 0, none⟩ = some (.int .i64 ty) := HF2.out.cell 0; have f21 : w2.cell? ⟨g, 1, none⟩ = some (.int .i64 fl) := HF2.out.cell 1; have f22 : w2.cell? ⟨g, 2, none⟩ = some (.int .i64 st) := HF2.out.cell 2; have f23 : w2.cell? ⟨g, 3, none⟩ = some (.slice A n cap) := HF2.out.cell 3; rw [HMI.out])
    | (go_at_call 23; refine (headers_any ty fl st _ L _ (HRW.out.below (hB1.trans (hB2.mono (by omega))) (Nat.le_refl _)) HY.out (by rw [HL.out]; exact hn)).mono ?_; rintro e w3 ⟨hans, hB3⟩; have hS3 := hB3.size; have HF3 := Lib.hid (HF2.out.below hB3 (by omega)); have HP3 := Lib.hid (HP2.out.below hB3 (by omega)); have HZ3 := Lib.hid (HZ2.out.below hB3 (by omega)); have HX3 := Lib.hid (HX2.out.below hB3 (by omega)); have f30 : w3.cell? ⟨g, 0, none⟩ = some (.int .i64 ty) := HF3.out.cell 0; have f31 : w3.cell? ⟨g, 1, none⟩ = some (.int .i64 fl) := HF3.out.cell 1; have f32 : w3.cell? ⟨g, 2, none⟩ = some (.int .i64 st) := HF3.out.cell 2; have f33 : w3.cell? ⟨g, 3, none⟩ = some (.slice A n cap) := HF3.out.cell 3; rw [HRR.out] at hans; obtain ⟨v, rfl, vb, vs, rfl, hob, hsv⟩ := hans; obtain ⟨Ab, cb, rfl⟩ := own_form hob; obtain ⟨As, cs, rfl⟩ := own_form hsv; have HOB := Lib.hid hob; have HSV := Lib.hid hsv; clear hob hsv)
    | (refine wpList_store_row rfl 26 (.tmp 2) (.tmp 41) rfl (g + 1) rfl _ rfl 26 _ HZ3.out rfl (by kernel_rfl) (by simp [Value.oneCell']) ?_; intro x1 hx1 gx1 sx1; have HXx := Lib.hid (HX3.out.grown gx1 (by simp)))
    | (refine wpList_store_row rfl 28 (.tmp 3) (.tmp 42) rfl (g + 2) rfl _ rfl 28 _ HXx.out rfl (by kernel_rfl) (by simp [Value.oneCell']) ?_; intro x2 hx2 gx2 sx2)
    | (refine wpList_load_row rfl 26 (.tmp 4) rfl (g + 3) rfl 26 _ _ _ HP2.out Try.underlying26 rfl (by kernel_rfl) ?_))
  have hgo := HG.out
  subst hgo
  refine bodyPost_ret (results_cc rfl _ (w.heap.size + 1) (w.heap.size + 2) 26 28 _ _ _ _ rfl (hx1.grown gx2 (by simp)) Try.underlying26 rfl (by kernel_rfl) rfl hx2 Try.underlying28 rfl (by kernel_rfl)) rfl ⟨⟨_, rfl, ⟨_, _, rfl, (own_grown (own_grown HOB.out gx1 (by omega)) gx2 (by omega)).mono (by omega), (own_grown (own_grown HSV.out gx1 (by omega)) gx2 (by omega)).mono (by omega)⟩⟩, (((((hB.trans (hB1.mono (by omega))).trans (hB2.mono (by omega))).trans (hB3.mono (by omega))).grown gx1 (by omega) (fun q hq => by cases hq; omega)).grown gx2 (by omega) (fun q hq => by cases hq; omega))⟩
set_option maxHeartbeats 4000000 in
set_option maxRecDepth 100000 in
theorem of_prio (ty fl st : Int) (A : Option Addr) (n cap : Nat) (L : List Int) (w : World) (hR : BS w (.slice A n cap) L) (hln : L.length = n) (hb : Byt L) (hn : n ≤ 1099511627776) (hrg : rightB ty fl st n = true) (h9 : ¬ 9 < ty) (hmi : misB ty st = false) (e0 : (ty == 0) = false) (e1 : (ty == 1) = false) (e2 : (ty == 2) = true) (r : PP × (Int × Int × Int)) (hr : prioF ty st L = r) :
    Calls Try.prog 10 #[.agg (fC ty fl st (.slice A n cap))] w fun e w' => Ans w.heap.size (r) e w' ∧ Below w.heap.size w w' := by
  have HR := Lib.hid hR
  have HL := Lib.hid hln
  have HY := Lib.hid hb
  clear hR hln hb
  have HRG := Lib.hid hrg
  clear hrg
  have HMI := Lib.hid hmi
  clear hmi
  have HRR := Lib.hid hr
  clear hr
  obtain ⟨⟨qty, qst, qe, qf, qk, qbody, qco, qla, qmo, qcs, qn, qZ⟩, qb⟩ := r
  go_enter Try.func10, Try.ntmps10
  go_upto_region 2 with fail
  refine wp_forget (fun W => Below w.heap.size w W ∧ Hid (Blk W w.heap.size 32 (fC ty fl st (.slice A n cap))) ∧ Hid (Blk W (w.heap.size + 1) 26 zP) ∧ Hid (Blk W (w.heap.size + 2) 28 zB) ∧ Hid (Blk W (w.heap.size + 3) 26 (pB ty st)))
    ⟨by go_grown, Lib.hid ((((Blk.new _ _ _).alloc _).alloc _).alloc _), Lib.hid (((Blk.new_at (by simp only [World.size_alloc])).alloc _).alloc _), Lib.hid ((Blk.new_at (by simp only [World.size_alloc])).alloc _), Lib.hid (Blk.new_at (by simp only [World.size_alloc]))⟩ ?_
  rintro W ⟨hB, HF, HZ, HX, HP⟩
  have hBs := hB.size
  have hl3 := HP.out.lt
  have hl0 : w.heap.size < W.heap.size := by omega
  have f0 : W.cell? ⟨w.heap.size, 0, none⟩ = some (.int .i64 ty) := HF.out.cell 0
  have f1 : W.cell? ⟨w.heap.size, 1, none⟩ = some (.int .i64 fl) := HF.out.cell 1
  have f2 : W.cell? ⟨w.heap.size, 2, none⟩ = some (.int .i64 st) := HF.out.cell 2
  have f3 : W.cell? ⟨w.heap.size, 3, none⟩ = some (.slice A n cap) := HF.out.cell 3
  have HRW := Lib.hid (HR.out.below hB (Nat.le_refl _))
  generalize hg : w.heap.size = g at *
  have HG := Lib.hid hg
  clear hg
  go_wp2_with (first
    | (go_at_call 19; refine (right_any ty fl st A n cap _).mono ?_; rintro e w1 ⟨rfl, hB1⟩; have hS1 := hB1.size; have HF1 := Lib.hid (HF.out.below hB1 (by omega)); have HP1 := Lib.hid (HP.out.below hB1 (by omega)); have HZ1 := Lib.hid (HZ.out.below hB1 (by omega)); have HX1 := Lib.hid (HX.out.below hB1 (by omega)); have f10 : w1.cell? ⟨g, 0, none⟩ = some (.int .i64 ty) := HF1.out.cell 0; have f11 : w1.cell? ⟨g, 1, none⟩ = some (.int .i64 fl) := HF1.out.cell 1; have f12 : w1.cell? ⟨g, 2, none⟩ = some (.int .i64 st) := HF1.out.cell 2; have f13 : w1.cell? ⟨g, 3, none⟩ = some (.slice A n cap) := HF1.out.cell 3; rw [HRG.out])
    | (go_at_call 20; refine (mis_any ty fl st _ _).mono ?_; rintro e w2 ⟨rfl, hB2⟩; have hS2 := hB2.size; have HF2 := Lib.hid (HF1.out.below hB2 (by omega)); have HP2 := Lib.hid (HP1.out.below hB2 (by omega)); have HZ2 := Lib.hid (HZ1.out.below hB2 (by omega)); have HX2 := Lib.hid (HX1.out.below hB2 (by omega)); have f20 : w2.cell? ⟨g, 0, none⟩ = some (.int .i64 ty) := HF2.out.cell 0; have f21 : w2.cell? ⟨g, 1, none⟩ = some (.int .i64 fl) := HF2.out.cell 1; have f22 : w2.cell? ⟨g, 2, none⟩ = some (.int .i64 st) := HF2.out.cell 2; have f23 : w2.cell? ⟨g, 3, none⟩ = some (.slice A n cap) := HF2.out.cell 3; rw [HMI.out])
    | (go_at_call 24; refine (prio_any ty fl st _ L _ (HRW.out.below (hB1.trans (hB2.mono (by omega))) (Nat.le_refl _)) HY.out (by rw [HL.out]; exact hn)).mono ?_; rintro e w3 ⟨hans, hB3⟩; have hS3 := hB3.size; have HF3 := Lib.hid (HF2.out.below hB3 (by omega)); have HP3 := Lib.hid (HP2.out.below hB3 (by omega)); have HZ3 := Lib.hid (HZ2.out.below hB3 (by omega)); have HX3 := Lib.hid (HX2.out.below hB3 (by omega)); have f30 : w3.cell? ⟨g, 0, none⟩ = some (.int .i64 ty) := HF3.out.cell 0; have f31 : w3.cell? ⟨g, 1, none⟩ = some (.int .i64 fl) := HF3.out.cell 1; have f32 : w3.cell? ⟨g, 2, none⟩ = some (.int .i64 st) := HF3.out.cell 2; have f33 : w3.cell? ⟨g, 3, none⟩ = some (.slice A n cap) := HF3.out.cell 3; rw [HRR.out] at hans; obtain ⟨v, rfl, vb, vs, rfl, hob, hsv⟩ := hans; obtain ⟨Ab, cb, rfl⟩ := own_form hob; obtain ⟨As, cs, rfl⟩ := own_form hsv; have HOB := Lib.hid hob; have HSV := Lib.hid hsv; clear hob hsv)
    | (refine wpList_store_row rfl 26 (.tmp 2) (.tmp 48) rfl (g + 1) rfl _ rfl 26 _ HZ3.out rfl (by kernel_rfl) (by simp [Value.oneCell']) ?_; intro x1 hx1 gx1 sx1; have HXx := Lib.hid (HX3.out.grown gx1 (by simp)))
    | (refine wpList_store_row rfl 28 (.tmp 3) (.tmp 49) rfl (g + 2) rfl _ rfl 28 _ HXx.out rfl (by kernel_rfl) (by simp [Value.oneCell']) ?_; intro x2 hx2 gx2 sx2)
    | (refine wpList_load_row rfl 26 (.tmp 4) rfl (g + 3) rfl 26 _ _ _ HP2.out Try.underlying26 rfl (by kernel_rfl) ?_))
  have hgo := HG.out
  subst hgo
  refine bodyPost_ret (results_cc rfl _ (w.heap.size + 1) (w.heap.size + 2) 26 28 _ _ _ _ rfl (hx1.grown gx2 (by simp)) Try.underlying26 rfl (by kernel_rfl) rfl hx2 Try.underlying28 rfl (by kernel_rfl)) rfl ⟨⟨_, rfl, ⟨_, _, rfl, (own_grown (own_grown HOB.out gx1 (by omega)) gx2 (by omega)).mono (by omega), (own_grown (own_grown HSV.out gx1 (by omega)) gx2 (by omega)).mono (by omega)⟩⟩, (((((hB.trans (hB1.mono (by omega))).trans (hB2.mono (by omega))).trans (hB3.mono (by omega))).grown gx1 (by omega) (fun q hq => by cases hq; omega)).grown gx2 (by omega) (fun q hq => by cases hq; omega))⟩
set_option maxHeartbeats 4000000 in
set_option maxRecDepth 100000 in
theorem of_sett (ty fl st : Int) (A : Option Addr) (n cap : Nat) (L : List Int) (w : World) (hR : BS w (.slice A n cap) L) (hln : L.length = n) (hb : Byt L) (hn : n ≤ 1099511627776) (hrg : rightB ty fl st n = true) (h9 : ¬ 9 < ty) (hmi : misB ty st = false) (e0 : (ty == 0) = false) (e1 : (ty == 1) = false) (e2 : (ty == 2) = false) (e3 : (ty == 3) = false) (e4 : (ty == 4) = true) (r : PP × (Int × Int × Int)) (hr : setF ty fl st L = r) :
    Calls Try.prog 10 #[.agg (fC ty fl st (.slice A n cap))] w fun e w' => Ans w.heap.size (r) e w' ∧ Below w.heap.size w w' := by
  have HR := Lib.hid hR
  have HL := Lib.hid hln
  have HY := Lib.hid hb
  clear hR hln hb
  have HRG := Lib.hid hrg
  clear hrg
  have HMI := Lib.hid hmi
  clear hmi
  have HRR := Lib.hid hr
  clear hr
  obtain ⟨⟨qty, qst, qe, qf, qk, qbody, qco, qla, qmo, qcs, qn, qZ⟩, qb⟩ := r
  go_enter Try.func10, Try.ntmps10
  go_upto_region 2 with fail
  refine wp_forget (fun W => Below w.heap.size w W ∧ Hid (Blk W w.heap.size 32 (fC ty fl st (.slice A n cap))) ∧ Hid (Blk W (w.heap.size + 1) 26 zP) ∧ Hid (Blk W (w.heap.size + 2) 28 zB) ∧ Hid (Blk W (w.heap.size + 3) 26 (pB ty st)))
    ⟨by go_grown, Lib.hid ((((Blk.new _ _ _).alloc _).alloc _).alloc _), Lib.hid (((Blk.new_at (by simp only [World.size_alloc])).alloc _).alloc _), Lib.hid ((Blk.new_at (by simp only [World.size_alloc])).alloc _), Lib.hid (Blk.new_at (by simp only [World.size_alloc]))⟩ ?_
  rintro W ⟨hB, HF, HZ, HX, HP⟩
  have hBs := hB.size
  have hl3 := HP.out.lt
  have hl0 : w.heap.size < W.heap.size := by omega
  have f0 : W.cell? ⟨w.heap.size, 0, none⟩ = some (.int .i64 ty) := HF.out.cell 0
  have f1 : W.cell? ⟨w.heap.size, 1, none⟩ = some (.int .i64 fl) := HF.out.cell 1
  have f2 : W.cell? ⟨w.heap.size, 2, none⟩ = some (.int .i64 st) := HF.out.cell 2
  have f3 : W.cell? ⟨w.heap.size, 3, none⟩ = some (.slice A n cap) := HF.out.cell 3
  have HRW := Lib.hid (HR.out.below hB (Nat.le_refl _))
  generalize hg : w.heap.size = g at *
  have HG := Lib.hid hg
  clear hg
  go_wp2_with (first
    | (go_at_call 19; refine (right_any ty fl st A n cap _).mono ?_; rintro e w1 ⟨rfl, hB1⟩; have hS1 := hB1.size; have HF1 := Lib.hid (HF.out.below hB1 (by omega)); have HP1 := Lib.hid (HP.out.below hB1 (by omega)); have HZ1 := Lib.hid (HZ.out.below hB1 (by omega)); have HX1 := Lib.hid (HX.out.below hB1 (by omega)); have f10 : w1.cell? ⟨g, 0, none⟩ = some (.int .i64 ty) := HF1.out.cell 0; have f11 : w1.cell? ⟨g, 1, none⟩ = some (.int .i64 fl) := HF1.out.cell 1; have f12 : w1.cell? ⟨g, 2, none⟩ = some (.int .i64 st) := HF1.out.cell 2; have f13 : w1.cell? ⟨g, 3, none⟩ = some (.slice A n cap) := HF1.out.cell 3; rw [HRG.out])
    | (go_at_call 20; refine (mis_any ty fl st _ _).mono ?_; rintro e w2 ⟨rfl, hB2⟩; have hS2 := hB2.size; have HF2 := Lib.hid (HF1.out.below hB2 (by omega)); have HP2 := Lib.hid (HP1.out.below hB2 (by omega)); have HZ2 := Lib.hid (HZ1.out.below hB2 (by omega)); have HX2 := Lib.hid (HX1.out.below hB2 (by omega)); have f20 : w2.cell? ⟨g, 0, none⟩ = some (.int .i64 ty) := HF2.out.cell 0; have f21 : w2.cell? ⟨g, 1, none⟩ = some (.int .i64 fl) := HF2.out.cell 1; have f22 : w2.cell? ⟨g, 2, none⟩ = some (.int .i64 st) := HF2.out.cell 2; have f23 : w2.cell? ⟨g, 3, none⟩ = some (.slice A n cap) := HF2.out.cell 3; rw [HMI.out])
    | (go_at_call 26; refine (sett_any ty fl st _ L _ (HRW.out.below (hB1.trans (hB2.mono (by omega))) (Nat.le_refl _)) HY.out (by rw [HL.out]; exact hn)).mono ?_; rintro e w3 ⟨hans, hB3⟩; have hS3 := hB3.size; have HF3 := Lib.hid (HF2.out.below hB3 (by omega)); have HP3 := Lib.hid (HP2.out.below hB3 (by omega)); have HZ3 := Lib.hid (HZ2.out.below hB3 (by omega)); have HX3 := Lib.hid (HX2.out.below hB3 (by omega)); have f30 : w3.cell? ⟨g, 0, none⟩ = some (.int .i64 ty) := HF3.out.cell 0; have f31 : w3.cell? ⟨g, 1, none⟩ = some (.int .i64 fl) := HF3.out.cell 1; have f32 : w3.cell? ⟨g, 2, none⟩ = some (.int .i64 st) := HF3.out.cell 2; have f33 : w3.cell? ⟨g, 3, none⟩ = some (.slice A n cap) := HF3.out.cell 3; rw [HRR.out] at hans; obtain ⟨v, rfl, vb, vs, rfl, hob, hsv⟩ := hans; obtain ⟨Ab, cb, rfl⟩ := own_form hob; obtain ⟨As, cs, rfl⟩ := own_form hsv; have HOB := Lib.hid hob; have HSV := Lib.hid hsv; clear hob hsv)
    | (refine wpList_store_row rfl 26 (.tmp 2) (.tmp 65) rfl (g + 1) rfl _ rfl 26 _ HZ3.out rfl (by kernel_rfl) (by simp [Value.oneCell']) ?_; intro x1 hx1 gx1 sx1; have HXx := Lib.hid (HX3.out.grown gx1 (by simp)))
    | (refine wpList_store_row rfl 28 (.tmp 3) (.tmp 66) rfl (g + 2) rfl _ rfl 28 _ HXx.out rfl (by kernel_rfl) (by simp [Value.oneCell']) ?_; intro x2 hx2 gx2 sx2)
    | (refine wpList_load_row rfl 26 (.tmp 4) rfl (g + 3) rfl 26 _ _ _ HP2.out Try.underlying26 rfl (by kernel_rfl) ?_))
  have hgo := HG.out
  subst hgo
  refine bodyPost_ret (results_cc rfl _ (w.heap.size + 1) (w.heap.size + 2) 26 28 _ _ _ _ rfl (hx1.grown gx2 (by simp)) Try.underlying26 rfl (by kernel_rfl) rfl hx2 Try.underlying28 rfl (by kernel_rfl)) rfl ⟨⟨_, rfl, ⟨_, _, rfl, (own_grown (own_grown HOB.out gx1 (by omega)) gx2 (by omega)).mono (by omega), (own_grown (own_grown HSV.out gx1 (by omega)) gx2 (by omega)).mono (by omega)⟩⟩, (((((hB.trans (hB1.mono (by omega))).trans (hB2.mono (by omega))).trans (hB3.mono (by omega))).grown gx1 (by omega) (fun q hq => by cases hq; omega)).grown gx2 (by omega) (fun q hq => by cases hq; omega))⟩
set_option maxHeartbeats 4000000 in
set_option maxRecDepth 100000 in
theorem of_wind (ty fl st : Int) (A : Option Addr) (n cap : Nat) (L : List Int) (w : World) (hR : BS w (.slice A n cap) L) (hln : L.length = n) (hb : Byt L) (hn : n ≤ 1099511627776) (hrg : rightB ty fl st n = true) (h9 : ¬ 9 < ty) (hmi : misB ty st = false) (e0 : (ty == 0) = false) (e1 : (ty == 1) = false) (e2 : (ty == 2) = false) (e3 : (ty == 3) = false) (e4 : (ty == 4) = false) (e6 : (ty == 6) = false) (e7 : (ty == 7) = false) (e8 : (ty == 8) = true) (r : PP × (Int × Int × Int)) (hr : windF ty st L = r) :
    Calls Try.prog 10 #[.agg (fC ty fl st (.slice A n cap))] w fun e w' => Ans w.heap.size (r) e w' ∧ Below w.heap.size w w' := by
  have HR := Lib.hid hR
  have HL := Lib.hid hln
  have HY := Lib.hid hb
  clear hR hln hb
  have HRG := Lib.hid hrg
  clear hrg
  have HMI := Lib.hid hmi
  clear hmi
  have HRR := Lib.hid hr
  clear hr
  obtain ⟨⟨qty, qst, qe, qf, qk, qbody, qco, qla, qmo, qcs, qn, qZ⟩, qb⟩ := r
  go_enter Try.func10, Try.ntmps10
  go_upto_region 2 with fail
  refine wp_forget (fun W => Below w.heap.size w W ∧ Hid (Blk W w.heap.size 32 (fC ty fl st (.slice A n cap))) ∧ Hid (Blk W (w.heap.size + 1) 26 zP) ∧ Hid (Blk W (w.heap.size + 2) 28 zB) ∧ Hid (Blk W (w.heap.size + 3) 26 (pB ty st)))
    ⟨by go_grown, Lib.hid ((((Blk.new _ _ _).alloc _).alloc _).alloc _), Lib.hid (((Blk.new_at (by simp only [World.size_alloc])).alloc _).alloc _), Lib.hid ((Blk.new_at (by simp only [World.size_alloc])).alloc _), Lib.hid (Blk.new_at (by simp only [World.size_alloc]))⟩ ?_
  rintro W ⟨hB, HF, HZ, HX, HP⟩
  have hBs := hB.size
  have hl3 := HP.out.lt
  have hl0 : w.heap.size < W.heap.size := by omega
  have f0 : W.cell? ⟨w.heap.size, 0, none⟩ = some (.int .i64 ty) := HF.out.cell 0
  have f1 : W.cell? ⟨w.heap.size, 1, none⟩ = some (.int .i64 fl) := HF.out.cell 1
  have f2 : W.cell? ⟨w.heap.size, 2, none⟩ = some (.int .i64 st) := HF.out.cell 2
  have f3 : W.cell? ⟨w.heap.size, 3, none⟩ = some (.slice A n cap) := HF.out.cell 3
  have HRW := Lib.hid (HR.out.below hB (Nat.le_refl _))
  generalize hg : w.heap.size = g at *
  have HG := Lib.hid hg
  clear hg
  go_wp2_with (first
    | (go_at_call 19; refine (right_any ty fl st A n cap _).mono ?_; rintro e w1 ⟨rfl, hB1⟩; have hS1 := hB1.size; have HF1 := Lib.hid (HF.out.below hB1 (by omega)); have HP1 := Lib.hid (HP.out.below hB1 (by omega)); have HZ1 := Lib.hid (HZ.out.below hB1 (by omega)); have HX1 := Lib.hid (HX.out.below hB1 (by omega)); have f10 : w1.cell? ⟨g, 0, none⟩ = some (.int .i64 ty) := HF1.out.cell 0; have f11 : w1.cell? ⟨g, 1, none⟩ = some (.int .i64 fl) := HF1.out.cell 1; have f12 : w1.cell? ⟨g, 2, none⟩ = some (.int .i64 st) := HF1.out.cell 2; have f13 : w1.cell? ⟨g, 3, none⟩ = some (.slice A n cap) := HF1.out.cell 3; rw [HRG.out])
    | (go_at_call 20; refine (mis_any ty fl st _ _).mono ?_; rintro e w2 ⟨rfl, hB2⟩; have hS2 := hB2.size; have HF2 := Lib.hid (HF1.out.below hB2 (by omega)); have HP2 := Lib.hid (HP1.out.below hB2 (by omega)); have HZ2 := Lib.hid (HZ1.out.below hB2 (by omega)); have HX2 := Lib.hid (HX1.out.below hB2 (by omega)); have f20 : w2.cell? ⟨g, 0, none⟩ = some (.int .i64 ty) := HF2.out.cell 0; have f21 : w2.cell? ⟨g, 1, none⟩ = some (.int .i64 fl) := HF2.out.cell 1; have f22 : w2.cell? ⟨g, 2, none⟩ = some (.int .i64 st) := HF2.out.cell 2; have f23 : w2.cell? ⟨g, 3, none⟩ = some (.slice A n cap) := HF2.out.cell 3; rw [HMI.out])
    | (go_at_call 29; refine (wind_any ty fl st _ L _ (HRW.out.below (hB1.trans (hB2.mono (by omega))) (Nat.le_refl _)) HY.out (by rw [HL.out]; exact hn)).mono ?_; rintro e w3 ⟨hans, hB3⟩; have hS3 := hB3.size; have HF3 := Lib.hid (HF2.out.below hB3 (by omega)); have HP3 := Lib.hid (HP2.out.below hB3 (by omega)); have HZ3 := Lib.hid (HZ2.out.below hB3 (by omega)); have HX3 := Lib.hid (HX2.out.below hB3 (by omega)); have f30 : w3.cell? ⟨g, 0, none⟩ = some (.int .i64 ty) := HF3.out.cell 0; have f31 : w3.cell? ⟨g, 1, none⟩ = some (.int .i64 fl) := HF3.out.cell 1; have f32 : w3.cell? ⟨g, 2, none⟩ = some (.int .i64 st) := HF3.out.cell 2; have f33 : w3.cell? ⟨g, 3, none⟩ = some (.slice A n cap) := HF3.out.cell 3; rw [HRR.out] at hans; obtain ⟨v, rfl, vb, vs, rfl, hob, hsv⟩ := hans; obtain ⟨Ab, cb, rfl⟩ := own_form hob; obtain ⟨As, cs, rfl⟩ := own_form hsv; have HOB := Lib.hid hob; have HSV := Lib.hid hsv; clear hob hsv)
    | (refine wpList_store_row rfl 26 (.tmp 2) (.tmp 105) rfl (g + 1) rfl _ rfl 26 _ HZ3.out rfl (by kernel_rfl) (by simp [Value.oneCell']) ?_; intro x1 hx1 gx1 sx1; have HXx := Lib.hid (HX3.out.grown gx1 (by simp)))
    | (refine wpList_store_row rfl 28 (.tmp 3) (.tmp 106) rfl (g + 2) rfl _ rfl 28 _ HXx.out rfl (by kernel_rfl) (by simp [Value.oneCell']) ?_; intro x2 hx2 gx2 sx2)
    | (refine wpList_load_row rfl 26 (.tmp 4) rfl (g + 3) rfl 26 _ _ _ HP2.out Try.underlying26 rfl (by kernel_rfl) ?_))
  have hgo := HG.out
  subst hgo
  refine bodyPost_ret (results_cc rfl _ (w.heap.size + 1) (w.heap.size + 2) 26 28 _ _ _ _ rfl (hx1.grown gx2 (by simp)) Try.underlying26 rfl (by kernel_rfl) rfl hx2 Try.underlying28 rfl (by kernel_rfl)) rfl ⟨⟨_, rfl, ⟨_, _, rfl, (own_grown (own_grown HOB.out gx1 (by omega)) gx2 (by omega)).mono (by omega), (own_grown (own_grown HSV.out gx1 (by omega)) gx2 (by omega)).mono (by omega)⟩⟩, (((((hB.trans (hB1.mono (by omega))).trans (hB2.mono (by omega))).trans (hB3.mono (by omega))).grown gx1 (by omega) (fun q hq => by cases hq; omega)).grown gx2 (by omega) (fun q hq => by cases hq; omega))⟩
end Go.Proofs.Ytolpfbdklcjlkaa
