/- PRIORITY, WINDOW_UPDATE. -/
import Derived.Test.YtolpfbdklcjlkaaSpec
namespace Go.Proofs.Ytolpfbdklcjlkaa
open Go.ChangeShapes Go.WideShapes Go.ChangeAt Go.RowKit
set_option linter.unusedVariables false
set_option linter.unusedSimpArgs false
set_option maxHeartbeats 4000000 in
set_option maxRecDepth 100000 in
theorem prio_len (ty fl st : Int) (A : Option Addr) (n cap : Nat) (L : List Int) (w : World) (hR : BS w (.slice A n cap) L) (hln : L.length = n) (hb : Byt L) (hn : n ≤ 1099511627776) (h5 : n ≠ 5) :
    Calls Try.prog 24 #[.agg (fC ty fl st (.slice A n cap)), .agg (pB ty st)] w fun e w' => Ans w.heap.size (PP.zero, sB 6 st) e w' ∧ Below w.heap.size w w' := by
  have HR := Lib.hid hR
  have HL := Lib.hid hln
  have HY := Lib.hid hb
  clear hR hln hb
  have h5i : ((n : Int) == 5) = false := by simp; omega
  have h5j : ((n : Int) != 5) = true := by simp; omega
  go_enter Try.func24, Try.ntmps24
  go_upto_region 1 with fail
  refine wp_forget (fun W => Below w.heap.size w W ∧ Hid (Blk W w.heap.size 32 (fC ty fl st (.slice A n cap))) ∧ Hid (Blk W (w.heap.size + 1) 26 (pB ty st)) ∧ Hid (Blk W (w.heap.size + 2) 26 zP) ∧ Hid (Blk W (w.heap.size + 3) 28 zB))
    ⟨by go_grown, Lib.hid ((((Blk.new _ _ _).alloc _).alloc _).alloc _), Lib.hid (((Blk.new_at (by simp only [World.size_alloc])).alloc _).alloc _), Lib.hid ((Blk.new_at (by simp only [World.size_alloc])).alloc _), Lib.hid (Blk.new_at (by simp only [World.size_alloc]))⟩ ?_
  rintro W ⟨hB, HF, HP, HZ, HX⟩
  have hBs := hB.size
  have hl3 := HX.out.lt
  have hl2 : w.heap.size + 2 < W.heap.size := by omega
  have hl1 : w.heap.size + 1 < W.heap.size := by omega
  have hl0 : w.heap.size < W.heap.size := by omega
  have f0 : W.cell? ⟨w.heap.size, 0, none⟩ = some (.int .i64 ty) := HF.out.cell 0
  have f1 : W.cell? ⟨w.heap.size, 1, none⟩ = some (.int .i64 fl) := HF.out.cell 1
  have f2 : W.cell? ⟨w.heap.size, 2, none⟩ = some (.int .i64 st) := HF.out.cell 2
  have f3 : W.cell? ⟨w.heap.size, 3, none⟩ = some (.slice A n cap) := HF.out.cell 3
  have HRW := Lib.hid (HR.out.below hB (Nat.le_refl _))
  generalize hg : w.heap.size = g at *
  have HG := Lib.hid hg
  clear hg
  go_wp2_with (first
    | (go_at_call 39; refine (stream_any 6 st _).mono ?_; rintro e w1 ⟨rfl, hB1⟩; have hS1 := hB1.size; have HF1 := Lib.hid (HF.out.below hB1 (by omega)); have HP1 := Lib.hid (HP.out.below hB1 (by omega)); have HZ1 := Lib.hid (HZ.out.below hB1 (by omega)); have HX1 := Lib.hid (HX.out.below hB1 (by omega)); have f10 : w1.cell? ⟨g, 0, none⟩ = some (.int .i64 ty) := HF1.out.cell 0; have f11 : w1.cell? ⟨g, 1, none⟩ = some (.int .i64 fl) := HF1.out.cell 1; have f12 : w1.cell? ⟨g, 2, none⟩ = some (.int .i64 st) := HF1.out.cell 2; have f13 : w1.cell? ⟨g, 3, none⟩ = some (.slice A n cap) := HF1.out.cell 3)
    | (refine wpList_store_row rfl 26 (.tmp 4) (.tmp 10) rfl (g + 2) rfl zP rfl 26 _ HZ1.out rfl (by kernel_rfl) (by simp [Value.oneCell']) ?_; intro x1 hx1 gx1 sx1; have HXx := Lib.hid (HX1.out.grown gx1 (by simp)))
    | (refine wpList_store_row rfl 28 (.tmp 5) (.tmp 13) rfl (g + 3) rfl #[.int .i64 1, .int .i64 6, .int .i64 st] rfl 28 _ HXx.out rfl (by kernel_rfl) (by simp [Value.oneCell']) ?_; intro x2 hx2 gx2 sx2))
  have hgo := HG.out
  subst hgo
  refine bodyPost_ret (results_cc rfl _ (w.heap.size + 2) (w.heap.size + 3) 26 28 _ _ _ _ rfl (hx1.grown gx2 (by simp)) Try.underlying26 rfl (by kernel_rfl) rfl hx2 Try.underlying28 rfl (by kernel_rfl)) rfl ⟨⟨_, rfl, isP_zero _ _⟩, (((hB.trans (hB1.mono (by omega))).grown gx1 (by omega) (fun q hq => by cases hq; omega)).grown gx2 (by omega) (fun q hq => by cases hq; omega))⟩
set_option maxHeartbeats 4000000 in
set_option maxRecDepth 100000 in
theorem prio_eq (ty fl st : Int) (A : Option Addr) (n cap : Nat) (L : List Int) (w : World) (hR : BS w (.slice A n cap) L) (hln : L.length = n) (hb : Byt L) (hn : n ≤ 1099511627776) (h5 : n = 5) (hne : (num L 0 % 2147483648 == st) = true) :
    Calls Try.prog 24 #[.agg (fC ty fl st (.slice A n cap)), .agg (pB ty st)] w fun e w' => Ans w.heap.size (PP.zero, sB 1 st) e w' ∧ Below w.heap.size w w' := by
  have HR := Lib.hid hR
  have HL := Lib.hid hln
  have HY := Lib.hid hb
  clear hR hln hb
  have h5j : ((n : Int) != 5) = false := by simp; omega
  have h4L : 4 ≤ L.length := by rw [HL.out]; omega
  clear h5
  go_enter Try.func24, Try.ntmps24
  go_upto_region 1 with fail
  refine wp_forget (fun W => Below w.heap.size w W ∧ Hid (Blk W w.heap.size 32 (fC ty fl st (.slice A n cap))) ∧ Hid (Blk W (w.heap.size + 1) 26 (pB ty st)) ∧ Hid (Blk W (w.heap.size + 2) 26 zP) ∧ Hid (Blk W (w.heap.size + 3) 28 zB))
    ⟨by go_grown, Lib.hid ((((Blk.new _ _ _).alloc _).alloc _).alloc _), Lib.hid (((Blk.new_at (by simp only [World.size_alloc])).alloc _).alloc _), Lib.hid ((Blk.new_at (by simp only [World.size_alloc])).alloc _), Lib.hid (Blk.new_at (by simp only [World.size_alloc]))⟩ ?_
  rintro W ⟨hB, HF, HP, HZ, HX⟩
  have hBs := hB.size
  have hl3 := HX.out.lt
  have hl2 : w.heap.size + 2 < W.heap.size := by omega
  have hl1 : w.heap.size + 1 < W.heap.size := by omega
  have hl0 : w.heap.size < W.heap.size := by omega
  have f0 : W.cell? ⟨w.heap.size, 0, none⟩ = some (.int .i64 ty) := HF.out.cell 0
  have f1 : W.cell? ⟨w.heap.size, 1, none⟩ = some (.int .i64 fl) := HF.out.cell 1
  have f2 : W.cell? ⟨w.heap.size, 2, none⟩ = some (.int .i64 st) := HF.out.cell 2
  have f3 : W.cell? ⟨w.heap.size, 3, none⟩ = some (.slice A n cap) := HF.out.cell 3
  have HRW := Lib.hid (HR.out.below hB (Nat.le_refl _))
  generalize hg : w.heap.size = g at *
  have HG := Lib.hid hg
  clear hg
  go_wp2_with fail
  go_region_held3 (fun wx => wx.cell? ⟨g, 2, none⟩ = some (.int .i64 st) ∧ wx.cell? ⟨g, 3, none⟩ = some (.slice A n cap)) (refine ⟨?_, ?_⟩ <;> first | assumption | go_simp) ((go_at_call 28; refine (bare_any _ L _ (HRW.out.below (by go_grown) (Nat.le_refl _)) HY.out h4L).mono ?_; rintro e w1 ⟨rfl, hD1⟩; have hB1 : Below W.heap.size W w1 := Below.trans (by go_grown) hD1; have hS1 := hB1.size; have HF1 := Lib.hid (HF.out.below hB1 (by omega)); have HP1 := Lib.hid (HP.out.below hB1 (by omega)); have HZ1 := Lib.hid (HZ.out.below hB1 (by omega)); have HX1 := Lib.hid (HX.out.below hB1 (by omega)); have f10 : w1.cell? ⟨g, 0, none⟩ = some (.int .i64 ty) := HF1.out.cell 0; have f11 : w1.cell? ⟨g, 1, none⟩ = some (.int .i64 fl) := HF1.out.cell 1; have f12 : w1.cell? ⟨g, 2, none⟩ = some (.int .i64 st) := HF1.out.cell 2; have f13 : w1.cell? ⟨g, 3, none⟩ = some (.slice A n cap) := HF1.out.cell 3))
  go_wp2_with (first
    | (go_at_call 39; refine (stream_any 1 st _).mono ?_; rintro e w2 ⟨rfl, hB2⟩; have hS2 := hB2.size; have HF2 := Lib.hid (HF1.out.below hB2 (by omega)); have HP2 := Lib.hid (HP1.out.below hB2 (by omega)); have HZ2 := Lib.hid (HZ1.out.below hB2 (by omega)); have HX2 := Lib.hid (HX1.out.below hB2 (by omega)); have f20 : w2.cell? ⟨g, 0, none⟩ = some (.int .i64 ty) := HF2.out.cell 0; have f21 : w2.cell? ⟨g, 1, none⟩ = some (.int .i64 fl) := HF2.out.cell 1; have f22 : w2.cell? ⟨g, 2, none⟩ = some (.int .i64 st) := HF2.out.cell 2; have f23 : w2.cell? ⟨g, 3, none⟩ = some (.slice A n cap) := HF2.out.cell 3)
    | (refine wpList_store_row rfl 26 (.tmp 4) (.tmp 20) rfl (g + 2) rfl zP rfl 26 _ HZ2.out rfl (by kernel_rfl) (by simp [Value.oneCell']) ?_; intro x1 hx1 gx1 sx1; have HXx := Lib.hid (HX2.out.grown gx1 (by simp)))
    | (refine wpList_store_row rfl 28 (.tmp 5) (.tmp 23) rfl (g + 3) rfl #[.int .i64 1, .int .i64 1, .int .i64 st] rfl 28 _ HXx.out rfl (by kernel_rfl) (by simp [Value.oneCell']) ?_; intro x2 hx2 gx2 sx2))
  have hgo := HG.out
  subst hgo
  refine bodyPost_ret (results_cc rfl _ (w.heap.size + 2) (w.heap.size + 3) 26 28 _ _ _ _ rfl (hx1.grown gx2 (by simp)) Try.underlying26 rfl (by kernel_rfl) rfl hx2 Try.underlying28 rfl (by kernel_rfl)) rfl ⟨⟨_, rfl, isP_zero _ _⟩, ((((hB.trans (hB1.mono (by omega))).trans (hB2.mono (by omega))).grown gx1 (by omega) (fun q hq => by cases hq; omega)).grown gx2 (by omega) (fun q hq => by cases hq; omega))⟩
set_option maxHeartbeats 4000000 in
set_option maxRecDepth 100000 in
theorem prio_ok (ty fl st : Int) (A : Option Addr) (n cap : Nat) (L : List Int) (w : World) (hR : BS w (.slice A n cap) L) (hln : L.length = n) (hb : Byt L) (hn : n ≤ 1099511627776) (h5 : n = 5) (hne : (num L 0 % 2147483648 == st) = false) :
    Calls Try.prog 24 #[.agg (fC ty fl st (.slice A n cap)), .agg (pB ty st)] w fun e w' => Ans w.heap.size (PP.base ty st, okB) e w' ∧ Below w.heap.size w w' := by
  have HR := Lib.hid hR
  have HL := Lib.hid hln
  have HY := Lib.hid hb
  clear hR hln hb
  have h5j : ((n : Int) != 5) = false := by simp; omega
  have h4L : 4 ≤ L.length := by rw [HL.out]; omega
  clear h5
  go_enter Try.func24, Try.ntmps24
  go_upto_region 1 with fail
  refine wp_forget (fun W => Below w.heap.size w W ∧ Hid (Blk W w.heap.size 32 (fC ty fl st (.slice A n cap))) ∧ Hid (Blk W (w.heap.size + 1) 26 (pB ty st)) ∧ Hid (Blk W (w.heap.size + 2) 26 zP) ∧ Hid (Blk W (w.heap.size + 3) 28 zB))
    ⟨by go_grown, Lib.hid ((((Blk.new _ _ _).alloc _).alloc _).alloc _), Lib.hid (((Blk.new_at (by simp only [World.size_alloc])).alloc _).alloc _), Lib.hid ((Blk.new_at (by simp only [World.size_alloc])).alloc _), Lib.hid (Blk.new_at (by simp only [World.size_alloc]))⟩ ?_
  rintro W ⟨hB, HF, HP, HZ, HX⟩
  have hBs := hB.size
  have hl3 := HX.out.lt
  have hl2 : w.heap.size + 2 < W.heap.size := by omega
  have hl1 : w.heap.size + 1 < W.heap.size := by omega
  have hl0 : w.heap.size < W.heap.size := by omega
  have f0 : W.cell? ⟨w.heap.size, 0, none⟩ = some (.int .i64 ty) := HF.out.cell 0
  have f1 : W.cell? ⟨w.heap.size, 1, none⟩ = some (.int .i64 fl) := HF.out.cell 1
  have f2 : W.cell? ⟨w.heap.size, 2, none⟩ = some (.int .i64 st) := HF.out.cell 2
  have f3 : W.cell? ⟨w.heap.size, 3, none⟩ = some (.slice A n cap) := HF.out.cell 3
  have HRW := Lib.hid (HR.out.below hB (Nat.le_refl _))
  generalize hg : w.heap.size = g at *
  have HG := Lib.hid hg
  clear hg
  go_wp2_with fail
  go_region_held3 (fun wx => wx.cell? ⟨g, 2, none⟩ = some (.int .i64 st) ∧ wx.cell? ⟨g, 3, none⟩ = some (.slice A n cap)) (refine ⟨?_, ?_⟩ <;> first | assumption | go_simp) ((go_at_call 28; refine (bare_any _ L _ (HRW.out.below (by go_grown) (Nat.le_refl _)) HY.out h4L).mono ?_; rintro e w1 ⟨rfl, hD1⟩; have hB1 : Below W.heap.size W w1 := Below.trans (by go_grown) hD1; have hS1 := hB1.size; have HF1 := Lib.hid (HF.out.below hB1 (by omega)); have HP1 := Lib.hid (HP.out.below hB1 (by omega)); have HZ1 := Lib.hid (HZ.out.below hB1 (by omega)); have HX1 := Lib.hid (HX.out.below hB1 (by omega)); have f10 : w1.cell? ⟨g, 0, none⟩ = some (.int .i64 ty) := HF1.out.cell 0; have f11 : w1.cell? ⟨g, 1, none⟩ = some (.int .i64 fl) := HF1.out.cell 1; have f12 : w1.cell? ⟨g, 2, none⟩ = some (.int .i64 st) := HF1.out.cell 2; have f13 : w1.cell? ⟨g, 3, none⟩ = some (.slice A n cap) := HF1.out.cell 3))
  have HPe := HP1
  have HZe := HZ1
  have HXe := HX1
  have hBe : Below g w w1 := (hB.trans (hB1.mono (by omega)))
  go_wp2_with (first
    | (refine wpList_load_row rfl 26 (.tmp 3) rfl (g + 1) rfl 26 _ _ _ HPe.out Try.underlying26 rfl (by kernel_rfl) ?_)
    | (refine wpList_store_row rfl 26 (.tmp 4) (.tmp 24) rfl (g + 2) rfl (pB ty st) rfl 26 _ HZe.out rfl (by kernel_rfl) (by simp [Value.oneCell']) ?_; intro x1 hx1 gx1 sx1; have HXx := Lib.hid (HXe.out.grown gx1 (by simp)))
    | (refine wpList_store_row rfl 28 (.tmp 5) (.tmp 25) rfl (g + 3) rfl zB rfl 28 _ HXx.out rfl (by kernel_rfl) (by simp [Value.oneCell']) ?_; intro x2 hx2 gx2 sx2))
  have hgo := HG.out
  subst hgo
  refine bodyPost_ret (results_cc rfl _ (w.heap.size + 2) (w.heap.size + 3) 26 28 _ _ _ _ rfl (hx1.grown gx2 (by simp)) Try.underlying26 rfl (by kernel_rfl) rfl hx2 Try.underlying28 rfl (by kernel_rfl)) rfl ⟨⟨_, rfl, isP_base _ _ _ _⟩, ((hBe.grown gx1 (by omega) (fun q hq => by cases hq; omega)).grown gx2 (by omega) (fun q hq => by cases hq; omega))⟩
set_option maxHeartbeats 4000000 in
set_option maxRecDepth 100000 in
theorem wind_len (ty fl st : Int) (A : Option Addr) (n cap : Nat) (L : List Int) (w : World) (hR : BS w (.slice A n cap) L) (hln : L.length = n) (hb : Byt L) (hn : n ≤ 1099511627776) (h4 : n ≠ 4) :
    Calls Try.prog 29 #[.agg (fC ty fl st (.slice A n cap)), .agg (pB ty st)] w fun e w' => Ans w.heap.size (PP.zero, cB 6) e w' ∧ Below w.heap.size w w' := by
  have HR := Lib.hid hR
  have HL := Lib.hid hln
  have HY := Lib.hid hb
  clear hR hln hb
  have h4j : ((n : Int) != 4) = true := by simp; omega
  go_enter Try.func29, Try.ntmps29
  go_upto_region 1 with fail
  refine wp_forget (fun W => Below w.heap.size w W ∧ Hid (Blk W w.heap.size 32 (fC ty fl st (.slice A n cap))) ∧ Hid (Blk W (w.heap.size + 1) 26 (pB ty st)) ∧ Hid (Blk W (w.heap.size + 2) 26 zP) ∧ Hid (Blk W (w.heap.size + 3) 28 zB))
    ⟨by go_grown, Lib.hid ((((Blk.new _ _ _).alloc _).alloc _).alloc _), Lib.hid (((Blk.new_at (by simp only [World.size_alloc])).alloc _).alloc _), Lib.hid ((Blk.new_at (by simp only [World.size_alloc])).alloc _), Lib.hid (Blk.new_at (by simp only [World.size_alloc]))⟩ ?_
  rintro W ⟨hB, HF, HP, HZ, HX⟩
  have hBs := hB.size
  have hl3 := HX.out.lt
  have hl2 : w.heap.size + 2 < W.heap.size := by omega
  have hl1 : w.heap.size + 1 < W.heap.size := by omega
  have hl0 : w.heap.size < W.heap.size := by omega
  have f0 : W.cell? ⟨w.heap.size, 0, none⟩ = some (.int .i64 ty) := HF.out.cell 0
  have f1 : W.cell? ⟨w.heap.size, 1, none⟩ = some (.int .i64 fl) := HF.out.cell 1
  have f2 : W.cell? ⟨w.heap.size, 2, none⟩ = some (.int .i64 st) := HF.out.cell 2
  have f3 : W.cell? ⟨w.heap.size, 3, none⟩ = some (.slice A n cap) := HF.out.cell 3
  have HRW := Lib.hid (HR.out.below hB (Nat.le_refl _))
  generalize hg : w.heap.size = g at *
  have HG := Lib.hid hg
  clear hg
  go_wp2_with (first
    | (go_at_call 21; refine (conn_any 6 _).mono ?_; rintro e w1 ⟨rfl, hB1⟩; have hS1 := hB1.size; have HF1 := Lib.hid (HF.out.below hB1 (by omega)); have HP1 := Lib.hid (HP.out.below hB1 (by omega)); have HZ1 := Lib.hid (HZ.out.below hB1 (by omega)); have HX1 := Lib.hid (HX.out.below hB1 (by omega)); have f10 : w1.cell? ⟨g, 0, none⟩ = some (.int .i64 ty) := HF1.out.cell 0; have f11 : w1.cell? ⟨g, 1, none⟩ = some (.int .i64 fl) := HF1.out.cell 1; have f12 : w1.cell? ⟨g, 2, none⟩ = some (.int .i64 st) := HF1.out.cell 2; have f13 : w1.cell? ⟨g, 3, none⟩ = some (.slice A n cap) := HF1.out.cell 3)
    | (refine wpList_store_row rfl 26 (.tmp 4) (.tmp 10) rfl (g + 2) rfl zP rfl 26 _ HZ1.out rfl (by kernel_rfl) (by simp [Value.oneCell']) ?_; intro x1 hx1 gx1 sx1; have HXx := Lib.hid (HX1.out.grown gx1 (by simp)))
    | (refine wpList_store_row rfl 28 (.tmp 5) (.tmp 11) rfl (g + 3) rfl #[.int .i64 2, .int .i64 (6), .int .i64 0] rfl 28 _ HXx.out rfl (by kernel_rfl) (by simp [Value.oneCell']) ?_; intro x2 hx2 gx2 sx2))
  have hgo := HG.out
  subst hgo
  refine bodyPost_ret (results_cc rfl _ (w.heap.size + 2) (w.heap.size + 3) 26 28 _ _ _ _ rfl (hx1.grown gx2 (by simp)) Try.underlying26 rfl (by kernel_rfl) rfl hx2 Try.underlying28 rfl (by kernel_rfl)) rfl ⟨⟨_, rfl, isP_zero _ _⟩, (((hB.trans (hB1.mono (by omega))).grown gx1 (by omega) (fun q hq => by cases hq; omega)).grown gx2 (by omega) (fun q hq => by cases hq; omega))⟩
set_option maxHeartbeats 4000000 in
set_option maxRecDepth 100000 in
theorem wind_ok (ty fl st : Int) (A : Option Addr) (n cap : Nat) (L : List Int) (w : World) (hR : BS w (.slice A n cap) L) (hln : L.length = n) (hb : Byt L) (hn : n ≤ 1099511627776) (h4 : n = 4) (m : Int) (hm : num L 0 % 2147483648 = m) (hpos : 0 < m) :
    Calls Try.prog 29 #[.agg (fC ty fl st (.slice A n cap)), .agg (pB ty st)] w fun e w' => Ans w.heap.size ({ PP.base ty st with mo := m }, okB) e w' ∧ Below w.heap.size w w' := by
  have HR := Lib.hid hR
  have HL := Lib.hid hln
  have HY := Lib.hid hb
  clear hR hln hb
  have h4j : ((n : Int) != 4) = false := by simp; omega
  have h4L : 4 ≤ L.length := by rw [HL.out]; omega
  clear h4
  have HM := Lib.hid hm
  clear hm
  go_enter Try.func29, Try.ntmps29
  go_upto_region 1 with fail
  refine wp_forget (fun W => Below w.heap.size w W ∧ Hid (Blk W w.heap.size 32 (fC ty fl st (.slice A n cap))) ∧ Hid (Blk W (w.heap.size + 1) 26 (pB ty st)) ∧ Hid (Blk W (w.heap.size + 2) 26 zP) ∧ Hid (Blk W (w.heap.size + 3) 28 zB))
    ⟨by go_grown, Lib.hid ((((Blk.new _ _ _).alloc _).alloc _).alloc _), Lib.hid (((Blk.new_at (by simp only [World.size_alloc])).alloc _).alloc _), Lib.hid ((Blk.new_at (by simp only [World.size_alloc])).alloc _), Lib.hid (Blk.new_at (by simp only [World.size_alloc]))⟩ ?_
  rintro W ⟨hB, HF, HP, HZ, HX⟩
  have hBs := hB.size
  have hl3 := HX.out.lt
  have hl2 : w.heap.size + 2 < W.heap.size := by omega
  have hl1 : w.heap.size + 1 < W.heap.size := by omega
  have hl0 : w.heap.size < W.heap.size := by omega
  have f0 : W.cell? ⟨w.heap.size, 0, none⟩ = some (.int .i64 ty) := HF.out.cell 0
  have f1 : W.cell? ⟨w.heap.size, 1, none⟩ = some (.int .i64 fl) := HF.out.cell 1
  have f2 : W.cell? ⟨w.heap.size, 2, none⟩ = some (.int .i64 st) := HF.out.cell 2
  have f3 : W.cell? ⟨w.heap.size, 3, none⟩ = some (.slice A n cap) := HF.out.cell 3
  have HRW := Lib.hid (HR.out.below hB (Nat.le_refl _))
  generalize hg : w.heap.size = g at *
  have HG := Lib.hid hg
  clear hg
  go_upto_region 4 with (go_at_call 28; refine (bare_any _ L _ HRW.out HY.out h4L).mono ?_; rintro e w1 ⟨rfl, hB1⟩; have hS1 := hB1.size; have HF1 := Lib.hid (HF.out.below hB1 (by omega)); have HP1 := Lib.hid (HP.out.below hB1 (by omega)); have HZ1 := Lib.hid (HZ.out.below hB1 (by omega)); have HX1 := Lib.hid (HX.out.below hB1 (by omega)); have f10 : w1.cell? ⟨g, 0, none⟩ = some (.int .i64 ty) := HF1.out.cell 0; have f11 : w1.cell? ⟨g, 1, none⟩ = some (.int .i64 fl) := HF1.out.cell 1; have f12 : w1.cell? ⟨g, 2, none⟩ = some (.int .i64 st) := HF1.out.cell 2; have f13 : w1.cell? ⟨g, 3, none⟩ = some (.slice A n cap) := HF1.out.cell 3; rw [HM.out]; have c8 : w1.cell? ⟨g + 1, 8, none⟩ = some (.int .i64 0) := HP1.out.cell 8; have z8 : w1.frozen? ⟨g + 1, 8, none⟩ = false := HP1.out.frozen 8)
  have HPe := Lib.hid (HP1.out.put 8 (.int .i64 m))
  have HZe := Lib.hid (HZ1.out.far (p := ⟨g + 1, 8, none⟩) (by simp) (.int .i64 m))
  have HXe := Lib.hid (HX1.out.far (p := ⟨g + 1, 8, none⟩) (by simp) (.int .i64 m))
  have HFe := Lib.hid (HF1.out.far (p := ⟨g + 1, 8, none⟩) (by simp) (.int .i64 m))
  have hBe : Below g w (w1.setCell ⟨g + 1, 8, none⟩ (.int .i64 m)) := (hB.trans (hB1.mono hBs)).setCell (by simp) _
  have hse : w1.heap.size ≤ (w1.setCell ⟨g + 1, 8, none⟩ (.int .i64 m)).heap.size := by simp only [World.size_setCell]; exact Nat.le_refl _
  refine wp_forget (fun we => Below g w we ∧ w1.heap.size ≤ we.heap.size ∧ Hid (Blk we g 32 (fC ty fl st (.slice A n cap))) ∧ Hid (Blk we (g + 1) 26 #[.int .i64 ty, .int .i64 st, .bool false, .bool false, .bool false, .slice none 0 0, .int .i64 0, .int .i64 0, .int .i64 m, .int .i64 0, .slice none 0 0]) ∧ Hid (Blk we (g + 2) 26 zP) ∧ Hid (Blk we (g + 3) 28 zB)) ⟨hBe, hse, HFe, HPe, HZe, HXe⟩ ?_
  clear HPe HZe HXe HFe hBe hse
  rintro we ⟨hBe, hse, HFe, HPe, HZe, HXe⟩
  have m0 : we.cell? ⟨g + 1, 8, none⟩ = some (.int .i64 m) := HPe.out.cell 8
  have e2 : we.cell? ⟨g, 2, none⟩ = some (.int .i64 st) := HFe.out.cell 2
  go_wp2_with (first
    | (refine wpList_load_row rfl 26 (.tmp 3) rfl (g + 1) rfl 26 _ _ _ HPe.out Try.underlying26 rfl (by kernel_rfl) ?_)
    | (refine wpList_store_row rfl 26 (.tmp 4) (.tmp 19) rfl (g + 2) rfl #[.int .i64 ty, .int .i64 st, .bool false, .bool false, .bool false, .slice none 0 0, .int .i64 0, .int .i64 0, .int .i64 m, .int .i64 0, .slice none 0 0] rfl 26 _ HZe.out rfl (by kernel_rfl) (by simp [Value.oneCell']) ?_; intro x1 hx1 gx1 sx1; have HXx := Lib.hid (HXe.out.grown gx1 (by simp)))
    | (refine wpList_store_row rfl 28 (.tmp 5) (.tmp 20) rfl (g + 3) rfl zB rfl 28 _ HXx.out rfl (by kernel_rfl) (by simp [Value.oneCell']) ?_; intro x2 hx2 gx2 sx2))
  have hgo := HG.out
  subst hgo
  refine bodyPost_ret (results_cc rfl _ (w.heap.size + 2) (w.heap.size + 3) 26 28 _ _ _ _ rfl (hx1.grown gx2 (by simp)) Try.underlying26 rfl (by kernel_rfl) rfl hx2 Try.underlying28 rfl (by kernel_rfl)) rfl ⟨⟨_, rfl, ⟨.slice none 0 0, .slice none 0 0, rfl, World.ownsRow_nil _ _ _ _, World.ownsRow_nil _ _ _ _⟩⟩, ((hBe.grown gx1 (by omega) (fun q hq => by cases hq; omega)).grown gx2 (by omega) (fun q hq => by cases hq; omega))⟩
set_option maxHeartbeats 4000000 in
set_option maxRecDepth 100000 in
theorem wind_zero (ty fl st : Int) (A : Option Addr) (n cap : Nat) (L : List Int) (w : World) (hR : BS w (.slice A n cap) L) (hln : L.length = n) (hb : Byt L) (hn : n ≤ 1099511627776) (h4 : n = 4) (m : Int) (hm : num L 0 % 2147483648 = m) (hpos : ¬ 0 < m) (hst : (st == 0) = true) :
    Calls Try.prog 29 #[.agg (fC ty fl st (.slice A n cap)), .agg (pB ty st)] w fun e w' => Ans w.heap.size (PP.zero, cB 1) e w' ∧ Below w.heap.size w w' := by
  have HR := Lib.hid hR
  have HL := Lib.hid hln
  have HY := Lib.hid hb
  clear hR hln hb
  have h4j : ((n : Int) != 4) = false := by simp; omega
  have h4L : 4 ≤ L.length := by rw [HL.out]; omega
  clear h4
  have HM := Lib.hid hm
  clear hm
  go_enter Try.func29, Try.ntmps29
  go_upto_region 1 with fail
  refine wp_forget (fun W => Below w.heap.size w W ∧ Hid (Blk W w.heap.size 32 (fC ty fl st (.slice A n cap))) ∧ Hid (Blk W (w.heap.size + 1) 26 (pB ty st)) ∧ Hid (Blk W (w.heap.size + 2) 26 zP) ∧ Hid (Blk W (w.heap.size + 3) 28 zB))
    ⟨by go_grown, Lib.hid ((((Blk.new _ _ _).alloc _).alloc _).alloc _), Lib.hid (((Blk.new_at (by simp only [World.size_alloc])).alloc _).alloc _), Lib.hid ((Blk.new_at (by simp only [World.size_alloc])).alloc _), Lib.hid (Blk.new_at (by simp only [World.size_alloc]))⟩ ?_
  rintro W ⟨hB, HF, HP, HZ, HX⟩
  have hBs := hB.size
  have hl3 := HX.out.lt
  have hl2 : w.heap.size + 2 < W.heap.size := by omega
  have hl1 : w.heap.size + 1 < W.heap.size := by omega
  have hl0 : w.heap.size < W.heap.size := by omega
  have f0 : W.cell? ⟨w.heap.size, 0, none⟩ = some (.int .i64 ty) := HF.out.cell 0
  have f1 : W.cell? ⟨w.heap.size, 1, none⟩ = some (.int .i64 fl) := HF.out.cell 1
  have f2 : W.cell? ⟨w.heap.size, 2, none⟩ = some (.int .i64 st) := HF.out.cell 2
  have f3 : W.cell? ⟨w.heap.size, 3, none⟩ = some (.slice A n cap) := HF.out.cell 3
  have HRW := Lib.hid (HR.out.below hB (Nat.le_refl _))
  generalize hg : w.heap.size = g at *
  have HG := Lib.hid hg
  clear hg
  go_upto_region 4 with (go_at_call 28; refine (bare_any _ L _ HRW.out HY.out h4L).mono ?_; rintro e w1 ⟨rfl, hB1⟩; have hS1 := hB1.size; have HF1 := Lib.hid (HF.out.below hB1 (by omega)); have HP1 := Lib.hid (HP.out.below hB1 (by omega)); have HZ1 := Lib.hid (HZ.out.below hB1 (by omega)); have HX1 := Lib.hid (HX.out.below hB1 (by omega)); have f10 : w1.cell? ⟨g, 0, none⟩ = some (.int .i64 ty) := HF1.out.cell 0; have f11 : w1.cell? ⟨g, 1, none⟩ = some (.int .i64 fl) := HF1.out.cell 1; have f12 : w1.cell? ⟨g, 2, none⟩ = some (.int .i64 st) := HF1.out.cell 2; have f13 : w1.cell? ⟨g, 3, none⟩ = some (.slice A n cap) := HF1.out.cell 3; rw [HM.out]; have c8 : w1.cell? ⟨g + 1, 8, none⟩ = some (.int .i64 0) := HP1.out.cell 8; have z8 : w1.frozen? ⟨g + 1, 8, none⟩ = false := HP1.out.frozen 8)
  have HPe := Lib.hid (HP1.out.put 8 (.int .i64 m))
  have HZe := Lib.hid (HZ1.out.far (p := ⟨g + 1, 8, none⟩) (by simp) (.int .i64 m))
  have HXe := Lib.hid (HX1.out.far (p := ⟨g + 1, 8, none⟩) (by simp) (.int .i64 m))
  have HFe := Lib.hid (HF1.out.far (p := ⟨g + 1, 8, none⟩) (by simp) (.int .i64 m))
  have hBe : Below g w (w1.setCell ⟨g + 1, 8, none⟩ (.int .i64 m)) := (hB.trans (hB1.mono hBs)).setCell (by simp) _
  have hse : w1.heap.size ≤ (w1.setCell ⟨g + 1, 8, none⟩ (.int .i64 m)).heap.size := by simp only [World.size_setCell]; exact Nat.le_refl _
  refine wp_forget (fun we => Below g w we ∧ w1.heap.size ≤ we.heap.size ∧ Hid (Blk we g 32 (fC ty fl st (.slice A n cap))) ∧ Hid (Blk we (g + 1) 26 #[.int .i64 ty, .int .i64 st, .bool false, .bool false, .bool false, .slice none 0 0, .int .i64 0, .int .i64 0, .int .i64 m, .int .i64 0, .slice none 0 0]) ∧ Hid (Blk we (g + 2) 26 zP) ∧ Hid (Blk we (g + 3) 28 zB)) ⟨hBe, hse, HFe, HPe, HZe, HXe⟩ ?_
  clear HPe HZe HXe HFe hBe hse
  rintro we ⟨hBe, hse, HFe, HPe, HZe, HXe⟩
  have m0 : we.cell? ⟨g + 1, 8, none⟩ = some (.int .i64 m) := HPe.out.cell 8
  have e2 : we.cell? ⟨g, 2, none⟩ = some (.int .i64 st) := HFe.out.cell 2
  go_wp2_with (first
    | (go_at_call 21; refine (conn_any 1 _).mono ?_; rintro e w3 ⟨rfl, hB3⟩; have hS3 := hB3.size; have HZ3 := Lib.hid (HZe.out.below hB3 (by omega)); have HX3 := Lib.hid (HXe.out.below hB3 (by omega)))
    | (refine wpList_store_row rfl 26 (.tmp 4) (.tmp 24) rfl (g + 2) rfl zP rfl 26 _ HZ3.out rfl (by kernel_rfl) (by simp [Value.oneCell']) ?_; intro x1 hx1 gx1 sx1; have HXx := Lib.hid (HX3.out.grown gx1 (by simp)))
    | (refine wpList_store_row rfl 28 (.tmp 5) (.tmp 25) rfl (g + 3) rfl #[.int .i64 2, .int .i64 (1), .int .i64 0] rfl 28 _ HXx.out rfl (by kernel_rfl) (by simp [Value.oneCell']) ?_; intro x2 hx2 gx2 sx2))
  have hgo := HG.out
  subst hgo
  refine bodyPost_ret (results_cc rfl _ (w.heap.size + 2) (w.heap.size + 3) 26 28 _ _ _ _ rfl (hx1.grown gx2 (by simp)) Try.underlying26 rfl (by kernel_rfl) rfl hx2 Try.underlying28 rfl (by kernel_rfl)) rfl ⟨⟨_, rfl, isP_zero _ _⟩, (((hBe.trans (hB3.mono (by omega))).grown gx1 (by omega) (fun q hq => by cases hq; omega)).grown gx2 (by omega) (fun q hq => by cases hq; omega))⟩
set_option maxHeartbeats 4000000 in
set_option maxRecDepth 100000 in
theorem wind_st (ty fl st : Int) (A : Option Addr) (n cap : Nat) (L : List Int) (w : World) (hR : BS w (.slice A n cap) L) (hln : L.length = n) (hb : Byt L) (hn : n ≤ 1099511627776) (h4 : n = 4) (m : Int) (hm : num L 0 % 2147483648 = m) (hpos : ¬ 0 < m) (hst : (st == 0) = false) :
    Calls Try.prog 29 #[.agg (fC ty fl st (.slice A n cap)), .agg (pB ty st)] w fun e w' => Ans w.heap.size (PP.zero, sB 1 st) e w' ∧ Below w.heap.size w w' := by
  have HR := Lib.hid hR
  have HL := Lib.hid hln
  have HY := Lib.hid hb
  clear hR hln hb
  have h4j : ((n : Int) != 4) = false := by simp; omega
  have h4L : 4 ≤ L.length := by rw [HL.out]; omega
  clear h4
  have HM := Lib.hid hm
  clear hm
  go_enter Try.func29, Try.ntmps29
  go_upto_region 1 with fail
  refine wp_forget (fun W => Below w.heap.size w W ∧ Hid (Blk W w.heap.size 32 (fC ty fl st (.slice A n cap))) ∧ Hid (Blk W (w.heap.size + 1) 26 (pB ty st)) ∧ Hid (Blk W (w.heap.size + 2) 26 zP) ∧ Hid (Blk W (w.heap.size + 3) 28 zB))
    ⟨by go_grown, Lib.hid ((((Blk.new _ _ _).alloc _).alloc _).alloc _), Lib.hid (((Blk.new_at (by simp only [World.size_alloc])).alloc _).alloc _), Lib.hid ((Blk.new_at (by simp only [World.size_alloc])).alloc _), Lib.hid (Blk.new_at (by simp only [World.size_alloc]))⟩ ?_
  rintro W ⟨hB, HF, HP, HZ, HX⟩
  have hBs := hB.size
  have hl3 := HX.out.lt
  have hl2 : w.heap.size + 2 < W.heap.size := by omega
  have hl1 : w.heap.size + 1 < W.heap.size := by omega
  have hl0 : w.heap.size < W.heap.size := by omega
  have f0 : W.cell? ⟨w.heap.size, 0, none⟩ = some (.int .i64 ty) := HF.out.cell 0
  have f1 : W.cell? ⟨w.heap.size, 1, none⟩ = some (.int .i64 fl) := HF.out.cell 1
  have f2 : W.cell? ⟨w.heap.size, 2, none⟩ = some (.int .i64 st) := HF.out.cell 2
  have f3 : W.cell? ⟨w.heap.size, 3, none⟩ = some (.slice A n cap) := HF.out.cell 3
  have HRW := Lib.hid (HR.out.below hB (Nat.le_refl _))
  generalize hg : w.heap.size = g at *
  have HG := Lib.hid hg
  clear hg
  go_upto_region 4 with (go_at_call 28; refine (bare_any _ L _ HRW.out HY.out h4L).mono ?_; rintro e w1 ⟨rfl, hB1⟩; have hS1 := hB1.size; have HF1 := Lib.hid (HF.out.below hB1 (by omega)); have HP1 := Lib.hid (HP.out.below hB1 (by omega)); have HZ1 := Lib.hid (HZ.out.below hB1 (by omega)); have HX1 := Lib.hid (HX.out.below hB1 (by omega)); have f10 : w1.cell? ⟨g, 0, none⟩ = some (.int .i64 ty) := HF1.out.cell 0; have f11 : w1.cell? ⟨g, 1, none⟩ = some (.int .i64 fl) := HF1.out.cell 1; have f12 : w1.cell? ⟨g, 2, none⟩ = some (.int .i64 st) := HF1.out.cell 2; have f13 : w1.cell? ⟨g, 3, none⟩ = some (.slice A n cap) := HF1.out.cell 3; rw [HM.out]; have c8 : w1.cell? ⟨g + 1, 8, none⟩ = some (.int .i64 0) := HP1.out.cell 8; have z8 : w1.frozen? ⟨g + 1, 8, none⟩ = false := HP1.out.frozen 8)
  have HPe := Lib.hid (HP1.out.put 8 (.int .i64 m))
  have HZe := Lib.hid (HZ1.out.far (p := ⟨g + 1, 8, none⟩) (by simp) (.int .i64 m))
  have HXe := Lib.hid (HX1.out.far (p := ⟨g + 1, 8, none⟩) (by simp) (.int .i64 m))
  have HFe := Lib.hid (HF1.out.far (p := ⟨g + 1, 8, none⟩) (by simp) (.int .i64 m))
  have hBe : Below g w (w1.setCell ⟨g + 1, 8, none⟩ (.int .i64 m)) := (hB.trans (hB1.mono hBs)).setCell (by simp) _
  have hse : w1.heap.size ≤ (w1.setCell ⟨g + 1, 8, none⟩ (.int .i64 m)).heap.size := by simp only [World.size_setCell]; exact Nat.le_refl _
  refine wp_forget (fun we => Below g w we ∧ w1.heap.size ≤ we.heap.size ∧ Hid (Blk we g 32 (fC ty fl st (.slice A n cap))) ∧ Hid (Blk we (g + 1) 26 #[.int .i64 ty, .int .i64 st, .bool false, .bool false, .bool false, .slice none 0 0, .int .i64 0, .int .i64 0, .int .i64 m, .int .i64 0, .slice none 0 0]) ∧ Hid (Blk we (g + 2) 26 zP) ∧ Hid (Blk we (g + 3) 28 zB)) ⟨hBe, hse, HFe, HPe, HZe, HXe⟩ ?_
  clear HPe HZe HXe HFe hBe hse
  rintro we ⟨hBe, hse, HFe, HPe, HZe, HXe⟩
  have m0 : we.cell? ⟨g + 1, 8, none⟩ = some (.int .i64 m) := HPe.out.cell 8
  have e2 : we.cell? ⟨g, 2, none⟩ = some (.int .i64 st) := HFe.out.cell 2
  go_wp2_with (first
    | (go_at_call 39; refine (stream_any 1 st _).mono ?_; rintro e w3 ⟨rfl, hB3⟩; have hS3 := hB3.size; have HZ3 := Lib.hid (HZe.out.below hB3 (by omega)); have HX3 := Lib.hid (HXe.out.below hB3 (by omega)))
    | (refine wpList_store_row rfl 26 (.tmp 4) (.tmp 26) rfl (g + 2) rfl zP rfl 26 _ HZ3.out rfl (by kernel_rfl) (by simp [Value.oneCell']) ?_; intro x1 hx1 gx1 sx1; have HXx := Lib.hid (HX3.out.grown gx1 (by simp)))
    | (refine wpList_store_row rfl 28 (.tmp 5) (.tmp 29) rfl (g + 3) rfl #[.int .i64 1, .int .i64 1, .int .i64 st] rfl 28 _ HXx.out rfl (by kernel_rfl) (by simp [Value.oneCell']) ?_; intro x2 hx2 gx2 sx2))
  have hgo := HG.out
  subst hgo
  refine bodyPost_ret (results_cc rfl _ (w.heap.size + 2) (w.heap.size + 3) 26 28 _ _ _ _ rfl (hx1.grown gx2 (by simp)) Try.underlying26 rfl (by kernel_rfl) rfl hx2 Try.underlying28 rfl (by kernel_rfl)) rfl ⟨⟨_, rfl, isP_zero _ _⟩, (((hBe.trans (hB3.mono (by omega))).grown gx1 (by omega) (fun q hq => by cases hq; omega)).grown gx2 (by omega) (fun q hq => by cases hq; omega))⟩
theorem prio_any (ty fl st : Int) (v : Value) (L : List Int) (w : World) (hR : BS w v L) (hb : Byt L) (hn : L.length ≤ 1099511627776) :
    Calls Try.prog 24 #[.agg (fC ty fl st v), .agg (pB ty st)] w fun e w' => Ans w.heap.size (prioF ty st L) e w' ∧ Below w.heap.size w w' := by
  obtain ⟨A, cap, rfl, _⟩ := id hR
  unfold prioF
  by_cases h5 : L.length ≠ 5
  · rw [if_pos h5]; exact prio_len ty fl st A _ cap L w hR rfl hb hn h5
  · rw [if_neg h5]
    by_cases hne : num L 0 % 2147483648 = st
    · rw [if_pos hne]; exact prio_eq ty fl st A _ cap L w hR rfl hb hn (by omega) (by simpa using hne)
    · rw [if_neg hne]; exact prio_ok ty fl st A _ cap L w hR rfl hb hn (by omega) (by simpa using hne)
theorem wind_any (ty fl st : Int) (v : Value) (L : List Int) (w : World) (hR : BS w v L) (hb : Byt L) (hn : L.length ≤ 1099511627776) :
    Calls Try.prog 29 #[.agg (fC ty fl st v), .agg (pB ty st)] w fun e w' => Ans w.heap.size (windF ty st L) e w' ∧ Below w.heap.size w w' := by
  obtain ⟨A, cap, rfl, _⟩ := id hR
  unfold windF
  by_cases h4 : L.length ≠ 4
  · rw [if_pos h4]; exact wind_len ty fl st A _ cap L w hR rfl hb hn h4
  · rw [if_neg h4]
    by_cases hm : 0 < num L 0 % 2147483648
    · rw [if_pos hm]; exact wind_ok ty fl st A _ cap L w hR rfl hb hn (by omega) _ rfl hm
    · rw [if_neg hm]
      by_cases hst : st = 0
      · rw [if_pos hst]; exact wind_zero ty fl st A _ cap L w hR rfl hb hn (by omega) _ rfl hm (by simpa using hst)
      · rw [if_neg hst]; exact wind_st ty fl st A _ cap L w hR rfl hb hn (by omega) _ rfl hm (by simpa using hst)
end Go.Proofs.Ytolpfbdklcjlkaa
