/- HEADERS. -/
import Derived.Test.YtolpfbdklcjlkaaSpec
namespace Go.Proofs.Ytolpfbdklcjlkaa
open Go.ChangeShapes Go.WideShapes Go.ChangeAt Go.RowKit
set_option linter.unusedVariables false
set_option linter.unusedSimpArgs false
set_option maxHeartbeats 4000000 in
set_option maxRecDepth 100000 in
theorem head_none (ty fl st : Int) (A : Option Addr) (n cap : Nat) (L : List Int) (w : World) (hR : BS w (.slice A n cap) L) (hln : L.length = n) (hb : Byt L) (hn : n ≤ 1099511627776) (hp : padF fl L = none) :
    Calls Try.prog 23 #[.agg (fC ty fl st (.slice A n cap)), .agg (pB ty st)] w fun e w' => Ans w.heap.size (PP.zero, cB 6) e w' ∧ Below w.heap.size w w' := by
  have HR := Lib.hid hR
  have HL := Lib.hid hln
  have HY := Lib.hid hb
  clear hR hln hb
  have HPN := Lib.hid hp
  clear hp
  go_enter Try.func23, Try.ntmps23
  go_upto_region 1 with fail
  refine wp_forget (fun W => Below w.heap.size w W ∧ Hid (Blk W w.heap.size 32 (fC ty fl st (.slice A n cap))) ∧ Hid (Blk W (w.heap.size + 1) 26 (pB ty st)) ∧ Hid (Blk W (w.heap.size + 2) 26 zP) ∧ Hid (Blk W (w.heap.size + 3) 28 zB))
    ⟨by go_grown, Lib.hid ((((Blk.new _ _ _).alloc _).alloc _).alloc _), Lib.hid (((Blk.new_at (by simp only [World.size_alloc])).alloc _).alloc _), Lib.hid ((Blk.new_at (by simp only [World.size_alloc])).alloc _), Lib.hid (Blk.new_at (by simp only [World.size_alloc]))⟩ ?_
  rintro W ⟨hB, HF, HP, HZ, HX⟩
  have hBs := hB.size
  have hl3 := HX.out.lt
  have hl2 : w.heap.size + 2 < W.heap.size := by omega
  have hl1 : w.heap.size + 1 < W.heap.size := by omega
  have hl0 : w.heap.size < W.heap.size := by omega
  have f0 : W.cell? ⟨w.heap.size, 0, none⟩ = some (.int .i64 ty) := HF.out.cell 0
  have f1 : W.cell? ⟨w.heap.size, 1, none⟩ = some (.int .i64 fl) := HF.out.cell 1
  have f2 : W.cell? ⟨w.heap.size, 2, none⟩ = some (.int .i64 st) := HF.out.cell 2
  have f3 : W.cell? ⟨w.heap.size, 3, none⟩ = some (.slice A n cap) := HF.out.cell 3
  have HRW := Lib.hid (HR.out.below hB (Nat.le_refl _))
  generalize hg : w.heap.size = g at *
  have HG := Lib.hid hg
  clear hg
  go_wp2_with (first
    | (go_at_call 38; refine (padded_none ty fl st _ L _ HRW.out HPN.out).mono ?_; rintro e w1 ⟨rfl, hB1⟩; have hS1 := hB1.size; have HF1 := Lib.hid (HF.out.below hB1 (by omega)); have HP1 := Lib.hid (HP.out.below hB1 (by omega)); have HZ1 := Lib.hid (HZ.out.below hB1 (by omega)); have HX1 := Lib.hid (HX.out.below hB1 (by omega)); have f10 : w1.cell? ⟨g, 0, none⟩ = some (.int .i64 ty) := HF1.out.cell 0; have f11 : w1.cell? ⟨g, 1, none⟩ = some (.int .i64 fl) := HF1.out.cell 1; have f12 : w1.cell? ⟨g, 2, none⟩ = some (.int .i64 st) := HF1.out.cell 2; have f13 : w1.cell? ⟨g, 3, none⟩ = some (.slice A n cap) := HF1.out.cell 3)
    | (go_at_call 21; refine (conn_any 6 _).mono ?_; rintro e w2 ⟨rfl, hB2⟩; have hS2 := hB2.size; have HF2 := Lib.hid (HF1.out.below hB2 (by omega)); have HP2 := Lib.hid (HP1.out.below hB2 (by omega)); have HZ2 := Lib.hid (HZ1.out.below hB2 (by omega)); have HX2 := Lib.hid (HX1.out.below hB2 (by omega)); have f20 : w2.cell? ⟨g, 0, none⟩ = some (.int .i64 ty) := HF2.out.cell 0; have f21 : w2.cell? ⟨g, 1, none⟩ = some (.int .i64 fl) := HF2.out.cell 1; have f22 : w2.cell? ⟨g, 2, none⟩ = some (.int .i64 st) := HF2.out.cell 2; have f23 : w2.cell? ⟨g, 3, none⟩ = some (.slice A n cap) := HF2.out.cell 3)
    | (refine wpList_store_row rfl 26 (.tmp 4) (.tmp 17) rfl (g + 2) rfl zP rfl 26 _ HZ2.out rfl (by kernel_rfl) (by simp [Value.oneCell']) ?_; intro x1 hx1 gx1 sx1; have HXx := Lib.hid (HX2.out.grown gx1 (by simp)))
    | (refine wpList_store_row rfl 28 (.tmp 5) (.tmp 18) rfl (g + 3) rfl #[.int .i64 2, .int .i64 (6), .int .i64 0] rfl 28 _ HXx.out rfl (by kernel_rfl) (by simp [Value.oneCell']) ?_; intro x2 hx2 gx2 sx2))
  have hgo := HG.out
  subst hgo
  refine bodyPost_ret (results_cc rfl _ (w.heap.size + 2) (w.heap.size + 3) 26 28 _ _ _ _ rfl (hx1.grown gx2 (by simp)) Try.underlying26 rfl (by kernel_rfl) rfl hx2 Try.underlying28 rfl (by kernel_rfl)) rfl ⟨⟨_, rfl, isP_zero _ _⟩, ((((hB.trans (hB1.mono (by omega))).trans (hB2.mono (by omega))).grown gx1 (by omega) (fun q hq => by cases hq; omega)).grown gx2 (by omega) (fun q hq => by cases hq; omega))⟩
set_option maxHeartbeats 4000000 in
set_option maxRecDepth 100000 in
theorem head_over0 (ty fl st : Int) (A : Option Addr) (n cap : Nat) (L : List Int) (w : World) (hR : BS w (.slice A n cap) L) (hln : L.length = n) (hb : Byt L) (hn : n ≤ 1099511627776) (p : Int) (b : List Int) (hp : padF fl L = some (p, b)) (hf : (bits .and .i64 fl 32 != 0) = false) (hov : (b.length : Int) < p) :
    Calls Try.prog 23 #[.agg (fC ty fl st (.slice A n cap)), .agg (pB ty st)] w fun e w' => Ans w.heap.size (PP.zero, cB 1) e w' ∧ Below w.heap.size w w' := by
  have HR := Lib.hid hR
  have HL := Lib.hid hln
  have HY := Lib.hid hb
  clear hR hln hb
  obtain ⟨hp0, hp1, hby, hbl⟩ := padF_byt HY.out hp
  have HPN := Lib.hid hp
  have HBY := Lib.hid hby
  rw [HL.out] at hbl
  have hbl' : b.length ≤ 1099511627776 := by omega
  clear hp hby
  go_enter Try.func23, Try.ntmps23
  go_upto_region 1 with fail
  refine wp_forget (fun W => Below w.heap.size w W ∧ Hid (Blk W w.heap.size 32 (fC ty fl st (.slice A n cap))) ∧ Hid (Blk W (w.heap.size + 1) 26 (pB ty st)) ∧ Hid (Blk W (w.heap.size + 2) 26 zP) ∧ Hid (Blk W (w.heap.size + 3) 28 zB))
    ⟨by go_grown, Lib.hid ((((Blk.new _ _ _).alloc _).alloc _).alloc _), Lib.hid (((Blk.new_at (by simp only [World.size_alloc])).alloc _).alloc _), Lib.hid ((Blk.new_at (by simp only [World.size_alloc])).alloc _), Lib.hid (Blk.new_at (by simp only [World.size_alloc]))⟩ ?_
  rintro W ⟨hB, HF, HP, HZ, HX⟩
  have hBs := hB.size
  have hl3 := HX.out.lt
  have hl2 : w.heap.size + 2 < W.heap.size := by omega
  have hl1 : w.heap.size + 1 < W.heap.size := by omega
  have hl0 : w.heap.size < W.heap.size := by omega
  have f0 : W.cell? ⟨w.heap.size, 0, none⟩ = some (.int .i64 ty) := HF.out.cell 0
  have f1 : W.cell? ⟨w.heap.size, 1, none⟩ = some (.int .i64 fl) := HF.out.cell 1
  have f2 : W.cell? ⟨w.heap.size, 2, none⟩ = some (.int .i64 st) := HF.out.cell 2
  have f3 : W.cell? ⟨w.heap.size, 3, none⟩ = some (.slice A n cap) := HF.out.cell 3
  have HRW := Lib.hid (HR.out.below hB (Nat.le_refl _))
  generalize hg : w.heap.size = g at *
  have HG := Lib.hid hg
  clear hg
  go_wp2_with (first
    | (go_at_call 38; refine (padded_any ty fl st _ L _ HRW.out HY.out p b HPN.out).mono ?_; rintro e w1 ⟨⟨vb, rfl, hvb⟩, hB1⟩; have hS1 := hB1.size; have HF1 := Lib.hid (HF.out.below hB1 (by omega)); have HP1 := Lib.hid (HP.out.below hB1 (by omega)); have HZ1 := Lib.hid (HZ.out.below hB1 (by omega)); have HX1 := Lib.hid (HX.out.below hB1 (by omega)); have f10 : w1.cell? ⟨g, 0, none⟩ = some (.int .i64 ty) := HF1.out.cell 0; have f11 : w1.cell? ⟨g, 1, none⟩ = some (.int .i64 fl) := HF1.out.cell 1; have f12 : w1.cell? ⟨g, 2, none⟩ = some (.int .i64 st) := HF1.out.cell 2; have f13 : w1.cell? ⟨g, 3, none⟩ = some (.slice A n cap) := HF1.out.cell 3; have HVB := Lib.hid hvb; obtain ⟨Ab, cb, rfl, hkb, hmb, -⟩ := hvb)
    | (go_at_call 21; refine (conn_any 1 _).mono ?_; rintro e w2 ⟨rfl, hB2⟩; have hS2 := hB2.size; have HF2 := Lib.hid (HF1.out.below hB2 (by omega)); have HP2 := Lib.hid (HP1.out.below hB2 (by omega)); have HZ2 := Lib.hid (HZ1.out.below hB2 (by omega)); have HX2 := Lib.hid (HX1.out.below hB2 (by omega)); have f20 : w2.cell? ⟨g, 0, none⟩ = some (.int .i64 ty) := HF2.out.cell 0; have f21 : w2.cell? ⟨g, 1, none⟩ = some (.int .i64 fl) := HF2.out.cell 1; have f22 : w2.cell? ⟨g, 2, none⟩ = some (.int .i64 st) := HF2.out.cell 2; have f23 : w2.cell? ⟨g, 3, none⟩ = some (.slice A n cap) := HF2.out.cell 3)
    | (refine wpList_store_row rfl 26 (.tmp 4) (.tmp 43) rfl (g + 2) rfl zP rfl 26 _ HZ2.out rfl (by kernel_rfl) (by simp [Value.oneCell']) ?_; intro x1 hx1 gx1 sx1; have HXx := Lib.hid (HX2.out.grown gx1 (by simp)))
    | (refine wpList_store_row rfl 28 (.tmp 5) (.tmp 44) rfl (g + 3) rfl #[.int .i64 2, .int .i64 (1), .int .i64 0] rfl 28 _ HXx.out rfl (by kernel_rfl) (by simp [Value.oneCell']) ?_; intro x2 hx2 gx2 sx2))
  have hgo := HG.out
  subst hgo
  refine bodyPost_ret (results_cc rfl _ (w.heap.size + 2) (w.heap.size + 3) 26 28 _ _ _ _ rfl (hx1.grown gx2 (by simp)) Try.underlying26 rfl (by kernel_rfl) rfl hx2 Try.underlying28 rfl (by kernel_rfl)) rfl ⟨⟨_, rfl, isP_zero _ _⟩, ((((hB.trans (hB1.mono (by omega))).trans (hB2.mono (by omega))).grown gx1 (by omega) (fun q hq => by cases hq; omega)).grown gx2 (by omega) (fun q hq => by cases hq; omega))⟩
set_option maxHeartbeats 4000000 in
set_option maxRecDepth 100000 in
theorem head_short (ty fl st : Int) (A : Option Addr) (n cap : Nat) (L : List Int) (w : World) (hR : BS w (.slice A n cap) L) (hln : L.length = n) (hb : Byt L) (hn : n ≤ 1099511627776) (p : Int) (b : List Int) (hp : padF fl L = some (p, b)) (hf : (bits .and .i64 fl 32 != 0) = true) (h5 : b.length < 5) :
    Calls Try.prog 23 #[.agg (fC ty fl st (.slice A n cap)), .agg (pB ty st)] w fun e w' => Ans w.heap.size (PP.zero, cB 6) e w' ∧ Below w.heap.size w w' := by
  have HR := Lib.hid hR
  have HL := Lib.hid hln
  have HY := Lib.hid hb
  clear hR hln hb
  obtain ⟨hp0, hp1, hby, hbl⟩ := padF_byt HY.out hp
  have HPN := Lib.hid hp
  have HBY := Lib.hid hby
  rw [HL.out] at hbl
  have hbl' : b.length ≤ 1099511627776 := by omega
  clear hp hby
  have h5i : (b.length : Int) < 5 := by omega
  go_enter Try.func23, Try.ntmps23
  go_upto_region 1 with fail
  refine wp_forget (fun W => Below w.heap.size w W ∧ Hid (Blk W w.heap.size 32 (fC ty fl st (.slice A n cap))) ∧ Hid (Blk W (w.heap.size + 1) 26 (pB ty st)) ∧ Hid (Blk W (w.heap.size + 2) 26 zP) ∧ Hid (Blk W (w.heap.size + 3) 28 zB))
    ⟨by go_grown, Lib.hid ((((Blk.new _ _ _).alloc _).alloc _).alloc _), Lib.hid (((Blk.new_at (by simp only [World.size_alloc])).alloc _).alloc _), Lib.hid ((Blk.new_at (by simp only [World.size_alloc])).alloc _), Lib.hid (Blk.new_at (by simp only [World.size_alloc]))⟩ ?_
  rintro W ⟨hB, HF, HP, HZ, HX⟩
  have hBs := hB.size
  have hl3 := HX.out.lt
  have hl2 : w.heap.size + 2 < W.heap.size := by omega
  have hl1 : w.heap.size + 1 < W.heap.size := by omega
  have hl0 : w.heap.size < W.heap.size := by omega
  have f0 : W.cell? ⟨w.heap.size, 0, none⟩ = some (.int .i64 ty) := HF.out.cell 0
  have f1 : W.cell? ⟨w.heap.size, 1, none⟩ = some (.int .i64 fl) := HF.out.cell 1
  have f2 : W.cell? ⟨w.heap.size, 2, none⟩ = some (.int .i64 st) := HF.out.cell 2
  have f3 : W.cell? ⟨w.heap.size, 3, none⟩ = some (.slice A n cap) := HF.out.cell 3
  have HRW := Lib.hid (HR.out.below hB (Nat.le_refl _))
  generalize hg : w.heap.size = g at *
  have HG := Lib.hid hg
  clear hg
  go_wp2_with (first
    | (go_at_call 38; refine (padded_any ty fl st _ L _ HRW.out HY.out p b HPN.out).mono ?_; rintro e w1 ⟨⟨vb, rfl, hvb⟩, hB1⟩; have hS1 := hB1.size; have HF1 := Lib.hid (HF.out.below hB1 (by omega)); have HP1 := Lib.hid (HP.out.below hB1 (by omega)); have HZ1 := Lib.hid (HZ.out.below hB1 (by omega)); have HX1 := Lib.hid (HX.out.below hB1 (by omega)); have f10 : w1.cell? ⟨g, 0, none⟩ = some (.int .i64 ty) := HF1.out.cell 0; have f11 : w1.cell? ⟨g, 1, none⟩ = some (.int .i64 fl) := HF1.out.cell 1; have f12 : w1.cell? ⟨g, 2, none⟩ = some (.int .i64 st) := HF1.out.cell 2; have f13 : w1.cell? ⟨g, 3, none⟩ = some (.slice A n cap) := HF1.out.cell 3; have HVB := Lib.hid hvb; obtain ⟨Ab, cb, rfl, hkb, hmb, -⟩ := hvb)
    | (go_at_call 21; refine (conn_any 6 _).mono ?_; rintro e w2 ⟨rfl, hB2⟩; have hS2 := hB2.size; have HF2 := Lib.hid (HF1.out.below hB2 (by omega)); have HP2 := Lib.hid (HP1.out.below hB2 (by omega)); have HZ2 := Lib.hid (HZ1.out.below hB2 (by omega)); have HX2 := Lib.hid (HX1.out.below hB2 (by omega)); have f20 : w2.cell? ⟨g, 0, none⟩ = some (.int .i64 ty) := HF2.out.cell 0; have f21 : w2.cell? ⟨g, 1, none⟩ = some (.int .i64 fl) := HF2.out.cell 1; have f22 : w2.cell? ⟨g, 2, none⟩ = some (.int .i64 st) := HF2.out.cell 2; have f23 : w2.cell? ⟨g, 3, none⟩ = some (.slice A n cap) := HF2.out.cell 3)
    | (refine wpList_store_row rfl 26 (.tmp 4) (.tmp 26) rfl (g + 2) rfl zP rfl 26 _ HZ2.out rfl (by kernel_rfl) (by simp [Value.oneCell']) ?_; intro x1 hx1 gx1 sx1; have HXx := Lib.hid (HX2.out.grown gx1 (by simp)))
    | (refine wpList_store_row rfl 28 (.tmp 5) (.tmp 27) rfl (g + 3) rfl #[.int .i64 2, .int .i64 (6), .int .i64 0] rfl 28 _ HXx.out rfl (by kernel_rfl) (by simp [Value.oneCell']) ?_; intro x2 hx2 gx2 sx2))
  have hgo := HG.out
  subst hgo
  refine bodyPost_ret (results_cc rfl _ (w.heap.size + 2) (w.heap.size + 3) 26 28 _ _ _ _ rfl (hx1.grown gx2 (by simp)) Try.underlying26 rfl (by kernel_rfl) rfl hx2 Try.underlying28 rfl (by kernel_rfl)) rfl ⟨⟨_, rfl, isP_zero _ _⟩, ((((hB.trans (hB1.mono (by omega))).trans (hB2.mono (by omega))).grown gx1 (by omega) (fun q hq => by cases hq; omega)).grown gx2 (by omega) (fun q hq => by cases hq; omega))⟩
set_option maxHeartbeats 4000000 in
set_option maxRecDepth 100000 in
theorem head_eq (ty fl st : Int) (A : Option Addr) (n cap : Nat) (L : List Int) (w : World) (hR : BS w (.slice A n cap) L) (hln : L.length = n) (hb : Byt L) (hn : n ≤ 1099511627776) (p : Int) (b : List Int) (hp : padF fl L = some (p, b)) (hf : (bits .and .i64 fl 32 != 0) = true) (h5 : 5 ≤ b.length) (hne : (num b 0 % 2147483648 == st) = true) :
    Calls Try.prog 23 #[.agg (fC ty fl st (.slice A n cap)), .agg (pB ty st)] w fun e w' => Ans w.heap.size (PP.zero, sB 1 st) e w' ∧ Below w.heap.size w w' := by
  have HR := Lib.hid hR
  have HL := Lib.hid hln
  have HY := Lib.hid hb
  clear hR hln hb
  obtain ⟨hp0, hp1, hby, hbl⟩ := padF_byt HY.out hp
  have HPN := Lib.hid hp
  have HBY := Lib.hid hby
  rw [HL.out] at hbl
  have hbl' : b.length ≤ 1099511627776 := by omega
  clear hp hby
  have h5i : ¬ (b.length : Int) < 5 := by omega
  go_enter Try.func23, Try.ntmps23
  go_upto_region 1 with fail
  refine wp_forget (fun W => Below w.heap.size w W ∧ Hid (Blk W w.heap.size 32 (fC ty fl st (.slice A n cap))) ∧ Hid (Blk W (w.heap.size + 1) 26 (pB ty st)) ∧ Hid (Blk W (w.heap.size + 2) 26 zP) ∧ Hid (Blk W (w.heap.size + 3) 28 zB))
    ⟨by go_grown, Lib.hid ((((Blk.new _ _ _).alloc _).alloc _).alloc _), Lib.hid (((Blk.new_at (by simp only [World.size_alloc])).alloc _).alloc _), Lib.hid ((Blk.new_at (by simp only [World.size_alloc])).alloc _), Lib.hid (Blk.new_at (by simp only [World.size_alloc]))⟩ ?_
  rintro W ⟨hB, HF, HP, HZ, HX⟩
  have hBs := hB.size
  have hl3 := HX.out.lt
  have hl2 : w.heap.size + 2 < W.heap.size := by omega
  have hl1 : w.heap.size + 1 < W.heap.size := by omega
  have hl0 : w.heap.size < W.heap.size := by omega
  have f0 : W.cell? ⟨w.heap.size, 0, none⟩ = some (.int .i64 ty) := HF.out.cell 0
  have f1 : W.cell? ⟨w.heap.size, 1, none⟩ = some (.int .i64 fl) := HF.out.cell 1
  have f2 : W.cell? ⟨w.heap.size, 2, none⟩ = some (.int .i64 st) := HF.out.cell 2
  have f3 : W.cell? ⟨w.heap.size, 3, none⟩ = some (.slice A n cap) := HF.out.cell 3
  have HRW := Lib.hid (HR.out.below hB (Nat.le_refl _))
  generalize hg : w.heap.size = g at *
  have HG := Lib.hid hg
  clear hg
  go_wp2_with (go_at_call 38; refine (padded_any ty fl st _ L _ HRW.out HY.out p b HPN.out).mono ?_; rintro e w1 ⟨⟨vb, rfl, hvb⟩, hB1⟩; have hS1 := hB1.size; have HF1 := Lib.hid (HF.out.below hB1 (by omega)); have HP1 := Lib.hid (HP.out.below hB1 (by omega)); have HZ1 := Lib.hid (HZ.out.below hB1 (by omega)); have HX1 := Lib.hid (HX.out.below hB1 (by omega)); have f10 : w1.cell? ⟨g, 0, none⟩ = some (.int .i64 ty) := HF1.out.cell 0; have f11 : w1.cell? ⟨g, 1, none⟩ = some (.int .i64 fl) := HF1.out.cell 1; have f12 : w1.cell? ⟨g, 2, none⟩ = some (.int .i64 st) := HF1.out.cell 2; have f13 : w1.cell? ⟨g, 3, none⟩ = some (.slice A n cap) := HF1.out.cell 3; have HVB := Lib.hid hvb; obtain ⟨Ab, cb, rfl, hkb, hmb, -⟩ := hvb)
  go_region_held3 (fun wx => wx.cell? ⟨g, 2, none⟩ = some (.int .i64 st)) (first | assumption | go_simp) ((go_at_call 28; refine (bare_any _ b _ (HVB.out.below (by go_grown) (Nat.le_refl _)) HBY.out (by omega)).mono ?_; rintro e w2 ⟨rfl, hD2⟩; have hB2 : Below w1.heap.size w1 w2 := Below.trans (by go_grown) hD2; have hS2 := hB2.size; have HF2 := Lib.hid (HF1.out.below hB2 (by omega)); have HP2 := Lib.hid (HP1.out.below hB2 (by omega)); have HZ2 := Lib.hid (HZ1.out.below hB2 (by omega)); have HX2 := Lib.hid (HX1.out.below hB2 (by omega)); have f20 : w2.cell? ⟨g, 0, none⟩ = some (.int .i64 ty) := HF2.out.cell 0; have f21 : w2.cell? ⟨g, 1, none⟩ = some (.int .i64 fl) := HF2.out.cell 1; have f22 : w2.cell? ⟨g, 2, none⟩ = some (.int .i64 st) := HF2.out.cell 2; have f23 : w2.cell? ⟨g, 3, none⟩ = some (.slice A n cap) := HF2.out.cell 3))
  go_wp2_with (first
    | (go_at_call 39; refine (stream_any 1 st _).mono ?_; rintro e w3 ⟨rfl, hB3⟩; have hS3 := hB3.size; have HF3 := Lib.hid (HF2.out.below hB3 (by omega)); have HP3 := Lib.hid (HP2.out.below hB3 (by omega)); have HZ3 := Lib.hid (HZ2.out.below hB3 (by omega)); have HX3 := Lib.hid (HX2.out.below hB3 (by omega)); have f30 : w3.cell? ⟨g, 0, none⟩ = some (.int .i64 ty) := HF3.out.cell 0; have f31 : w3.cell? ⟨g, 1, none⟩ = some (.int .i64 fl) := HF3.out.cell 1; have f32 : w3.cell? ⟨g, 2, none⟩ = some (.int .i64 st) := HF3.out.cell 2; have f33 : w3.cell? ⟨g, 3, none⟩ = some (.slice A n cap) := HF3.out.cell 3)
    | (refine wpList_store_row rfl 26 (.tmp 4) (.tmp 33) rfl (g + 2) rfl zP rfl 26 _ HZ3.out rfl (by kernel_rfl) (by simp [Value.oneCell']) ?_; intro x1 hx1 gx1 sx1; have HXx := Lib.hid (HX3.out.grown gx1 (by simp)))
    | (refine wpList_store_row rfl 28 (.tmp 5) (.tmp 36) rfl (g + 3) rfl #[.int .i64 1, .int .i64 1, .int .i64 st] rfl 28 _ HXx.out rfl (by kernel_rfl) (by simp [Value.oneCell']) ?_; intro x2 hx2 gx2 sx2))
  have hgo := HG.out
  subst hgo
  refine bodyPost_ret (results_cc rfl _ (w.heap.size + 2) (w.heap.size + 3) 26 28 _ _ _ _ rfl (hx1.grown gx2 (by simp)) Try.underlying26 rfl (by kernel_rfl) rfl hx2 Try.underlying28 rfl (by kernel_rfl)) rfl ⟨⟨_, rfl, isP_zero _ _⟩, (((((hB.trans (hB1.mono (by omega))).trans (hB2.mono (by omega))).trans (hB3.mono (by omega))).grown gx1 (by omega) (fun q hq => by cases hq; omega)).grown gx2 (by omega) (fun q hq => by cases hq; omega))⟩
set_option maxHeartbeats 4000000 in
set_option maxRecDepth 100000 in
theorem head_over5 (ty fl st : Int) (A : Option Addr) (n cap : Nat) (L : List Int) (w : World) (hR : BS w (.slice A n cap) L) (hln : L.length = n) (hb : Byt L) (hn : n ≤ 1099511627776) (p : Int) (b : List Int) (hp : padF fl L = some (p, b)) (hf : (bits .and .i64 fl 32 != 0) = true) (b5 : List Int) (hb5 : b.drop 5 = b5) (h5 : 5 ≤ b.length) (hne : (num b 0 % 2147483648 == st) = false) (hov : (b5.length : Int) < p) :
    Calls Try.prog 23 #[.agg (fC ty fl st (.slice A n cap)), .agg (pB ty st)] w fun e w' => Ans w.heap.size (PP.zero, cB 1) e w' ∧ Below w.heap.size w w' := by
  have HR := Lib.hid hR
  have HL := Lib.hid hln
  have HY := Lib.hid hb
  clear hR hln hb
  obtain ⟨hp0, hp1, hby, hbl⟩ := padF_byt HY.out hp
  have HPN := Lib.hid hp
  have HBY := Lib.hid hby
  rw [HL.out] at hbl
  have hbl' : b.length ≤ 1099511627776 := by omega
  clear hp hby
  have h5l : b5.length ≤ b.length := by rw [← hb5]; simp
  have H5 := Lib.hid hb5
  clear hb5
  have h5i : ¬ (b.length : Int) < 5 := by omega
  go_enter Try.func23, Try.ntmps23
  go_upto_region 1 with fail
  refine wp_forget (fun W => Below w.heap.size w W ∧ Hid (Blk W w.heap.size 32 (fC ty fl st (.slice A n cap))) ∧ Hid (Blk W (w.heap.size + 1) 26 (pB ty st)) ∧ Hid (Blk W (w.heap.size + 2) 26 zP) ∧ Hid (Blk W (w.heap.size + 3) 28 zB))
    ⟨by go_grown, Lib.hid ((((Blk.new _ _ _).alloc _).alloc _).alloc _), Lib.hid (((Blk.new_at (by simp only [World.size_alloc])).alloc _).alloc _), Lib.hid ((Blk.new_at (by simp only [World.size_alloc])).alloc _), Lib.hid (Blk.new_at (by simp only [World.size_alloc]))⟩ ?_
  rintro W ⟨hB, HF, HP, HZ, HX⟩
  have hBs := hB.size
  have hl3 := HX.out.lt
  have hl2 : w.heap.size + 2 < W.heap.size := by omega
  have hl1 : w.heap.size + 1 < W.heap.size := by omega
  have hl0 : w.heap.size < W.heap.size := by omega
  have f0 : W.cell? ⟨w.heap.size, 0, none⟩ = some (.int .i64 ty) := HF.out.cell 0
  have f1 : W.cell? ⟨w.heap.size, 1, none⟩ = some (.int .i64 fl) := HF.out.cell 1
  have f2 : W.cell? ⟨w.heap.size, 2, none⟩ = some (.int .i64 st) := HF.out.cell 2
  have f3 : W.cell? ⟨w.heap.size, 3, none⟩ = some (.slice A n cap) := HF.out.cell 3
  have HRW := Lib.hid (HR.out.below hB (Nat.le_refl _))
  generalize hg : w.heap.size = g at *
  have HG := Lib.hid hg
  clear hg
  go_wp2_with (go_at_call 38; refine (padded_any ty fl st _ L _ HRW.out HY.out p b HPN.out).mono ?_; rintro e w1 ⟨⟨vb, rfl, hvb⟩, hB1⟩; have hS1 := hB1.size; have HF1 := Lib.hid (HF.out.below hB1 (by omega)); have HP1 := Lib.hid (HP.out.below hB1 (by omega)); have HZ1 := Lib.hid (HZ.out.below hB1 (by omega)); have HX1 := Lib.hid (HX.out.below hB1 (by omega)); have f10 : w1.cell? ⟨g, 0, none⟩ = some (.int .i64 ty) := HF1.out.cell 0; have f11 : w1.cell? ⟨g, 1, none⟩ = some (.int .i64 fl) := HF1.out.cell 1; have f12 : w1.cell? ⟨g, 2, none⟩ = some (.int .i64 st) := HF1.out.cell 2; have f13 : w1.cell? ⟨g, 3, none⟩ = some (.slice A n cap) := HF1.out.cell 3; have HVB := Lib.hid hvb; obtain ⟨Ab, cb, rfl, hkb, hmb, -⟩ := hvb)
  go_region_held3 (fun wx => wx.cell? ⟨g, 2, none⟩ = some (.int .i64 st)) (first | assumption | go_simp) ((go_at_call 28; refine (bare_any _ b _ (HVB.out.below (by go_grown) (Nat.le_refl _)) HBY.out (by omega)).mono ?_; rintro e w2 ⟨rfl, hD2⟩; have hB2 : Below w1.heap.size w1 w2 := Below.trans (by go_grown) hD2; have hS2 := hB2.size; have HF2 := Lib.hid (HF1.out.below hB2 (by omega)); have HP2 := Lib.hid (HP1.out.below hB2 (by omega)); have HZ2 := Lib.hid (HZ1.out.below hB2 (by omega)); have HX2 := Lib.hid (HX1.out.below hB2 (by omega)); have f20 : w2.cell? ⟨g, 0, none⟩ = some (.int .i64 ty) := HF2.out.cell 0; have f21 : w2.cell? ⟨g, 1, none⟩ = some (.int .i64 fl) := HF2.out.cell 1; have f22 : w2.cell? ⟨g, 2, none⟩ = some (.int .i64 st) := HF2.out.cell 2; have f23 : w2.cell? ⟨g, 3, none⟩ = some (.slice A n cap) := HF2.out.cell 3))
  obtain ⟨A5, n5, c5, hrun5, hs5⟩ := run_fromI HVB.out 5 (by omega) (by omega)
  have hs5' : BS w1 (.slice A5 n5 c5) b5 := by have h := hs5; rwa [show (5 : Int).toNat = 5 from rfl, H5.out] at h
  clear hs5
  obtain ⟨_, _, he5, hk5, hm5, _⟩ := id hs5'
  cases he5
  have HS5 := Lib.hid (hs5'.below hB2 (Nat.le_refl _))
  clear hs5'
  go_wp2_with (first
    | (go_at_call 21; refine (conn_any 1 _).mono ?_; rintro e w3 ⟨rfl, hB3⟩; have hS3 := hB3.size; have HF3 := Lib.hid (HF2.out.below hB3 (by omega)); have HP3 := Lib.hid (HP2.out.below hB3 (by omega)); have HZ3 := Lib.hid (HZ2.out.below hB3 (by omega)); have HX3 := Lib.hid (HX2.out.below hB3 (by omega)); have f30 : w3.cell? ⟨g, 0, none⟩ = some (.int .i64 ty) := HF3.out.cell 0; have f31 : w3.cell? ⟨g, 1, none⟩ = some (.int .i64 fl) := HF3.out.cell 1; have f32 : w3.cell? ⟨g, 2, none⟩ = some (.int .i64 st) := HF3.out.cell 2; have f33 : w3.cell? ⟨g, 3, none⟩ = some (.slice A n cap) := HF3.out.cell 3)
    | (refine wpList_store_row rfl 26 (.tmp 4) (.tmp 43) rfl (g + 2) rfl zP rfl 26 _ HZ3.out rfl (by kernel_rfl) (by simp [Value.oneCell']) ?_; intro x1 hx1 gx1 sx1; have HXx := Lib.hid (HX3.out.grown gx1 (by simp)))
    | (refine wpList_store_row rfl 28 (.tmp 5) (.tmp 44) rfl (g + 3) rfl #[.int .i64 2, .int .i64 (1), .int .i64 0] rfl 28 _ HXx.out rfl (by kernel_rfl) (by simp [Value.oneCell']) ?_; intro x2 hx2 gx2 sx2))
  have hgo := HG.out
  subst hgo
  refine bodyPost_ret (results_cc rfl _ (w.heap.size + 2) (w.heap.size + 3) 26 28 _ _ _ _ rfl (hx1.grown gx2 (by simp)) Try.underlying26 rfl (by kernel_rfl) rfl hx2 Try.underlying28 rfl (by kernel_rfl)) rfl ⟨⟨_, rfl, isP_zero _ _⟩, (((((hB.trans (hB1.mono (by omega))).trans (hB2.mono (by omega))).trans (hB3.mono (by omega))).grown gx1 (by omega) (fun q hq => by cases hq; omega)).grown gx2 (by omega) (fun q hq => by cases hq; omega))⟩
end Go.Proofs.Ytolpfbdklcjlkaa
