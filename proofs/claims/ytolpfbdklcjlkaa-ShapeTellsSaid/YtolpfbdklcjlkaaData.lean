/- DATA. -/
import Derived.Test.YtolpfbdklcjlkaaSpec
namespace Go.Proofs.Ytolpfbdklcjlkaa
open Go.ChangeShapes Go.WideShapes Go.ChangeAt Go.RowKit
set_option linter.unusedVariables false
set_option linter.unusedSimpArgs false
set_option maxHeartbeats 4000000 in
set_option maxRecDepth 100000 in
theorem data_none (ty fl st : Int) (A : Option Addr) (n cap : Nat) (L : List Int) (w : World) (hR : BS w (.slice A n cap) L) (hln : L.length = n) (hb : Byt L) (hn : n ≤ 1099511627776) (hp : padF fl L = none) :
    Calls Try.prog 22 #[.agg (fC ty fl st (.slice A n cap)), .agg (pB ty st)] w fun e w' => Ans w.heap.size (PP.zero, cB 6) e w' ∧ Below w.heap.size w w' := by
  have HR := Lib.hid hR
  have HL := Lib.hid hln
  have HY := Lib.hid hb
  clear hR hln hb
  have HPN := Lib.hid hp
  clear hp
  go_enter Try.func22, Try.ntmps22
  go_upto_region 1 with fail
  refine wp_forget (fun W => Below w.heap.size w W ∧ Hid (Blk W w.heap.size 32 (fC ty fl st (.slice A n cap))) ∧ Hid (Blk W (w.heap.size + 1) 26 (pB ty st)) ∧ Hid (Blk W (w.heap.size + 2) 26 zP) ∧ Hid (Blk W (w.heap.size + 3) 28 zB))
    ⟨by go_grown, Lib.hid ((((Blk.new _ _ _).alloc _).alloc _).alloc _), Lib.hid (((Blk.new_at (by simp only [World.size_alloc])).alloc _).alloc _), Lib.hid ((Blk.new_at (by simp only [World.size_alloc])).alloc _), Lib.hid (Blk.new_at (by simp only [World.size_alloc]))⟩ ?_
  rintro W ⟨hB, HF, HP, HZ, HX⟩
  have hBs := hB.size
  have hl3 := HX.out.lt
  have hl2 : w.heap.size + 2 < W.heap.size := by omega
  have hl1 : w.heap.size + 1 < W.heap.size := by omega
  have hl0 : w.heap.size < W.heap.size := by omega
  have f0 : W.cell? ⟨w.heap.size, 0, none⟩ = some (.int .i64 ty) := HF.out.cell 0
  have f1 : W.cell? ⟨w.heap.size, 1, none⟩ = some (.int .i64 fl) := HF.out.cell 1
  have f2 : W.cell? ⟨w.heap.size, 2, none⟩ = some (.int .i64 st) := HF.out.cell 2
  have f3 : W.cell? ⟨w.heap.size, 3, none⟩ = some (.slice A n cap) := HF.out.cell 3
  have HRW := Lib.hid (HR.out.below hB (Nat.le_refl _))
  generalize hg : w.heap.size = g at *
  have HG := Lib.hid hg
  clear hg
  go_wp2_with (first
    | (go_at_call 38; refine (padded_none ty fl st _ L _ HRW.out HPN.out).mono ?_; rintro e w1 ⟨rfl, hB1⟩; have hS1 := hB1.size; have HF1 := Lib.hid (HF.out.below hB1 (by omega)); have HP1 := Lib.hid (HP.out.below hB1 (by omega)); have HZ1 := Lib.hid (HZ.out.below hB1 (by omega)); have HX1 := Lib.hid (HX.out.below hB1 (by omega)); have f10 : w1.cell? ⟨g, 0, none⟩ = some (.int .i64 ty) := HF1.out.cell 0; have f11 : w1.cell? ⟨g, 1, none⟩ = some (.int .i64 fl) := HF1.out.cell 1; have f12 : w1.cell? ⟨g, 2, none⟩ = some (.int .i64 st) := HF1.out.cell 2; have f13 : w1.cell? ⟨g, 3, none⟩ = some (.slice A n cap) := HF1.out.cell 3)
    | (go_at_call 21; refine (conn_any 6 _).mono ?_; rintro e w2 ⟨rfl, hB2⟩; have hS2 := hB2.size; have HF2 := Lib.hid (HF1.out.below hB2 (by omega)); have HP2 := Lib.hid (HP1.out.below hB2 (by omega)); have HZ2 := Lib.hid (HZ1.out.below hB2 (by omega)); have HX2 := Lib.hid (HX1.out.below hB2 (by omega)); have f20 : w2.cell? ⟨g, 0, none⟩ = some (.int .i64 ty) := HF2.out.cell 0; have f21 : w2.cell? ⟨g, 1, none⟩ = some (.int .i64 fl) := HF2.out.cell 1; have f22 : w2.cell? ⟨g, 2, none⟩ = some (.int .i64 st) := HF2.out.cell 2; have f23 : w2.cell? ⟨g, 3, none⟩ = some (.slice A n cap) := HF2.out.cell 3)
    | (refine wpList_store_row rfl 26 (.tmp 4) (.tmp 17) rfl (g + 2) rfl zP rfl 26 _ HZ2.out rfl (by kernel_rfl) (by simp [Value.oneCell']) ?_; intro x1 hx1 gx1 sx1; have HXx := Lib.hid (HX2.out.grown gx1 (by simp)))
    | (refine wpList_store_row rfl 28 (.tmp 5) (.tmp 18) rfl (g + 3) rfl #[.int .i64 2, .int .i64 (6), .int .i64 0] rfl 28 _ HXx.out rfl (by kernel_rfl) (by simp [Value.oneCell']) ?_; intro x2 hx2 gx2 sx2))
  have hgo := HG.out
  subst hgo
  refine bodyPost_ret (results_cc rfl _ (w.heap.size + 2) (w.heap.size + 3) 26 28 _ _ _ _ rfl (hx1.grown gx2 (by simp)) Try.underlying26 rfl (by kernel_rfl) rfl hx2 Try.underlying28 rfl (by kernel_rfl)) rfl ⟨⟨_, rfl, isP_zero _ _⟩, ((((hB.trans (hB1.mono (by omega))).trans (hB2.mono (by omega))).grown gx1 (by omega) (fun q hq => by cases hq; omega)).grown gx2 (by omega) (fun q hq => by cases hq; omega))⟩
set_option maxHeartbeats 4000000 in
set_option maxRecDepth 100000 in
theorem data_over (ty fl st : Int) (A : Option Addr) (n cap : Nat) (L : List Int) (w : World) (hR : BS w (.slice A n cap) L) (hln : L.length = n) (hb : Byt L) (hn : n ≤ 1099511627776) (p : Int) (b : List Int) (hp : padF fl L = some (p, b)) (hov : (b.length : Int) < p) :
    Calls Try.prog 22 #[.agg (fC ty fl st (.slice A n cap)), .agg (pB ty st)] w fun e w' => Ans w.heap.size (PP.zero, cB 1) e w' ∧ Below w.heap.size w w' := by
  have HR := Lib.hid hR
  have HL := Lib.hid hln
  have HY := Lib.hid hb
  clear hR hln hb
  obtain ⟨hp0, hp1, hby, hbl⟩ := padF_byt HY.out hp
  have HPN := Lib.hid hp
  have HBY := Lib.hid hby
  rw [HL.out] at hbl
  have hbl' : b.length ≤ 1099511627776 := by omega
  clear hp hby
  go_enter Try.func22, Try.ntmps22
  go_upto_region 1 with fail
  refine wp_forget (fun W => Below w.heap.size w W ∧ Hid (Blk W w.heap.size 32 (fC ty fl st (.slice A n cap))) ∧ Hid (Blk W (w.heap.size + 1) 26 (pB ty st)) ∧ Hid (Blk W (w.heap.size + 2) 26 zP) ∧ Hid (Blk W (w.heap.size + 3) 28 zB))
    ⟨by go_grown, Lib.hid ((((Blk.new _ _ _).alloc _).alloc _).alloc _), Lib.hid (((Blk.new_at (by simp only [World.size_alloc])).alloc _).alloc _), Lib.hid ((Blk.new_at (by simp only [World.size_alloc])).alloc _), Lib.hid (Blk.new_at (by simp only [World.size_alloc]))⟩ ?_
  rintro W ⟨hB, HF, HP, HZ, HX⟩
  have hBs := hB.size
  have hl3 := HX.out.lt
  have hl2 : w.heap.size + 2 < W.heap.size := by omega
  have hl1 : w.heap.size + 1 < W.heap.size := by omega
  have hl0 : w.heap.size < W.heap.size := by omega
  have f0 : W.cell? ⟨w.heap.size, 0, none⟩ = some (.int .i64 ty) := HF.out.cell 0
  have f1 : W.cell? ⟨w.heap.size, 1, none⟩ = some (.int .i64 fl) := HF.out.cell 1
  have f2 : W.cell? ⟨w.heap.size, 2, none⟩ = some (.int .i64 st) := HF.out.cell 2
  have f3 : W.cell? ⟨w.heap.size, 3, none⟩ = some (.slice A n cap) := HF.out.cell 3
  have HRW := Lib.hid (HR.out.below hB (Nat.le_refl _))
  generalize hg : w.heap.size = g at *
  have HG := Lib.hid hg
  clear hg
  go_wp2_with (first
    | (go_at_call 38; refine (padded_any ty fl st _ L _ HRW.out HY.out p b HPN.out).mono ?_; rintro e w1 ⟨⟨vb, rfl, hvb⟩, hB1⟩; have hS1 := hB1.size; have HF1 := Lib.hid (HF.out.below hB1 (by omega)); have HP1 := Lib.hid (HP.out.below hB1 (by omega)); have HZ1 := Lib.hid (HZ.out.below hB1 (by omega)); have HX1 := Lib.hid (HX.out.below hB1 (by omega)); have f10 : w1.cell? ⟨g, 0, none⟩ = some (.int .i64 ty) := HF1.out.cell 0; have f11 : w1.cell? ⟨g, 1, none⟩ = some (.int .i64 fl) := HF1.out.cell 1; have f12 : w1.cell? ⟨g, 2, none⟩ = some (.int .i64 st) := HF1.out.cell 2; have f13 : w1.cell? ⟨g, 3, none⟩ = some (.slice A n cap) := HF1.out.cell 3; have HVB := Lib.hid hvb; obtain ⟨Ab, cb, rfl, hkb, hmb, -⟩ := hvb)
    | (go_at_call 21; refine (conn_any 1 _).mono ?_; rintro e w2 ⟨rfl, hB2⟩; have hS2 := hB2.size; have HF2 := Lib.hid (HF1.out.below hB2 (by omega)); have HP2 := Lib.hid (HP1.out.below hB2 (by omega)); have HZ2 := Lib.hid (HZ1.out.below hB2 (by omega)); have HX2 := Lib.hid (HX1.out.below hB2 (by omega)); have f20 : w2.cell? ⟨g, 0, none⟩ = some (.int .i64 ty) := HF2.out.cell 0; have f21 : w2.cell? ⟨g, 1, none⟩ = some (.int .i64 fl) := HF2.out.cell 1; have f22 : w2.cell? ⟨g, 2, none⟩ = some (.int .i64 st) := HF2.out.cell 2; have f23 : w2.cell? ⟨g, 3, none⟩ = some (.slice A n cap) := HF2.out.cell 3)
    | (refine wpList_store_row rfl 26 (.tmp 4) (.tmp 23) rfl (g + 2) rfl zP rfl 26 _ HZ2.out rfl (by kernel_rfl) (by simp [Value.oneCell']) ?_; intro x1 hx1 gx1 sx1; have HXx := Lib.hid (HX2.out.grown gx1 (by simp)))
    | (refine wpList_store_row rfl 28 (.tmp 5) (.tmp 24) rfl (g + 3) rfl #[.int .i64 2, .int .i64 (1), .int .i64 0] rfl 28 _ HXx.out rfl (by kernel_rfl) (by simp [Value.oneCell']) ?_; intro x2 hx2 gx2 sx2))
  have hgo := HG.out
  subst hgo
  refine bodyPost_ret (results_cc rfl _ (w.heap.size + 2) (w.heap.size + 3) 26 28 _ _ _ _ rfl (hx1.grown gx2 (by simp)) Try.underlying26 rfl (by kernel_rfl) rfl hx2 Try.underlying28 rfl (by kernel_rfl)) rfl ⟨⟨_, rfl, isP_zero _ _⟩, ((((hB.trans (hB1.mono (by omega))).trans (hB2.mono (by omega))).grown gx1 (by omega) (fun q hq => by cases hq; omega)).grown gx2 (by omega) (fun q hq => by cases hq; omega))⟩
set_option maxHeartbeats 4000000 in
set_option maxRecDepth 100000 in
theorem data_ok (ty fl st : Int) (A : Option Addr) (n cap : Nat) (L : List Int) (w : World) (hR : BS w (.slice A n cap) L) (hln : L.length = n) (hb : Byt L) (hn : n ≤ 1099511627776) (p : Int) (b : List Int) (hp : padF fl L = some (p, b)) (b' : List Int) (hb' : b.take ((b.length : Int) - p).toNat = b') (hov : ¬ (b.length : Int) < p) :
    Calls Try.prog 22 #[.agg (fC ty fl st (.slice A n cap)), .agg (pB ty st)] w fun e w' => Ans w.heap.size ({ PP.base ty st with e := flag fl 1, cs := (n : Int), body := b' }, okB) e w' ∧ Below w.heap.size w w' := by
  have HR := Lib.hid hR
  have HL := Lib.hid hln
  have HY := Lib.hid hb
  clear hR hln hb
  obtain ⟨hp0, hp1, hby, hbl⟩ := padF_byt HY.out hp
  have HPN := Lib.hid hp
  have HBY := Lib.hid hby
  rw [HL.out] at hbl
  have hbl' : b.length ≤ 1099511627776 := by omega
  clear hp hby
  have hlt2 : b'.length ≤ 1099511627776 := by rw [← hb']; simp; omega
  have HB' := Lib.hid hb'
  clear hb'
  go_enter Try.func22, Try.ntmps22
  go_upto_region 1 with fail
  refine wp_forget (fun W => Below w.heap.size w W ∧ Hid (Blk W w.heap.size 32 (fC ty fl st (.slice A n cap))) ∧ Hid (Blk W (w.heap.size + 1) 26 (pB ty st)) ∧ Hid (Blk W (w.heap.size + 2) 26 zP) ∧ Hid (Blk W (w.heap.size + 3) 28 zB))
    ⟨by go_grown, Lib.hid ((((Blk.new _ _ _).alloc _).alloc _).alloc _), Lib.hid (((Blk.new_at (by simp only [World.size_alloc])).alloc _).alloc _), Lib.hid ((Blk.new_at (by simp only [World.size_alloc])).alloc _), Lib.hid (Blk.new_at (by simp only [World.size_alloc]))⟩ ?_
  rintro W ⟨hB, HF, HP, HZ, HX⟩
  have hBs := hB.size
  have hl3 := HX.out.lt
  have hl2 : w.heap.size + 2 < W.heap.size := by omega
  have hl1 : w.heap.size + 1 < W.heap.size := by omega
  have hl0 : w.heap.size < W.heap.size := by omega
  have f0 : W.cell? ⟨w.heap.size, 0, none⟩ = some (.int .i64 ty) := HF.out.cell 0
  have f1 : W.cell? ⟨w.heap.size, 1, none⟩ = some (.int .i64 fl) := HF.out.cell 1
  have f2 : W.cell? ⟨w.heap.size, 2, none⟩ = some (.int .i64 st) := HF.out.cell 2
  have f3 : W.cell? ⟨w.heap.size, 3, none⟩ = some (.slice A n cap) := HF.out.cell 3
  have HRW := Lib.hid (HR.out.below hB (Nat.le_refl _))
  generalize hg : w.heap.size = g at *
  have HG := Lib.hid hg
  clear hg
  go_wp2_with (go_at_call 38; refine (padded_any ty fl st _ L _ HRW.out HY.out p b HPN.out).mono ?_; rintro e w1 ⟨⟨vb, rfl, hvb⟩, hB1⟩; have hS1 := hB1.size; have HF1 := Lib.hid (HF.out.below hB1 (by omega)); have HP1 := Lib.hid (HP.out.below hB1 (by omega)); have HZ1 := Lib.hid (HZ.out.below hB1 (by omega)); have HX1 := Lib.hid (HX.out.below hB1 (by omega)); have f10 : w1.cell? ⟨g, 0, none⟩ = some (.int .i64 ty) := HF1.out.cell 0; have f11 : w1.cell? ⟨g, 1, none⟩ = some (.int .i64 fl) := HF1.out.cell 1; have f12 : w1.cell? ⟨g, 2, none⟩ = some (.int .i64 st) := HF1.out.cell 2; have f13 : w1.cell? ⟨g, 3, none⟩ = some (.slice A n cap) := HF1.out.cell 3; have HVB := Lib.hid hvb; obtain ⟨Ab, cb, rfl, hkb, hmb, -⟩ := hvb)
  obtain ⟨A2, n2, c2, hrun, hsl⟩ := run_to HVB.out ((b.length : Int) - p) (by omega) (by omega)
  rw [HB'.out] at hsl
  have HSL := Lib.hid hsl
  clear hsl
  have c2' : w1.frozen? ⟨g + 1, 2, none⟩ = false := HP1.out.frozen 2
  have c2 : w1.cell? ⟨g + 1, 2, none⟩ = some (.bool false) := HP1.out.cell 2
  have c9' : w1.frozen? ⟨g + 1, 9, none⟩ = false := HP1.out.frozen 9
  have c9 : w1.cell? ⟨g + 1, 9, none⟩ = some (.int .i64 0) := HP1.out.cell 9
  have c5' : w1.frozen? ⟨g + 1, 5, none⟩ = false := HP1.out.frozen 5
  have c5 : w1.cell? ⟨g + 1, 5, none⟩ = some (.slice none 0 0) := HP1.out.cell 5
  have q0 : g < w1.heap.size := by omega
  have q1 : g + 1 < w1.heap.size := by omega
  have h0n : 0 ≤ (b.length : Int) - p := by omega
  have hw : IntKind.i64.wrap ((b.length : Int) - p) = (b.length : Int) - p := by simp [IntKind.wrap, IntKind.bits, IntKind.signed]; omega
  go_region_held3 (fun wx => wx.cell? ⟨g, 1, none⟩ = some (.int .i64 fl) ∧ wx.cell? ⟨g, 3, none⟩ = some (.slice A n cap)) (refine ⟨?_, ?_⟩ <;> first | assumption | go_simp) ((go_at_call 27; refine (copied_any _ _ _ (HSL.out.below (by go_grown) (Nat.le_refl _)) hlt2).mono ?_; rintro e we2 ⟨⟨vc, rfl, hown⟩, hD2⟩; obtain ⟨Ac, cc, rfl⟩ := own_form hown; obtain ⟨d2, e2⟩ := bcell (show Below w1.heap.size w1 we2 from Below.trans (by go_grown) hD2); have k1 : we2.cell? ⟨g, 1, none⟩ = some (.int .i64 fl) := (d2 g 1 q0).trans f11; have k3 : we2.cell? ⟨g, 3, none⟩ = some (.slice A n cap) := (d2 g 3 q0).trans f13; have c2'' : we2.cell? ⟨g + 1, 2, none⟩ = some (.bool false) := (d2 _ 2 q1).trans c2; have z2'' : we2.frozen? ⟨g + 1, 2, none⟩ = false := (e2 _ 2 q1).trans c2'; have c9'' : we2.cell? ⟨g + 1, 9, none⟩ = some (.int .i64 0) := (d2 _ 9 q1).trans c9; have z9'' : we2.frozen? ⟨g + 1, 9, none⟩ = false := (e2 _ 9 q1).trans c9'; have c5'' : we2.cell? ⟨g + 1, 5, none⟩ = some (.slice none 0 0) := (d2 _ 5 q1).trans c5; have z5'' : we2.frozen? ⟨g + 1, 5, none⟩ = false := (e2 _ 5 q1).trans c5'))
  all_goals
    have hB2' : Below w1.heap.size w1 we2 := Below.trans (by go_grown) hD2
    have HPe := Lib.hid ((((HP1.out.below hB2' q1).put 2 (.bool (flag fl 1))).put 9 (.int .i64 n)).put 5 (.slice Ac b'.length cc))
    have HZe := Lib.hid ((((HZ1.out.below hB2' (by omega)).far (p := ⟨g + 1, 2, none⟩) (by simp) (.bool (flag fl 1))).far (p := ⟨g + 1, 9, none⟩) (by simp) (.int .i64 n)).far (p := ⟨g + 1, 5, none⟩) (by simp) (.slice Ac b'.length cc))
    have HXe := Lib.hid ((((HX1.out.below hB2' (by omega)).far (p := ⟨g + 1, 2, none⟩) (by simp) (.bool (flag fl 1))).far (p := ⟨g + 1, 9, none⟩) (by simp) (.int .i64 n)).far (p := ⟨g + 1, 5, none⟩) (by simp) (.slice Ac b'.length cc))
    have hown' : we2.ownsRow w1.heap.size 5 1 (.slice Ac b'.length cc) b'.length (bv b') := hown
    have HOe := Lib.hid (ownsRow_setCell_below (ownsRow_setCell_below (ownsRow_setCell_below hown' (a := ⟨g + 1, 2, none⟩) q1 (.bool (flag fl 1))) (a := ⟨g + 1, 9, none⟩) q1 (.int .i64 n)) (a := ⟨g + 1, 5, none⟩) q1 (.slice Ac b'.length cc))
    have hBe : Below g w (((we2.setCell ⟨g + 1, 2, none⟩ (.bool (flag fl 1))).setCell ⟨g + 1, 9, none⟩ (.int .i64 n)).setCell ⟨g + 1, 5, none⟩ (.slice Ac b'.length cc)) := (((((hB.trans (hB1.mono (by omega))).trans (hB2'.mono (by omega))).setCell (by simp) (.bool (flag fl 1))).setCell (by simp) (.int .i64 n)).setCell (by simp) (.slice Ac b'.length cc))
    change Exit.then _ _ _ _ (((we2.setCell ⟨g + 1, 2, none⟩ (.bool (flag fl 1))).setCell ⟨g + 1, 9, none⟩ (.int .i64 n)).setCell ⟨g + 1, 5, none⟩ (.slice Ac b'.length cc))
    have hse : w1.heap.size ≤ (((we2.setCell ⟨g + 1, 2, none⟩ (.bool (flag fl 1))).setCell ⟨g + 1, 9, none⟩ (.int .i64 n)).setCell ⟨g + 1, 5, none⟩ (.slice Ac b'.length cc)).heap.size := by simp only [World.size_setCell]; exact hB2'.size
    clear HPN HBY hrun hB1 hown hown' hD2 hB2' d2 e2
    generalize (((we2.setCell ⟨g + 1, 2, none⟩ (.bool (flag fl 1))).setCell ⟨g + 1, 9, none⟩ (.int .i64 n)).setCell ⟨g + 1, 5, none⟩ (.slice Ac b'.length cc)) = we at *
    go_wp2_with (first
      | (refine wpList_load_row rfl 26 (.tmp 3) rfl (g + 1) rfl 26 _ _ _ HPe.out Try.underlying26 rfl (by kernel_rfl) ?_)
      | (refine wpList_store_row rfl 26 (.tmp 4) (.tmp 42) rfl (g + 2) rfl #[.int .i64 ty, .int .i64 st, .bool (flag fl 1), .bool false, .bool false, .slice Ac b'.length cc, .int .i64 0, .int .i64 0, .int .i64 0, .int .i64 n, .slice none 0 0] rfl 26 _ HZe.out rfl (by kernel_rfl) (by simp [Value.oneCell']) ?_; intro x1 hx1 gx1 sx1; have HXx := Lib.hid (HXe.out.grown gx1 (by simp)))
      | (refine wpList_store_row rfl 28 (.tmp 5) (.tmp 43) rfl (g + 3) rfl zB rfl 28 _ HXx.out rfl (by kernel_rfl) (by simp [Value.oneCell']) ?_; intro x2 hx2 gx2 sx2))
    have hgo := HG.out
    subst hgo
    refine bodyPost_ret (results_cc rfl _ (w.heap.size + 2) (w.heap.size + 3) 26 28 _ _ _ _ rfl (hx1.grown gx2 (by simp)) Try.underlying26 rfl (by kernel_rfl) rfl hx2 Try.underlying28 rfl (by kernel_rfl)) rfl ⟨⟨_, rfl, ⟨.slice Ac b'.length cc, .slice none 0 0, rfl, (own_grown (own_grown HOe.out gx1 (by omega)) gx2 (by omega)).mono (by omega), World.ownsRow_nil _ _ _ _⟩⟩, ((hBe.grown gx1 (by omega) (fun q hq => by cases hq; omega)).grown gx2 (by omega) (fun q hq => by cases hq; omega))⟩
theorem data_any (ty fl st : Int) (v : Value) (L : List Int) (w : World) (hR : BS w v L) (hb : Byt L) (hn : L.length ≤ 1099511627776) :
    Calls Try.prog 22 #[.agg (fC ty fl st v), .agg (pB ty st)] w fun e w' => Ans w.heap.size (dataF ty fl st L) e w' ∧ Below w.heap.size w w' := by
  obtain ⟨A, cap, rfl, _⟩ := id hR
  unfold dataF
  cases hp : padF fl L with
  | none => exact data_none ty fl st A _ cap L w hR rfl hb hn hp
  | some pb =>
    obtain ⟨p, b⟩ := pb
    show Calls _ _ _ _ fun e w' => Ans w.heap.size (if (b.length : Int) < p then _ else _) e w' ∧ _
    by_cases hov : (b.length : Int) < p
    · rw [if_pos hov]; exact data_over ty fl st A _ cap L w hR rfl hb hn p b hp hov
    · rw [if_neg hov]; exact data_ok ty fl st A _ cap L w hR rfl hb hn p b hp _ rfl hov
end Go.Proofs.Ytolpfbdklcjlkaa
