/- The shapes, turned from w10: Of at a frame of settings. -/
import Derived.Test.YtdlmocjkhkopgaaShSpec
import Derived.Test.YtdlmocjkhkopgaaShSett
namespace Go.Proofs.Ytdlmocjkhkopgaa.Sh
open Go.ChangeShapes Go.WideShapes Go.ChangeAt Go.RowKit
set_option linter.unusedVariables false
set_option linter.unusedSimpArgs false
set_option maxHeartbeats 4000000 in
set_option maxRecDepth 100000 in
theorem of_sett (ty fl st : Int) (A : Option Addr) (n cap : Nat) (L : List Int) (w : World) (hR : BS w (.slice A n cap) L) (hln : L.length = n) (hb : Byt L) (hn : n ≤ 1099511627776) (hrg : rightB ty fl st n = true) (h9 : ¬ 9 < ty) (hmi : misB ty st = false) (e0 : (ty == 0) = false) (e1 : (ty == 1) = false) (e2 : (ty == 2) = false) (e3 : (ty == 3) = false) (e4 : (ty == 4) = true) (r : PP × (Int × Int × Int)) (hr : setF ty fl st L = r) :
    Calls Try.prog 19 #[.agg (fC ty fl st (.slice A n cap))] w fun e w' => Ans w.heap.size (r) e w' ∧ Below w.heap.size w w' := by
  have HR := Lib.hid hR
  have HL := Lib.hid hln
  have HY := Lib.hid hb
  clear hR hln hb
  have HRG := Lib.hid hrg
  clear hrg
  have HMI := Lib.hid hmi
  clear hmi
  have HRR := Lib.hid hr
  clear hr
  obtain ⟨⟨qty, qst, qe, qf, qk, qbody, qco, qla, qmo, qcs, qn, qZ⟩, qb⟩ := r
  go_enter Try.func19, Try.ntmps19
  go_upto_region 2 with fail
  refine wp_forget (fun W => Below w.heap.size w W ∧ Hid (Blk W w.heap.size 51 (fC ty fl st (.slice A n cap))) ∧ Hid (Blk W (w.heap.size + 1) 45 zP) ∧ Hid (Blk W (w.heap.size + 2) 47 zB) ∧ Hid (Blk W (w.heap.size + 3) 45 (pB ty st)))
    ⟨by go_grown, Lib.hid ((((Blk.new _ _ _).alloc _).alloc _).alloc _), Lib.hid (((Blk.new_at (by simp only [World.size_alloc])).alloc _).alloc _), Lib.hid ((Blk.new_at (by simp only [World.size_alloc])).alloc _), Lib.hid (Blk.new_at (by simp only [World.size_alloc]))⟩ ?_
  rintro W ⟨hB, HF, HZ, HX, HP⟩
  have hBs := hB.size
  have hl3 := HP.out.lt
  have hl0 : w.heap.size < W.heap.size := by omega
  have f0 : W.cell? ⟨w.heap.size, 0, none⟩ = some (.int .i64 ty) := HF.out.cell 0
  have f1 : W.cell? ⟨w.heap.size, 1, none⟩ = some (.int .i64 fl) := HF.out.cell 1
  have f2 : W.cell? ⟨w.heap.size, 2, none⟩ = some (.int .i64 st) := HF.out.cell 2
  have f3 : W.cell? ⟨w.heap.size, 3, none⟩ = some (.slice A n cap) := HF.out.cell 3
  have HRW := Lib.hid (HR.out.below hB (Nat.le_refl _))
  generalize hg : w.heap.size = g at *
  have HG := Lib.hid hg
  clear hg
  go_wp2_with (first
    | (go_at_call 22; refine (right_any ty fl st A n cap _).mono ?_; rintro e w1 ⟨rfl, hB1⟩; have hS1 := hB1.size; have HF1 := Lib.hid (HF.out.below hB1 (by omega)); have HP1 := Lib.hid (HP.out.below hB1 (by omega)); have HZ1 := Lib.hid (HZ.out.below hB1 (by omega)); have HX1 := Lib.hid (HX.out.below hB1 (by omega)); have f10 : w1.cell? ⟨g, 0, none⟩ = some (.int .i64 ty) := HF1.out.cell 0; have f11 : w1.cell? ⟨g, 1, none⟩ = some (.int .i64 fl) := HF1.out.cell 1; have f12 : w1.cell? ⟨g, 2, none⟩ = some (.int .i64 st) := HF1.out.cell 2; have f13 : w1.cell? ⟨g, 3, none⟩ = some (.slice A n cap) := HF1.out.cell 3; rw [HRG.out])
    | (go_at_call 23; refine (mis_any ty fl st _ _).mono ?_; rintro e w2 ⟨rfl, hB2⟩; have hS2 := hB2.size; have HF2 := Lib.hid (HF1.out.below hB2 (by omega)); have HP2 := Lib.hid (HP1.out.below hB2 (by omega)); have HZ2 := Lib.hid (HZ1.out.below hB2 (by omega)); have HX2 := Lib.hid (HX1.out.below hB2 (by omega)); have f20 : w2.cell? ⟨g, 0, none⟩ = some (.int .i64 ty) := HF2.out.cell 0; have f21 : w2.cell? ⟨g, 1, none⟩ = some (.int .i64 fl) := HF2.out.cell 1; have f22 : w2.cell? ⟨g, 2, none⟩ = some (.int .i64 st) := HF2.out.cell 2; have f23 : w2.cell? ⟨g, 3, none⟩ = some (.slice A n cap) := HF2.out.cell 3; rw [HMI.out])
    | (go_at_call 29; refine (sett_any ty fl st _ L _ (HRW.out.below (hB1.trans (hB2.mono (by omega))) (Nat.le_refl _)) HY.out (by rw [HL.out]; exact hn)).mono ?_; rintro e w3 ⟨hans, hB3⟩; have hS3 := hB3.size; have HF3 := Lib.hid (HF2.out.below hB3 (by omega)); have HP3 := Lib.hid (HP2.out.below hB3 (by omega)); have HZ3 := Lib.hid (HZ2.out.below hB3 (by omega)); have HX3 := Lib.hid (HX2.out.below hB3 (by omega)); have f30 : w3.cell? ⟨g, 0, none⟩ = some (.int .i64 ty) := HF3.out.cell 0; have f31 : w3.cell? ⟨g, 1, none⟩ = some (.int .i64 fl) := HF3.out.cell 1; have f32 : w3.cell? ⟨g, 2, none⟩ = some (.int .i64 st) := HF3.out.cell 2; have f33 : w3.cell? ⟨g, 3, none⟩ = some (.slice A n cap) := HF3.out.cell 3; rw [HRR.out] at hans; obtain ⟨v, rfl, vb, vs, rfl, hob, hsv⟩ := hans; obtain ⟨Ab, cb, rfl⟩ := own_form hob; obtain ⟨As, cs, rfl⟩ := own_form hsv; have HOB := Lib.hid hob; have HSV := Lib.hid hsv; clear hob hsv)
    | (refine wpList_store_row rfl 45 (.tmp 2) (.tmp 65) rfl (g + 1) rfl _ rfl 45 _ HZ3.out rfl (by kernel_rfl) (by simp [Value.oneCell']) ?_; intro x1 hx1 gx1 sx1; have HXx := Lib.hid (HX3.out.grown gx1 (by simp)))
    | (refine wpList_store_row rfl 47 (.tmp 3) (.tmp 66) rfl (g + 2) rfl _ rfl 47 _ HXx.out rfl (by kernel_rfl) (by simp [Value.oneCell']) ?_; intro x2 hx2 gx2 sx2)
    | (refine wpList_load_row rfl 45 (.tmp 4) rfl (g + 3) rfl 45 _ _ _ HP2.out Try.underlying45 rfl (by kernel_rfl) ?_))
  have hgo := HG.out
  subst hgo
  refine bodyPost_ret (results_cc rfl _ (w.heap.size + 1) (w.heap.size + 2) 45 47 _ _ _ _ rfl (hx1.grown gx2 (by simp)) Try.underlying45 rfl (by kernel_rfl) rfl hx2 Try.underlying47 rfl (by kernel_rfl)) rfl ⟨⟨_, rfl, ⟨_, _, rfl, (own_grown (own_grown HOB.out gx1 (by omega)) gx2 (by omega)).mono (by omega), (own_grown (own_grown HSV.out gx1 (by omega)) gx2 (by omega)).mono (by omega)⟩⟩, (((((hB.trans (hB1.mono (by omega))).trans (hB2.mono (by omega))).trans (hB3.mono (by omega))).grown gx1 (by omega) (fun q hq => by cases hq; omega)).grown gx2 (by omega) (fun q hq => by cases hq; omega))⟩

end Go.Proofs.Ytdlmocjkhkopgaa.Sh
