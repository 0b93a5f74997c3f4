/- The document's answer to any frame: PING, CONTINUATION, GOAWAY. -/
import Derived.Test.YtolpfbdklcjlkaaRShape
namespace Go.Proofs.Ytolpfbdklcjlkaa
open Go.ChangeShapes Go.WideShapes Go.ChangeAt Go.RowKit
set_option linter.unusedVariables false
set_option linter.unusedSimpArgs false

theorem fixown {w : World} {B n : Nat} {v : Value} {L b : List Int} (hn : b.length = n) (hb : L = b) (h : w.ownsRow B 5 1 v (0 + n) ([] ++ bv L)) : w.ownsRow B 5 1 v b.length (bv b) := by
  subst hb
  rw [Nat.zero_add, List.nil_append] at h
  rw [hn]
  exact h
set_option maxHeartbeats 4000000 in
set_option maxRecDepth 100000 in
theorem rs_ping (ty fl st : Int) (A : Option Addr) (n cap : Nat) (L : List Int) (w : World) (hR : BS w (.slice A n cap) L) (hln : L.length = n) (hb : Byt L) (hn : n ≤ 1099511627776) (hrg : rightB ty fl st n = true) (h9 : ¬ 9 < ty) (e0 : (ty == 0) = false) (e1 : (ty == 1) = false) (e2 : (ty == 2) = false) (e3 : (ty == 3) = false) (e4 : (ty == 4) = false) (e5 : (ty == 5) = false) (e6 : (ty == 6) = true) (e7 : (ty == 7) = false) (e8 : (ty == 8) = false) (e9 : (ty == 9) = false) (n8 : (ty != 8) = true) (s0 : (st == 0) = true) (m0 : (st != 0) = false) (hlen : n = 8) (b' : List Int) (hb' : L = b')  :
    Calls Try.prog 15 #[.agg (fC ty fl st (.slice A n cap))] w fun e w' => Ans w.heap.size ({ PP.base ty st with k := flag fl 1, body := b' }, okB) e w' ∧ Below w.heap.size w w' := by
  have HR := Lib.hid hR
  have HL := Lib.hid hln
  have HY := Lib.hid hb
  clear hR hln hb
  have HRG := Lib.hid hrg
  clear hrg
  have HB' := Lib.hid hb'
  clear hb'
  have hlk : ((n : Int) != 8) = false := by simp; omega
  have hl4 : 4 ≤ L.length := by rw [HL.out]; omega
  clear hlen
  go_enter Try.func15, Try.ntmps15
  go_upto_region 2 with fail
  refine wp_forget (fun W => Below w.heap.size w W ∧ Hid (Blk W w.heap.size 32 (fC ty fl st (.slice A n cap))) ∧ Hid (Blk W (w.heap.size + 1) 26 zP) ∧ Hid (Blk W (w.heap.size + 2) 28 zB) ∧ Hid (Blk W (w.heap.size + 3) 26 (pB ty st)))
    ⟨by go_grown, Lib.hid ((((Blk.new _ _ _).alloc _).alloc _).alloc _), Lib.hid (((Blk.new_at (by simp only [World.size_alloc])).alloc _).alloc _), Lib.hid ((Blk.new_at (by simp only [World.size_alloc])).alloc _), Lib.hid (Blk.new_at (by simp only [World.size_alloc]))⟩ ?_
  rintro W ⟨hB, HF, HZ, HX, HP⟩
  have hBs := hB.size
  have hl3 := HP.out.lt
  have hl0 : w.heap.size < W.heap.size := by omega
  have f0 : W.cell? ⟨w.heap.size, 0, none⟩ = some (.int .i64 ty) := HF.out.cell 0
  have f1 : W.cell? ⟨w.heap.size, 1, none⟩ = some (.int .i64 fl) := HF.out.cell 1
  have f2 : W.cell? ⟨w.heap.size, 2, none⟩ = some (.int .i64 st) := HF.out.cell 2
  have f3 : W.cell? ⟨w.heap.size, 3, none⟩ = some (.slice A n cap) := HF.out.cell 3
  have HRW := Lib.hid (HR.out.below hB (Nat.le_refl _))
  generalize hg : w.heap.size = g at *
  have HG := Lib.hid hg
  clear hg
  go_upto_region 26 with (go_at_call 32; refine (rright_any ty fl st A n cap _).mono ?_; rintro e w1 ⟨rfl, hB1⟩; have hS1 := hB1.size; have HF1 := Lib.hid (HF.out.below hB1 (by omega)); have HP1 := Lib.hid (HP.out.below hB1 (by omega)); have HZ1 := Lib.hid (HZ.out.below hB1 (by omega)); have HX1 := Lib.hid (HX.out.below hB1 (by omega)); have f10 : w1.cell? ⟨g, 0, none⟩ = some (.int .i64 ty) := HF1.out.cell 0; have f11 : w1.cell? ⟨g, 1, none⟩ = some (.int .i64 fl) := HF1.out.cell 1; have f12 : w1.cell? ⟨g, 2, none⟩ = some (.int .i64 st) := HF1.out.cell 2; have f13 : w1.cell? ⟨g, 3, none⟩ = some (.slice A n cap) := HF1.out.cell 3; rw [HRG.out])
  have HRX := Lib.hid (HRW.out.below hB1 (Nat.le_refl _))
  have HSR := Lib.hid (bs_src (HRX.out.below (below_self w1 (.cells #[] 5)) (Nat.le_refl _)))
  have hbl := HB'.out
  have HN3 : Hid (b'.length = n) := Lib.hid (by rw [← hbl]; exact HL.out)
  clear hbl
  obtain ⟨i0, hi, hz0, hz1, hz2⟩ := info_parts info5
  have c4' : w1.frozen? ⟨g + 3, 4, none⟩ = false := HP1.out.frozen 4
  have c4 : w1.cell? ⟨g + 3, 4, none⟩ = some (.bool false) := HP1.out.cell 4
  have c5' : w1.frozen? ⟨g + 3, 5, none⟩ = false := HP1.out.frozen 5
  have c5 : w1.cell? ⟨g + 3, 5, none⟩ = some (.slice none 0 0) := HP1.out.cell 5
  have hmx : 0 + n ≤ maxLen := by unfold maxLen; omega
  have hbx : (0 + n) * 1 ≤ 140737488355328 := by omega
  have hsx : w1.heap.size ≤ (w1.alloc (.cells #[] 5)).drew.heap.size := Nat.le_of_lt (lt_alloc _ _)
  have hq0 : g < w1.heap.size := by omega
  have hq1 : g < w1.heap.size + 1 := by omega
  go_region_held3 (fun wx => wx.cell? ⟨g, 1, none⟩ = some (.int .i64 fl)) (first | assumption | go_simp) ((refine step_append_src rfl (.tmp 125) (.tmp 126) 22 rfl w1.heap.size 5 i0 _ 1 1 Try.underlying22 hi hz0 hz1 hz2 rfl (by decide) (.slice (some ⟨w1.heap.size, 0, none⟩) 0 0) 0 [] rfl ((World.ownsRow_lit (base := w1.heap.size) w1 #[] 0 (Nat.le_refl _) (by decide) rfl).drew) A n cap (bv L) rfl HSR.out.2.1 (by rw [bv_len, HL.out, Nat.mul_one]) HSR.out.2.2 (bv_one _) hmx hbx hsx ?_; intro va wa hown1 hg1; have hown2 : wa.ownsRow w1.heap.size 5 1 va b'.length (bv b') := fixown HN3.out HB'.out hown1; have hBa : Below w1.heap.size w1 wa := Below.grown (w := (w1.alloc (.cells #[] 5)).drew) (by go_grown) hg1 hsx (fun q hq => Nat.le_of_eq (by cases hq; rfl)); obtain ⟨Av, cv, rfl⟩ := own_form hown2; have HO := Lib.hid hown2; have hsa := hBa.size; have HPa := Lib.hid (HP1.out.below hBa (by omega)); have kk1 : wa.cell? ⟨g, 1, none⟩ = some (.int .i64 fl) := (HF1.out.below hBa (by omega)).cell 1; have c4'' : wa.cell? ⟨g + 3, 4, none⟩ = some (.bool false) := HPa.out.cell 4; have z4'' : wa.frozen? ⟨g + 3, 4, none⟩ = false := HPa.out.frozen 4; have c5'' : wa.cell? ⟨g + 3, 5, none⟩ = some (.slice none 0 0) := HPa.out.cell 5; have z5'' : wa.frozen? ⟨g + 3, 5, none⟩ = false := HPa.out.frozen 5))
  all_goals
    have HPe := Lib.hid ((HPa.out.put 4 (.bool (flag fl 1))).put 5 (.slice Av b'.length cv))
    have HZe := Lib.hid (((HZ1.out.below hBa (by omega)).far (p := ⟨g + 3, 4, none⟩) (by simp) (.bool (flag fl 1))).far (p := ⟨g + 3, 5, none⟩) (by simp) (.slice Av b'.length cv))
    have HXe := Lib.hid (((HX1.out.below hBa (by omega)).far (p := ⟨g + 3, 4, none⟩) (by simp) (.bool (flag fl 1))).far (p := ⟨g + 3, 5, none⟩) (by simp) (.slice Av b'.length cv))
    have HOe := Lib.hid (ownsRow_setCell_below (ownsRow_setCell_below HO.out (a := ⟨g + 3, 4, none⟩) (show g + 3 < w1.heap.size by omega) (.bool (flag fl 1))) (a := ⟨g + 3, 5, none⟩) (show g + 3 < w1.heap.size by omega) (.slice Av b'.length cv))
    have hBe : Below g w ((wa.setCell ⟨g + 3, 4, none⟩ (.bool (flag fl 1))).setCell ⟨g + 3, 5, none⟩ (.slice Av b'.length cv)) := ((((hB.trans (hB1.mono (by omega))).trans (hBa.mono (by omega))).setCell (by simp) (.bool (flag fl 1))).setCell (by simp) (.slice Av b'.length cv))
    change Exit.inBlock _ _ _ _ ((wa.setCell ⟨g + 3, 4, none⟩ (.bool (flag fl 1))).setCell ⟨g + 3, 5, none⟩ (.slice Av b'.length cv))
    have hse : w1.heap.size ≤ ((wa.setCell ⟨g + 3, 4, none⟩ (.bool (flag fl 1))).setCell ⟨g + 3, 5, none⟩ (.slice Av b'.length cv)).heap.size := by simp only [World.size_setCell]; exact hsa
    clear HO HPa hBa hB1
    generalize ((wa.setCell ⟨g + 3, 4, none⟩ (.bool (flag fl 1))).setCell ⟨g + 3, 5, none⟩ (.slice Av b'.length cv)) = we at *
    go_wp2_with (first
      | (refine wpList_load_row rfl 26 (.tmp 4) rfl (g + 3) rfl 26 _ _ _ HPe.out Try.underlying26 rfl (by kernel_rfl) ?_)
      | (refine wpList_store_row rfl 26 (.tmp 2) (.tmp 191) rfl (g + 1) rfl #[.int .i64 ty, .int .i64 st, .bool false, .bool false, .bool (flag fl 1), .slice Av b'.length cv, .int .i64 0, .int .i64 0, .int .i64 0, .int .i64 0, .slice none 0 0] rfl 26 _ HZe.out rfl (by kernel_rfl) (by simp [Value.oneCell']) ?_; intro x1 hx1 gx1 sx1; have HXx := Lib.hid (HXe.out.grown gx1 (by simp)))
      | (refine wpList_store_row rfl 28 (.tmp 3) (.tmp 192) rfl (g + 2) rfl zB rfl 28 _ HXx.out rfl (by kernel_rfl) (by simp [Value.oneCell']) ?_; intro x2 hx2 gx2 sx2))
    have hgo := HG.out
    subst hgo
    refine bodyPost_ret (results_cc rfl _ (w.heap.size + 1) (w.heap.size + 2) 26 28 _ _ _ _ rfl (hx1.grown gx2 (by simp)) Try.underlying26 rfl (by kernel_rfl) rfl hx2 Try.underlying28 rfl (by kernel_rfl)) rfl ⟨⟨_, rfl, ⟨.slice Av b'.length cv, .slice none 0 0, rfl, (own_grown (own_grown HOe.out gx1 (by omega)) gx2 (by omega)).mono (by omega), World.ownsRow_nil _ _ _ _⟩⟩, ((hBe.grown gx1 (by omega) (fun q hq => by cases hq; omega)).grown gx2 (by omega) (fun q hq => by cases hq; omega))⟩
set_option maxHeartbeats 4000000 in
set_option maxRecDepth 100000 in
theorem rs_cont (ty fl st : Int) (A : Option Addr) (n cap : Nat) (L : List Int) (w : World) (hR : BS w (.slice A n cap) L) (hln : L.length = n) (hb : Byt L) (hn : n ≤ 1099511627776) (hrg : rightB ty fl st n = true) (h9 : ¬ 9 < ty) (e0 : (ty == 0) = false) (e1 : (ty == 1) = false) (e2 : (ty == 2) = false) (e3 : (ty == 3) = false) (e4 : (ty == 4) = false) (e5 : (ty == 5) = false) (e6 : (ty == 6) = false) (e7 : (ty == 7) = false) (e8 : (ty == 8) = false) (e9 : (ty == 9) = true) (n8 : (ty != 8) = true) (s0 : (st == 0) = false) (m0 : (st != 0) = true) (b' : List Int) (hb' : L = b')  :
    Calls Try.prog 15 #[.agg (fC ty fl st (.slice A n cap))] w fun e w' => Ans w.heap.size ({ PP.base ty st with f := flag fl 4, body := b' }, okB) e w' ∧ Below w.heap.size w w' := by
  have HR := Lib.hid hR
  have HL := Lib.hid hln
  have HY := Lib.hid hb
  clear hR hln hb
  have HRG := Lib.hid hrg
  clear hrg
  have HB' := Lib.hid hb'
  clear hb'
  go_enter Try.func15, Try.ntmps15
  go_upto_region 2 with fail
  refine wp_forget (fun W => Below w.heap.size w W ∧ Hid (Blk W w.heap.size 32 (fC ty fl st (.slice A n cap))) ∧ Hid (Blk W (w.heap.size + 1) 26 zP) ∧ Hid (Blk W (w.heap.size + 2) 28 zB) ∧ Hid (Blk W (w.heap.size + 3) 26 (pB ty st)))
    ⟨by go_grown, Lib.hid ((((Blk.new _ _ _).alloc _).alloc _).alloc _), Lib.hid (((Blk.new_at (by simp only [World.size_alloc])).alloc _).alloc _), Lib.hid ((Blk.new_at (by simp only [World.size_alloc])).alloc _), Lib.hid (Blk.new_at (by simp only [World.size_alloc]))⟩ ?_
  rintro W ⟨hB, HF, HZ, HX, HP⟩
  have hBs := hB.size
  have hl3 := HP.out.lt
  have hl0 : w.heap.size < W.heap.size := by omega
  have f0 : W.cell? ⟨w.heap.size, 0, none⟩ = some (.int .i64 ty) := HF.out.cell 0
  have f1 : W.cell? ⟨w.heap.size, 1, none⟩ = some (.int .i64 fl) := HF.out.cell 1
  have f2 : W.cell? ⟨w.heap.size, 2, none⟩ = some (.int .i64 st) := HF.out.cell 2
  have f3 : W.cell? ⟨w.heap.size, 3, none⟩ = some (.slice A n cap) := HF.out.cell 3
  have HRW := Lib.hid (HR.out.below hB (Nat.le_refl _))
  generalize hg : w.heap.size = g at *
  have HG := Lib.hid hg
  clear hg
  go_upto_region 40 with (go_at_call 32; refine (rright_any ty fl st A n cap _).mono ?_; rintro e w1 ⟨rfl, hB1⟩; have hS1 := hB1.size; have HF1 := Lib.hid (HF.out.below hB1 (by omega)); have HP1 := Lib.hid (HP.out.below hB1 (by omega)); have HZ1 := Lib.hid (HZ.out.below hB1 (by omega)); have HX1 := Lib.hid (HX.out.below hB1 (by omega)); have f10 : w1.cell? ⟨g, 0, none⟩ = some (.int .i64 ty) := HF1.out.cell 0; have f11 : w1.cell? ⟨g, 1, none⟩ = some (.int .i64 fl) := HF1.out.cell 1; have f12 : w1.cell? ⟨g, 2, none⟩ = some (.int .i64 st) := HF1.out.cell 2; have f13 : w1.cell? ⟨g, 3, none⟩ = some (.slice A n cap) := HF1.out.cell 3; rw [HRG.out])
  have HRX := Lib.hid (HRW.out.below hB1 (Nat.le_refl _))
  have HSR := Lib.hid (bs_src (HRX.out.below (below_self w1 (.cells #[] 5)) (Nat.le_refl _)))
  have hbl := HB'.out
  have HN3 : Hid (b'.length = n) := Lib.hid (by rw [← hbl]; exact HL.out)
  clear hbl
  obtain ⟨i0, hi, hz0, hz1, hz2⟩ := info_parts info5
  have c3' : w1.frozen? ⟨g + 3, 3, none⟩ = false := HP1.out.frozen 3
  have c3 : w1.cell? ⟨g + 3, 3, none⟩ = some (.bool false) := HP1.out.cell 3
  have c5' : w1.frozen? ⟨g + 3, 5, none⟩ = false := HP1.out.frozen 5
  have c5 : w1.cell? ⟨g + 3, 5, none⟩ = some (.slice none 0 0) := HP1.out.cell 5
  have hmx : 0 + n ≤ maxLen := by unfold maxLen; omega
  have hbx : (0 + n) * 1 ≤ 140737488355328 := by omega
  have hsx : w1.heap.size ≤ (w1.alloc (.cells #[] 5)).drew.heap.size := Nat.le_of_lt (lt_alloc _ _)
  have hq0 : g < w1.heap.size := by omega
  have hq1 : g < w1.heap.size + 1 := by omega
  go_region_held3 (fun wx => wx.cell? ⟨g, 1, none⟩ = some (.int .i64 fl)) (first | assumption | go_simp) ((refine step_append_src rfl (.tmp 186) (.tmp 187) 22 rfl w1.heap.size 5 i0 _ 1 1 Try.underlying22 hi hz0 hz1 hz2 rfl (by decide) (.slice (some ⟨w1.heap.size, 0, none⟩) 0 0) 0 [] rfl ((World.ownsRow_lit (base := w1.heap.size) w1 #[] 0 (Nat.le_refl _) (by decide) rfl).drew) A n cap (bv L) rfl HSR.out.2.1 (by rw [bv_len, HL.out, Nat.mul_one]) HSR.out.2.2 (bv_one _) hmx hbx hsx ?_; intro va wa hown1 hg1; have hown2 : wa.ownsRow w1.heap.size 5 1 va b'.length (bv b') := fixown HN3.out HB'.out hown1; have hBa : Below w1.heap.size w1 wa := Below.grown (w := (w1.alloc (.cells #[] 5)).drew) (by go_grown) hg1 hsx (fun q hq => Nat.le_of_eq (by cases hq; rfl)); obtain ⟨Av, cv, rfl⟩ := own_form hown2; have HO := Lib.hid hown2; have hsa := hBa.size; have HPa := Lib.hid (HP1.out.below hBa (by omega)); have kk1 : wa.cell? ⟨g, 1, none⟩ = some (.int .i64 fl) := (HF1.out.below hBa (by omega)).cell 1; have c3'' : wa.cell? ⟨g + 3, 3, none⟩ = some (.bool false) := HPa.out.cell 3; have z3'' : wa.frozen? ⟨g + 3, 3, none⟩ = false := HPa.out.frozen 3; have c5'' : wa.cell? ⟨g + 3, 5, none⟩ = some (.slice none 0 0) := HPa.out.cell 5; have z5'' : wa.frozen? ⟨g + 3, 5, none⟩ = false := HPa.out.frozen 5))
  all_goals
    have HPe := Lib.hid ((HPa.out.put 3 (.bool (flag fl 4))).put 5 (.slice Av b'.length cv))
    have HZe := Lib.hid (((HZ1.out.below hBa (by omega)).far (p := ⟨g + 3, 3, none⟩) (by simp) (.bool (flag fl 4))).far (p := ⟨g + 3, 5, none⟩) (by simp) (.slice Av b'.length cv))
    have HXe := Lib.hid (((HX1.out.below hBa (by omega)).far (p := ⟨g + 3, 3, none⟩) (by simp) (.bool (flag fl 4))).far (p := ⟨g + 3, 5, none⟩) (by simp) (.slice Av b'.length cv))
    have HOe := Lib.hid (ownsRow_setCell_below (ownsRow_setCell_below HO.out (a := ⟨g + 3, 3, none⟩) (show g + 3 < w1.heap.size by omega) (.bool (flag fl 4))) (a := ⟨g + 3, 5, none⟩) (show g + 3 < w1.heap.size by omega) (.slice Av b'.length cv))
    have hBe : Below g w ((wa.setCell ⟨g + 3, 3, none⟩ (.bool (flag fl 4))).setCell ⟨g + 3, 5, none⟩ (.slice Av b'.length cv)) := ((((hB.trans (hB1.mono (by omega))).trans (hBa.mono (by omega))).setCell (by simp) (.bool (flag fl 4))).setCell (by simp) (.slice Av b'.length cv))
    change Exit.inBlock _ _ _ _ ((wa.setCell ⟨g + 3, 3, none⟩ (.bool (flag fl 4))).setCell ⟨g + 3, 5, none⟩ (.slice Av b'.length cv))
    have hse : w1.heap.size ≤ ((wa.setCell ⟨g + 3, 3, none⟩ (.bool (flag fl 4))).setCell ⟨g + 3, 5, none⟩ (.slice Av b'.length cv)).heap.size := by simp only [World.size_setCell]; exact hsa
    clear HO HPa hBa hB1
    generalize ((wa.setCell ⟨g + 3, 3, none⟩ (.bool (flag fl 4))).setCell ⟨g + 3, 5, none⟩ (.slice Av b'.length cv)) = we at *
    go_wp2_with (first
      | (refine wpList_load_row rfl 26 (.tmp 4) rfl (g + 3) rfl 26 _ _ _ HPe.out Try.underlying26 rfl (by kernel_rfl) ?_)
      | (refine wpList_store_row rfl 26 (.tmp 2) (.tmp 191) rfl (g + 1) rfl #[.int .i64 ty, .int .i64 st, .bool false, .bool (flag fl 4), .bool false, .slice Av b'.length cv, .int .i64 0, .int .i64 0, .int .i64 0, .int .i64 0, .slice none 0 0] rfl 26 _ HZe.out rfl (by kernel_rfl) (by simp [Value.oneCell']) ?_; intro x1 hx1 gx1 sx1; have HXx := Lib.hid (HXe.out.grown gx1 (by simp)))
      | (refine wpList_store_row rfl 28 (.tmp 3) (.tmp 192) rfl (g + 2) rfl zB rfl 28 _ HXx.out rfl (by kernel_rfl) (by simp [Value.oneCell']) ?_; intro x2 hx2 gx2 sx2))
    have hgo := HG.out
    subst hgo
    refine bodyPost_ret (results_cc rfl _ (w.heap.size + 1) (w.heap.size + 2) 26 28 _ _ _ _ rfl (hx1.grown gx2 (by simp)) Try.underlying26 rfl (by kernel_rfl) rfl hx2 Try.underlying28 rfl (by kernel_rfl)) rfl ⟨⟨_, rfl, ⟨.slice Av b'.length cv, .slice none 0 0, rfl, (own_grown (own_grown HOe.out gx1 (by omega)) gx2 (by omega)).mono (by omega), World.ownsRow_nil _ _ _ _⟩⟩, ((hBe.grown gx1 (by omega) (fun q hq => by cases hq; omega)).grown gx2 (by omega) (fun q hq => by cases hq; omega))⟩
end Go.Proofs.Ytolpfbdklcjlkaa
