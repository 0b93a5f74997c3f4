/- The document's answer to HEADERS. -/
import Derived.Test.YtolpfbdklcjlkaaRLong
namespace Go.Proofs.Ytolpfbdklcjlkaa
open Go.ChangeShapes Go.WideShapes Go.ChangeAt Go.RowKit
set_option linter.unusedVariables false
set_option linter.unusedSimpArgs false
set_option maxHeartbeats 4000000 in
set_option maxRecDepth 100000 in
theorem rl_ok_100 (ty fl st : Int) (A : Option Addr) (n cap : Nat) (L : List Int) (w : World) (hR : BS w (.slice A n cap) L) (hln : L.length = n) (hb : Byt L) (hn : n ≤ 1099511627776) (e0 : (ty == 0) = false) (e1 : (ty == 1) = true) (ek fk : Bool) (he : (bits .and .i64 fl 1 != 0) = ek) (hf4 : (bits .and .i64 fl 4 != 0) = fk) (h8f : (bits .and .i64 fl 8 != 0) = false) (hf : (bits .and .i64 fl 32 != 0) = false) (b' : List Int) (hb' : L = b')  :
    Calls Try.prog 34 #[.agg (fC ty fl st (.slice A n cap)), .agg (pB ty st)] w fun e w' => Ans w.heap.size ({ PP.base ty st with e := ek, f := fk, body := b' }, okB) e w' ∧ Below w.heap.size w w' := by
  have HR := Lib.hid hR
  have HL := Lib.hid hln
  have HY := Lib.hid hb
  clear hR hln hb
  have hlt2 : b'.length ≤ 1099511627776 := by rw [← hb']; rw [HL.out]; exact hn
  have HB' := Lib.hid hb'
  clear hb'
  go_enter Try.func34, Try.ntmps34
  go_upto_region 1 with fail
  refine wp_forget (fun W => Below w.heap.size w W ∧ Hid (Blk W w.heap.size 32 (fC ty fl st (.slice A n cap))) ∧ Hid (Blk W (w.heap.size + 1) 26 (pB ty st)) ∧ Hid (Blk W (w.heap.size + 2) 26 zP) ∧ Hid (Blk W (w.heap.size + 3) 28 zB))
    ⟨by go_grown, Lib.hid ((((Blk.new _ _ _).alloc _).alloc _).alloc _), Lib.hid (((Blk.new_at (by simp only [World.size_alloc])).alloc _).alloc _), Lib.hid ((Blk.new_at (by simp only [World.size_alloc])).alloc _), Lib.hid (Blk.new_at (by simp only [World.size_alloc]))⟩ ?_
  rintro W ⟨hB, HF, HP, HZ, HX⟩
  have hBs := hB.size
  have hl3 := HX.out.lt
  have hl2 : w.heap.size + 2 < W.heap.size := by omega
  have hl1 : w.heap.size + 1 < W.heap.size := by omega
  have hl0 : w.heap.size < W.heap.size := by omega
  have f0 : W.cell? ⟨w.heap.size, 0, none⟩ = some (.int .i64 ty) := HF.out.cell 0
  have f1 : W.cell? ⟨w.heap.size, 1, none⟩ = some (.int .i64 fl) := HF.out.cell 1
  have f2 : W.cell? ⟨w.heap.size, 2, none⟩ = some (.int .i64 st) := HF.out.cell 2
  have f3 : W.cell? ⟨w.heap.size, 3, none⟩ = some (.slice A n cap) := HF.out.cell 3
  have HRW := Lib.hid (HR.out.below hB (Nat.le_refl _))
  generalize hg : w.heap.size = g at *
  have HG := Lib.hid hg
  clear hg
  have c2 : W.cell? ⟨g + 1, 2, none⟩ = some (.bool false) := HP.out.cell 2
  have z2 : W.frozen? ⟨g + 1, 2, none⟩ = false := HP.out.frozen 2
  have c3 : W.cell? ⟨g + 1, 3, none⟩ = some (.bool false) := HP.out.cell 3
  have z3 : W.frozen? ⟨g + 1, 3, none⟩ = false := HP.out.frozen 3
  go_upto_region 7 with fail
  have HP0 := Lib.hid ((HP.out.put 2 (.bool ek)).put 3 (.bool fk))
  have HZ0 := Lib.hid ((HZ.out.far (p := ⟨g + 1, 2, none⟩) (by simp) (.bool ek)).far (p := ⟨g + 1, 3, none⟩) (by simp) (.bool fk))
  have HX0 := Lib.hid ((HX.out.far (p := ⟨g + 1, 2, none⟩) (by simp) (.bool ek)).far (p := ⟨g + 1, 3, none⟩) (by simp) (.bool fk))
  have HF0 := Lib.hid ((HF.out.far (p := ⟨g + 1, 2, none⟩) (by simp) (.bool ek)).far (p := ⟨g + 1, 3, none⟩) (by simp) (.bool fk))
  have hB0 : Below g w ((W.setCell ⟨g + 1, 2, none⟩ (.bool ek)).setCell ⟨g + 1, 3, none⟩ (.bool fk)) := ((hB.setCell (by simp) (.bool ek)).setCell (by simp) (.bool fk))
  have hse : W.heap.size ≤ ((W.setCell ⟨g + 1, 2, none⟩ (.bool ek)).setCell ⟨g + 1, 3, none⟩ (.bool fk)).heap.size := by simp only [World.size_setCell]; exact Nat.le_refl _
  refine wp_forget (fun V => Below g w V ∧ W.heap.size ≤ V.heap.size ∧ Hid (Blk V g 32 (fC ty fl st (.slice A n cap))) ∧ Hid (Blk V (g + 1) 26 #[.int .i64 ty, .int .i64 st, .bool ek, .bool fk, .bool false, .slice none 0 0, .int .i64 0, .int .i64 0, .int .i64 0, .int .i64 0, .slice none 0 0]) ∧ Hid (Blk V (g + 2) 26 zP) ∧ Hid (Blk V (g + 3) 28 zB)) ⟨hB0, hse, HF0, HP0, HZ0, HX0⟩ ?_
  clear HP0 HZ0 HX0 HF0 hB0 hse HRW HF HP HZ HX f0 f1 f2 f3 c2 z2 c3 z3
  rintro V ⟨hBV, hsV, HFV, HPV, HZV, HXV⟩
  have hBs' := hBV.size
  have v0 : V.cell? ⟨g, 0, none⟩ = some (.int .i64 ty) := HFV.out.cell 0
  have v1 : V.cell? ⟨g, 1, none⟩ = some (.int .i64 fl) := HFV.out.cell 1
  have v2 : V.cell? ⟨g, 2, none⟩ = some (.int .i64 st) := HFV.out.cell 2
  have hlV : g + 3 < V.heap.size := by omega
  have HRV : Hid (BS V (.slice A n cap) L) := Lib.hid (HR.out.below (by rw [HG.out]; exact hBV) (Nat.le_refl _))
  have h8 : (bits .and .i64 fl 8 != 0) = false := h8f
  have HVB := HRV
  have HVC := HVB
  obtain ⟨A3, n3, c3, hrun3, hs3⟩ := run_to HVC.out (n : Int) (by omega) (by have := HL.out; omega)
  have hs3' : BS V (.slice A3 n3 c3) b' := by have h := hs3; rwa [Int.toNat_natCast, List.take_of_length_le (by have := HL.out; omega), HB'.out] at h
  clear hs3
  have hn3e : b'.length = n3 := by obtain ⟨_, _, he, _⟩ := id hs3'; cases he; rfl
  have HN3 := Lib.hid hn3e
  have hn3l : n3 ≤ 1099511627776 := by omega
  have HSR := Lib.hid (bs_src (hs3'.below (below_self V (.cells #[] 5)) (Nat.le_refl _)))
  clear hs3' hn3e
  obtain ⟨i0, hi, hz0, hz1, hz2⟩ := info_parts info5
  go_upto_region 21 with (first
    | (at_builtin
       refine wpList_append_src rfl (.tmp 76) (.tmp 82) 22 rfl V.heap.size 5 i0 _ 1 1 Try.underlying22 hi hz0 hz1 hz2 rfl (by decide) (.slice (some ⟨V.heap.size, 0, none⟩) 0 0) 0 [] rfl (World.ownsRow_lit (base := V.heap.size) V #[] 0 (Nat.le_refl _) (by decide) rfl) A3 n3 c3 (bv b') rfl HSR.out.2.1 (by rw [bv_len, HN3.out, Nat.mul_one]) HSR.out.2.2 (bv_one _) ?a4 ?a5 ?a6 ?_
       (case a4 => unfold maxLen; omega)
       (case a5 => omega)
       (case a6 => simp only [World.size_alloc]; omega)
       intro va wa hown1 hg1
       have hown2 : wa.ownsRow V.heap.size 5 1 va b'.length (bv b') := by
         have h := hown1
         rw [Nat.zero_add, List.nil_append] at h
         rw [HN3.out]
         exact h
       have hBa : Below V.heap.size V wa := (below_self V _).grown hg1 (by simp only [World.size_alloc]; omega) (by intro q hq; simp [Value.ownBlock] at hq; omega)
       obtain ⟨Av, cv, rfl⟩ := own_form hown2
       have HO := Lib.hid hown2
       have hsa := hBa.size
       have HPa := Lib.hid (HPV.out.below hBa (by omega))
       have HZa := Lib.hid (HZV.out.below hBa (by omega))
       have HXa := Lib.hid (HXV.out.below hBa (by omega))
       have ca : wa.cell? ⟨g + 1, 5, none⟩ = some (.slice none 0 0) := HPa.out.cell 5
       have za : wa.frozen? ⟨g + 1, 5, none⟩ = false := HPa.out.frozen 5
       have hBga : Below g w wa := hBV.trans (hBa.mono (by omega))
       clear hown1 hown2 hg1))
  have HP9 := Lib.hid (HPa.out.put 5 (.slice Av b'.length cv))
  have HZ9 := Lib.hid (HZa.out.far (p := ⟨g + 1, 5, none⟩) (by simp) (.slice Av b'.length cv))
  have HX9 := Lib.hid (HXa.out.far (p := ⟨g + 1, 5, none⟩) (by simp) (.slice Av b'.length cv))
  have HO9 := Lib.hid (ownsRow_setCell_below HO.out (a := ⟨g + 1, 5, none⟩) (show g + 1 < V.heap.size by omega) (.slice Av b'.length cv))
  have hB9 : Below g w (wa.setCell ⟨g + 1, 5, none⟩ (.slice Av b'.length cv)) := hBga.setCell (by simp) _
  have hs9 : wa.heap.size ≤ (wa.setCell ⟨g + 1, 5, none⟩ (.slice Av b'.length cv)).heap.size := by simp only [World.size_setCell]; exact Nat.le_refl _
  refine wp_forget (fun X => Below g w X ∧ wa.heap.size ≤ X.heap.size ∧ Hid (X.ownsRow V.heap.size 5 1 (.slice Av b'.length cv) b'.length (bv b')) ∧ Hid (Blk X (g + 1) 26 #[.int .i64 ty, .int .i64 st, .bool ek, .bool fk, .bool false, .slice Av b'.length cv, .int .i64 0, .int .i64 0, .int .i64 0, .int .i64 0, .slice none 0 0]) ∧ Hid (Blk X (g + 2) 26 zP) ∧ Hid (Blk X (g + 3) 28 zB)) ⟨hB9, hs9, HO9, HP9, HZ9, HX9⟩ ?_
  clear HP9 HZ9 HX9 HO9 hB9 hs9
  rintro X ⟨hBe, hsX, HOe, HPe, HZe, HXe⟩
  go_wp2_with (first
    | (refine wpList_load_row rfl 26 (.tmp 3) rfl (g + 1) rfl 26 _ _ _ HPe.out Try.underlying26 rfl (by kernel_rfl) ?_)
    | (refine wpList_store_row rfl 26 (.tmp 4) (.tmp 85) rfl (g + 2) rfl #[.int .i64 ty, .int .i64 st, .bool ek, .bool fk, .bool false, .slice Av b'.length cv, .int .i64 0, .int .i64 0, .int .i64 0, .int .i64 0, .slice none 0 0] rfl 26 _ HZe.out rfl (by kernel_rfl) (by simp [Value.oneCell']) ?_; intro x1 hx1 gx1 sx1; have HXx := Lib.hid (HXe.out.grown gx1 (by simp)))
    | (refine wpList_store_row rfl 28 (.tmp 5) (.tmp 86) rfl (g + 3) rfl zB rfl 28 _ HXx.out rfl (by kernel_rfl) (by simp [Value.oneCell']) ?_; intro x2 hx2 gx2 sx2))
  have hgo := HG.out
  subst hgo
  refine bodyPost_ret (results_cc rfl _ (w.heap.size + 2) (w.heap.size + 3) 26 28 _ _ _ _ rfl (hx1.grown gx2 (by simp)) Try.underlying26 rfl (by kernel_rfl) rfl hx2 Try.underlying28 rfl (by kernel_rfl)) rfl ⟨⟨_, rfl, ⟨.slice Av b'.length cv, .slice none 0 0, rfl, (own_grown (own_grown HOe.out gx1 (by omega)) gx2 (by omega)).mono (by omega), World.ownsRow_nil _ _ _ _⟩⟩, ((hBe.grown gx1 (by omega) (fun q hq => by cases hq; omega)).grown gx2 (by omega) (fun q hq => by cases hq; omega))⟩
set_option maxHeartbeats 4000000 in
set_option maxRecDepth 100000 in
theorem rl_short_101 (ty fl st : Int) (A : Option Addr) (n cap : Nat) (L : List Int) (w : World) (hR : BS w (.slice A n cap) L) (hln : L.length = n) (hb : Byt L) (hn : n ≤ 1099511627776) (e0 : (ty == 0) = false) (e1 : (ty == 1) = true) (ek fk : Bool) (he : (bits .and .i64 fl 1 != 0) = ek) (hf4 : (bits .and .i64 fl 4 != 0) = fk) (h8f : (bits .and .i64 fl 8 != 0) = false) (hf : (bits .and .i64 fl 32 != 0) = true) (h5 : L.length < 5)  :
    Calls Try.prog 34 #[.agg (fC ty fl st (.slice A n cap)), .agg (pB ty st)] w fun e w' => Ans w.heap.size (PP.zero, cB 6) e w' ∧ Below w.heap.size w w' := by
  have HR := Lib.hid hR
  have HL := Lib.hid hln
  have HY := Lib.hid hb
  clear hR hln hb
  have h5i : (n : Int) < 5 := by have := HL.out; omega
  go_enter Try.func34, Try.ntmps34
  go_upto_region 1 with fail
  refine wp_forget (fun W => Below w.heap.size w W ∧ Hid (Blk W w.heap.size 32 (fC ty fl st (.slice A n cap))) ∧ Hid (Blk W (w.heap.size + 1) 26 (pB ty st)) ∧ Hid (Blk W (w.heap.size + 2) 26 zP) ∧ Hid (Blk W (w.heap.size + 3) 28 zB))
    ⟨by go_grown, Lib.hid ((((Blk.new _ _ _).alloc _).alloc _).alloc _), Lib.hid (((Blk.new_at (by simp only [World.size_alloc])).alloc _).alloc _), Lib.hid ((Blk.new_at (by simp only [World.size_alloc])).alloc _), Lib.hid (Blk.new_at (by simp only [World.size_alloc]))⟩ ?_
  rintro W ⟨hB, HF, HP, HZ, HX⟩
  have hBs := hB.size
  have hl3 := HX.out.lt
  have hl2 : w.heap.size + 2 < W.heap.size := by omega
  have hl1 : w.heap.size + 1 < W.heap.size := by omega
  have hl0 : w.heap.size < W.heap.size := by omega
  have f0 : W.cell? ⟨w.heap.size, 0, none⟩ = some (.int .i64 ty) := HF.out.cell 0
  have f1 : W.cell? ⟨w.heap.size, 1, none⟩ = some (.int .i64 fl) := HF.out.cell 1
  have f2 : W.cell? ⟨w.heap.size, 2, none⟩ = some (.int .i64 st) := HF.out.cell 2
  have f3 : W.cell? ⟨w.heap.size, 3, none⟩ = some (.slice A n cap) := HF.out.cell 3
  have HRW := Lib.hid (HR.out.below hB (Nat.le_refl _))
  generalize hg : w.heap.size = g at *
  have HG := Lib.hid hg
  clear hg
  have c2 : W.cell? ⟨g + 1, 2, none⟩ = some (.bool false) := HP.out.cell 2
  have z2 : W.frozen? ⟨g + 1, 2, none⟩ = false := HP.out.frozen 2
  have c3 : W.cell? ⟨g + 1, 3, none⟩ = some (.bool false) := HP.out.cell 3
  have z3 : W.frozen? ⟨g + 1, 3, none⟩ = false := HP.out.frozen 3
  go_upto_region 7 with fail
  have HP0 := Lib.hid ((HP.out.put 2 (.bool ek)).put 3 (.bool fk))
  have HZ0 := Lib.hid ((HZ.out.far (p := ⟨g + 1, 2, none⟩) (by simp) (.bool ek)).far (p := ⟨g + 1, 3, none⟩) (by simp) (.bool fk))
  have HX0 := Lib.hid ((HX.out.far (p := ⟨g + 1, 2, none⟩) (by simp) (.bool ek)).far (p := ⟨g + 1, 3, none⟩) (by simp) (.bool fk))
  have HF0 := Lib.hid ((HF.out.far (p := ⟨g + 1, 2, none⟩) (by simp) (.bool ek)).far (p := ⟨g + 1, 3, none⟩) (by simp) (.bool fk))
  have hB0 : Below g w ((W.setCell ⟨g + 1, 2, none⟩ (.bool ek)).setCell ⟨g + 1, 3, none⟩ (.bool fk)) := ((hB.setCell (by simp) (.bool ek)).setCell (by simp) (.bool fk))
  have hse : W.heap.size ≤ ((W.setCell ⟨g + 1, 2, none⟩ (.bool ek)).setCell ⟨g + 1, 3, none⟩ (.bool fk)).heap.size := by simp only [World.size_setCell]; exact Nat.le_refl _
  refine wp_forget (fun V => Below g w V ∧ W.heap.size ≤ V.heap.size ∧ Hid (Blk V g 32 (fC ty fl st (.slice A n cap))) ∧ Hid (Blk V (g + 1) 26 #[.int .i64 ty, .int .i64 st, .bool ek, .bool fk, .bool false, .slice none 0 0, .int .i64 0, .int .i64 0, .int .i64 0, .int .i64 0, .slice none 0 0]) ∧ Hid (Blk V (g + 2) 26 zP) ∧ Hid (Blk V (g + 3) 28 zB)) ⟨hB0, hse, HF0, HP0, HZ0, HX0⟩ ?_
  clear HP0 HZ0 HX0 HF0 hB0 hse HRW HF HP HZ HX f0 f1 f2 f3 c2 z2 c3 z3
  rintro V ⟨hBV, hsV, HFV, HPV, HZV, HXV⟩
  have hBs' := hBV.size
  have v0 : V.cell? ⟨g, 0, none⟩ = some (.int .i64 ty) := HFV.out.cell 0
  have v1 : V.cell? ⟨g, 1, none⟩ = some (.int .i64 fl) := HFV.out.cell 1
  have v2 : V.cell? ⟨g, 2, none⟩ = some (.int .i64 st) := HFV.out.cell 2
  have hlV : g + 3 < V.heap.size := by omega
  have HRV : Hid (BS V (.slice A n cap) L) := Lib.hid (HR.out.below (by rw [HG.out]; exact hBV) (Nat.le_refl _))
  have h8 : (bits .and .i64 fl 8 != 0) = false := h8f
  have HVB := HRV
  go_wp2_with (first
    | (go_at_call 33; refine (rbadc_any 6 _).mono ?_; rintro e w9 ⟨rfl, hB9⟩; have hS9 := hB9.size; have HZ9 := Lib.hid (HZV.out.below hB9 (by omega)); have HX9 := Lib.hid (HXV.out.below hB9 (by omega)))
    | (refine wpList_store_row rfl 26 (.tmp 4) (.tmp 55) rfl (g + 2) rfl zP rfl 26 _ HZ9.out rfl (by kernel_rfl) (by simp [Value.oneCell']) ?_; intro x1 hx1 gx1 sx1; have HXx := Lib.hid (HX9.out.grown gx1 (by simp)))
    | (refine wpList_store_row rfl 28 (.tmp 5) (.tmp 56) rfl (g + 3) rfl #[.int .i64 2, .int .i64 (6), .int .i64 0] rfl 28 _ HXx.out rfl (by kernel_rfl) (by simp [Value.oneCell']) ?_; intro x2 hx2 gx2 sx2))
  have hgo := HG.out
  subst hgo
  refine bodyPost_ret (results_cc rfl _ (w.heap.size + 2) (w.heap.size + 3) 26 28 _ _ _ _ rfl (hx1.grown gx2 (by simp)) Try.underlying26 rfl (by kernel_rfl) rfl hx2 Try.underlying28 rfl (by kernel_rfl)) rfl ⟨⟨_, rfl, isP_zero _ _⟩, (((hBV.trans (hB9.mono (by omega))).grown gx1 (by omega) (fun q hq => by cases hq; omega)).grown gx2 (by omega) (fun q hq => by cases hq; omega))⟩
set_option maxHeartbeats 4000000 in
set_option maxRecDepth 100000 in
theorem rl_eq_101 (ty fl st : Int) (A : Option Addr) (n cap : Nat) (L : List Int) (w : World) (hR : BS w (.slice A n cap) L) (hln : L.length = n) (hb : Byt L) (hn : n ≤ 1099511627776) (e0 : (ty == 0) = false) (e1 : (ty == 1) = true) (ek fk : Bool) (he : (bits .and .i64 fl 1 != 0) = ek) (hf4 : (bits .and .i64 fl 4 != 0) = fk) (h8f : (bits .and .i64 fl 8 != 0) = false) (hf : (bits .and .i64 fl 32 != 0) = true) (h5 : 5 ≤ L.length) (hne : (num L 0 % 2147483648 == st) = true)  :
    Calls Try.prog 34 #[.agg (fC ty fl st (.slice A n cap)), .agg (pB ty st)] w fun e w' => Ans w.heap.size (PP.zero, sB 1 st) e w' ∧ Below w.heap.size w w' := by
  have HR := Lib.hid hR
  have HL := Lib.hid hln
  have HY := Lib.hid hb
  clear hR hln hb
  have h5i : ¬ (n : Int) < 5 := by have := HL.out; omega
  have h54 : 4 ≤ L.length := by omega
  go_enter Try.func34, Try.ntmps34
  go_upto_region 1 with fail
  refine wp_forget (fun W => Below w.heap.size w W ∧ Hid (Blk W w.heap.size 32 (fC ty fl st (.slice A n cap))) ∧ Hid (Blk W (w.heap.size + 1) 26 (pB ty st)) ∧ Hid (Blk W (w.heap.size + 2) 26 zP) ∧ Hid (Blk W (w.heap.size + 3) 28 zB))
    ⟨by go_grown, Lib.hid ((((Blk.new _ _ _).alloc _).alloc _).alloc _), Lib.hid (((Blk.new_at (by simp only [World.size_alloc])).alloc _).alloc _), Lib.hid ((Blk.new_at (by simp only [World.size_alloc])).alloc _), Lib.hid (Blk.new_at (by simp only [World.size_alloc]))⟩ ?_
  rintro W ⟨hB, HF, HP, HZ, HX⟩
  have hBs := hB.size
  have hl3 := HX.out.lt
  have hl2 : w.heap.size + 2 < W.heap.size := by omega
  have hl1 : w.heap.size + 1 < W.heap.size := by omega
  have hl0 : w.heap.size < W.heap.size := by omega
  have f0 : W.cell? ⟨w.heap.size, 0, none⟩ = some (.int .i64 ty) := HF.out.cell 0
  have f1 : W.cell? ⟨w.heap.size, 1, none⟩ = some (.int .i64 fl) := HF.out.cell 1
  have f2 : W.cell? ⟨w.heap.size, 2, none⟩ = some (.int .i64 st) := HF.out.cell 2
  have f3 : W.cell? ⟨w.heap.size, 3, none⟩ = some (.slice A n cap) := HF.out.cell 3
  have HRW := Lib.hid (HR.out.below hB (Nat.le_refl _))
  generalize hg : w.heap.size = g at *
  have HG := Lib.hid hg
  clear hg
  have c2 : W.cell? ⟨g + 1, 2, none⟩ = some (.bool false) := HP.out.cell 2
  have z2 : W.frozen? ⟨g + 1, 2, none⟩ = false := HP.out.frozen 2
  have c3 : W.cell? ⟨g + 1, 3, none⟩ = some (.bool false) := HP.out.cell 3
  have z3 : W.frozen? ⟨g + 1, 3, none⟩ = false := HP.out.frozen 3
  go_upto_region 7 with fail
  have HP0 := Lib.hid ((HP.out.put 2 (.bool ek)).put 3 (.bool fk))
  have HZ0 := Lib.hid ((HZ.out.far (p := ⟨g + 1, 2, none⟩) (by simp) (.bool ek)).far (p := ⟨g + 1, 3, none⟩) (by simp) (.bool fk))
  have HX0 := Lib.hid ((HX.out.far (p := ⟨g + 1, 2, none⟩) (by simp) (.bool ek)).far (p := ⟨g + 1, 3, none⟩) (by simp) (.bool fk))
  have HF0 := Lib.hid ((HF.out.far (p := ⟨g + 1, 2, none⟩) (by simp) (.bool ek)).far (p := ⟨g + 1, 3, none⟩) (by simp) (.bool fk))
  have hB0 : Below g w ((W.setCell ⟨g + 1, 2, none⟩ (.bool ek)).setCell ⟨g + 1, 3, none⟩ (.bool fk)) := ((hB.setCell (by simp) (.bool ek)).setCell (by simp) (.bool fk))
  have hse : W.heap.size ≤ ((W.setCell ⟨g + 1, 2, none⟩ (.bool ek)).setCell ⟨g + 1, 3, none⟩ (.bool fk)).heap.size := by simp only [World.size_setCell]; exact Nat.le_refl _
  refine wp_forget (fun V => Below g w V ∧ W.heap.size ≤ V.heap.size ∧ Hid (Blk V g 32 (fC ty fl st (.slice A n cap))) ∧ Hid (Blk V (g + 1) 26 #[.int .i64 ty, .int .i64 st, .bool ek, .bool fk, .bool false, .slice none 0 0, .int .i64 0, .int .i64 0, .int .i64 0, .int .i64 0, .slice none 0 0]) ∧ Hid (Blk V (g + 2) 26 zP) ∧ Hid (Blk V (g + 3) 28 zB)) ⟨hB0, hse, HF0, HP0, HZ0, HX0⟩ ?_
  clear HP0 HZ0 HX0 HF0 hB0 hse HRW HF HP HZ HX f0 f1 f2 f3 c2 z2 c3 z3
  rintro V ⟨hBV, hsV, HFV, HPV, HZV, HXV⟩
  have hBs' := hBV.size
  have v0 : V.cell? ⟨g, 0, none⟩ = some (.int .i64 ty) := HFV.out.cell 0
  have v1 : V.cell? ⟨g, 1, none⟩ = some (.int .i64 fl) := HFV.out.cell 1
  have v2 : V.cell? ⟨g, 2, none⟩ = some (.int .i64 st) := HFV.out.cell 2
  have hlV : g + 3 < V.heap.size := by omega
  have HRV : Hid (BS V (.slice A n cap) L) := Lib.hid (HR.out.below (by rw [HG.out]; exact hBV) (Nat.le_refl _))
  have h8 : (bits .and .i64 fl 8 != 0) = false := h8f
  have HVB := HRV
  go_upto_region 15 with fail
  go_region_held3 (fun wx => wx.cell? ⟨g, 2, none⟩ = some (.int .i64 st)) (first | assumption | go_simp) ((go_at_call 35; refine (four_any _ L _ (HVB.out.below (by go_grown) (Nat.le_refl _)) HY.out h54).mono ?_; rintro e w1 ⟨rfl, hD1⟩; have hB1 : Below V.heap.size V w1 := Below.trans (by go_grown) hD1; have v12 : w1.cell? ⟨g, 2, none⟩ = some (.int .i64 st) := (hB1.cell (p := ⟨g, 2, none⟩) (show g < V.heap.size by omega)).trans v2))
  have hS1 := hB1.size
  have HPW := Lib.hid (HPV.out.below hB1 (by omega))
  have HZW := Lib.hid (HZV.out.below hB1 (by omega))
  have HXW := Lib.hid (HXV.out.below hB1 (by omega))
  have hBW : Below g w w1 := hBV.trans (hB1.mono (by omega))
  have hBWs := hBW.size
  go_wp2_with (first
    | (go_at_call 33; refine (rbads_any 1 st _).mono ?_; rintro e w9 ⟨rfl, hB9⟩; have hS9 := hB9.size; have HZ9 := Lib.hid (HZW.out.below hB9 (by omega)); have HX9 := Lib.hid (HXW.out.below hB9 (by omega)))
    | (refine wpList_store_row rfl 26 (.tmp 4) (.tmp 65) rfl (g + 2) rfl zP rfl 26 _ HZ9.out rfl (by kernel_rfl) (by simp [Value.oneCell']) ?_; intro x1 hx1 gx1 sx1; have HXx := Lib.hid (HX9.out.grown gx1 (by simp)))
    | (refine wpList_store_row rfl 28 (.tmp 5) (.tmp 66) rfl (g + 3) rfl #[.int .i64 1, .int .i64 1, .int .i64 st] rfl 28 _ HXx.out rfl (by kernel_rfl) (by simp [Value.oneCell']) ?_; intro x2 hx2 gx2 sx2))
  have hgo := HG.out
  subst hgo
  refine bodyPost_ret (results_cc rfl _ (w.heap.size + 2) (w.heap.size + 3) 26 28 _ _ _ _ rfl (hx1.grown gx2 (by simp)) Try.underlying26 rfl (by kernel_rfl) rfl hx2 Try.underlying28 rfl (by kernel_rfl)) rfl ⟨⟨_, rfl, isP_zero _ _⟩, (((hBW.trans (hB9.mono (by omega))).grown gx1 (by omega) (fun q hq => by cases hq; omega)).grown gx2 (by omega) (fun q hq => by cases hq; omega))⟩
set_option maxHeartbeats 4000000 in
set_option maxRecDepth 100000 in
theorem rl_ok_101 (ty fl st : Int) (A : Option Addr) (n cap : Nat) (L : List Int) (w : World) (hR : BS w (.slice A n cap) L) (hln : L.length = n) (hb : Byt L) (hn : n ≤ 1099511627776) (e0 : (ty == 0) = false) (e1 : (ty == 1) = true) (ek fk : Bool) (he : (bits .and .i64 fl 1 != 0) = ek) (hf4 : (bits .and .i64 fl 4 != 0) = fk) (h8f : (bits .and .i64 fl 8 != 0) = false) (hf : (bits .and .i64 fl 32 != 0) = true) (h5 : 5 ≤ L.length) (hne : (num L 0 % 2147483648 == st) = false) (b5 : List Int) (hb5 : L.drop 5 = b5) (b' : List Int) (hb' : b5 = b')  :
    Calls Try.prog 34 #[.agg (fC ty fl st (.slice A n cap)), .agg (pB ty st)] w fun e w' => Ans w.heap.size ({ PP.base ty st with e := ek, f := fk, body := b' }, okB) e w' ∧ Below w.heap.size w w' := by
  have HR := Lib.hid hR
  have HL := Lib.hid hln
  have HY := Lib.hid hb
  clear hR hln hb
  have h5i : ¬ (n : Int) < 5 := by have := HL.out; omega
  have h54 : 4 ≤ L.length := by omega
  have h5l : b5.length ≤ L.length := by rw [← hb5]; simp
  have h5n : b5.length ≤ 1099511627776 := by have := HL.out; omega
  have H5 := Lib.hid hb5
  clear hb5
  have hlt2 : b'.length ≤ 1099511627776 := by rw [← hb']; have := HL.out; omega
  have HB' := Lib.hid hb'
  clear hb'
  go_enter Try.func34, Try.ntmps34
  go_upto_region 1 with fail
  refine wp_forget (fun W => Below w.heap.size w W ∧ Hid (Blk W w.heap.size 32 (fC ty fl st (.slice A n cap))) ∧ Hid (Blk W (w.heap.size + 1) 26 (pB ty st)) ∧ Hid (Blk W (w.heap.size + 2) 26 zP) ∧ Hid (Blk W (w.heap.size + 3) 28 zB))
    ⟨by go_grown, Lib.hid ((((Blk.new _ _ _).alloc _).alloc _).alloc _), Lib.hid (((Blk.new_at (by simp only [World.size_alloc])).alloc _).alloc _), Lib.hid ((Blk.new_at (by simp only [World.size_alloc])).alloc _), Lib.hid (Blk.new_at (by simp only [World.size_alloc]))⟩ ?_
  rintro W ⟨hB, HF, HP, HZ, HX⟩
  have hBs := hB.size
  have hl3 := HX.out.lt
  have hl2 : w.heap.size + 2 < W.heap.size := by omega
  have hl1 : w.heap.size + 1 < W.heap.size := by omega
  have hl0 : w.heap.size < W.heap.size := by omega
  have f0 : W.cell? ⟨w.heap.size, 0, none⟩ = some (.int .i64 ty) := HF.out.cell 0
  have f1 : W.cell? ⟨w.heap.size, 1, none⟩ = some (.int .i64 fl) := HF.out.cell 1
  have f2 : W.cell? ⟨w.heap.size, 2, none⟩ = some (.int .i64 st) := HF.out.cell 2
  have f3 : W.cell? ⟨w.heap.size, 3, none⟩ = some (.slice A n cap) := HF.out.cell 3
  have HRW := Lib.hid (HR.out.below hB (Nat.le_refl _))
  generalize hg : w.heap.size = g at *
  have HG := Lib.hid hg
  clear hg
  have c2 : W.cell? ⟨g + 1, 2, none⟩ = some (.bool false) := HP.out.cell 2
  have z2 : W.frozen? ⟨g + 1, 2, none⟩ = false := HP.out.frozen 2
  have c3 : W.cell? ⟨g + 1, 3, none⟩ = some (.bool false) := HP.out.cell 3
  have z3 : W.frozen? ⟨g + 1, 3, none⟩ = false := HP.out.frozen 3
  go_upto_region 7 with fail
  have HP0 := Lib.hid ((HP.out.put 2 (.bool ek)).put 3 (.bool fk))
  have HZ0 := Lib.hid ((HZ.out.far (p := ⟨g + 1, 2, none⟩) (by simp) (.bool ek)).far (p := ⟨g + 1, 3, none⟩) (by simp) (.bool fk))
  have HX0 := Lib.hid ((HX.out.far (p := ⟨g + 1, 2, none⟩) (by simp) (.bool ek)).far (p := ⟨g + 1, 3, none⟩) (by simp) (.bool fk))
  have HF0 := Lib.hid ((HF.out.far (p := ⟨g + 1, 2, none⟩) (by simp) (.bool ek)).far (p := ⟨g + 1, 3, none⟩) (by simp) (.bool fk))
  have hB0 : Below g w ((W.setCell ⟨g + 1, 2, none⟩ (.bool ek)).setCell ⟨g + 1, 3, none⟩ (.bool fk)) := ((hB.setCell (by simp) (.bool ek)).setCell (by simp) (.bool fk))
  have hse : W.heap.size ≤ ((W.setCell ⟨g + 1, 2, none⟩ (.bool ek)).setCell ⟨g + 1, 3, none⟩ (.bool fk)).heap.size := by simp only [World.size_setCell]; exact Nat.le_refl _
  refine wp_forget (fun V => Below g w V ∧ W.heap.size ≤ V.heap.size ∧ Hid (Blk V g 32 (fC ty fl st (.slice A n cap))) ∧ Hid (Blk V (g + 1) 26 #[.int .i64 ty, .int .i64 st, .bool ek, .bool fk, .bool false, .slice none 0 0, .int .i64 0, .int .i64 0, .int .i64 0, .int .i64 0, .slice none 0 0]) ∧ Hid (Blk V (g + 2) 26 zP) ∧ Hid (Blk V (g + 3) 28 zB)) ⟨hB0, hse, HF0, HP0, HZ0, HX0⟩ ?_
  clear HP0 HZ0 HX0 HF0 hB0 hse HRW HF HP HZ HX f0 f1 f2 f3 c2 z2 c3 z3
  rintro V ⟨hBV, hsV, HFV, HPV, HZV, HXV⟩
  have hBs' := hBV.size
  have v0 : V.cell? ⟨g, 0, none⟩ = some (.int .i64 ty) := HFV.out.cell 0
  have v1 : V.cell? ⟨g, 1, none⟩ = some (.int .i64 fl) := HFV.out.cell 1
  have v2 : V.cell? ⟨g, 2, none⟩ = some (.int .i64 st) := HFV.out.cell 2
  have hlV : g + 3 < V.heap.size := by omega
  have HRV : Hid (BS V (.slice A n cap) L) := Lib.hid (HR.out.below (by rw [HG.out]; exact hBV) (Nat.le_refl _))
  have h8 : (bits .and .i64 fl 8 != 0) = false := h8f
  have HVB := HRV
  go_upto_region 15 with fail
  go_region_held3 (fun wx => wx.cell? ⟨g, 2, none⟩ = some (.int .i64 st)) (first | assumption | go_simp) ((go_at_call 35; refine (four_any _ L _ (HVB.out.below (by go_grown) (Nat.le_refl _)) HY.out h54).mono ?_; rintro e w1 ⟨rfl, hD1⟩; have hB1 : Below V.heap.size V w1 := Below.trans (by go_grown) hD1; have v12 : w1.cell? ⟨g, 2, none⟩ = some (.int .i64 st) := (hB1.cell (p := ⟨g, 2, none⟩) (show g < V.heap.size by omega)).trans v2))
  have hS1 := hB1.size
  have HPW := Lib.hid (HPV.out.below hB1 (by omega))
  have HZW := Lib.hid (HZV.out.below hB1 (by omega))
  have HXW := Lib.hid (HXV.out.below hB1 (by omega))
  have hBW : Below g w w1 := hBV.trans (hB1.mono (by omega))
  have hBWs := hBW.size
  obtain ⟨A5, n5, c5', hrun5, hs5⟩ := run_fromI HVB.out 5 (by omega) (by omega)
  have hs5' : BS V (.slice A5 n5 c5') b5 := by have h := hs5; rwa [show (5 : Int).toNat = 5 from rfl, H5.out] at h
  clear hs5
  obtain ⟨_, _, he5, hk5, hm5, _⟩ := id hs5'
  cases he5
  have HVC := Lib.hid (hs5'.below hB1 (Nat.le_refl _))
  clear hs5'
  obtain ⟨A3, n3, c3, hrun3, hs3⟩ := run_to HVC.out (b5.length : Int) (by omega) (by omega)
  have hs3' : BS w1 (.slice A3 n3 c3) b' := by have h := hs3; rwa [Int.toNat_natCast, List.take_of_length_le (by omega), HB'.out] at h
  clear hs3
  have hn3e : b'.length = n3 := by obtain ⟨_, _, he, _⟩ := id hs3'; cases he; rfl
  have HN3 := Lib.hid hn3e
  have hn3l : n3 ≤ 1099511627776 := by omega
  have HSR := Lib.hid (bs_src (hs3'.below (below_self w1 (.cells #[] 5)) (Nat.le_refl _)))
  clear hs3' hn3e
  obtain ⟨i0, hi, hz0, hz1, hz2⟩ := info_parts info5
  go_upto_region 21 with (first
    | (at_builtin
       refine wpList_append_src rfl (.tmp 76) (.tmp 82) 22 rfl w1.heap.size 5 i0 _ 1 1 Try.underlying22 hi hz0 hz1 hz2 rfl (by decide) (.slice (some ⟨w1.heap.size, 0, none⟩) 0 0) 0 [] rfl (World.ownsRow_lit (base := w1.heap.size) w1 #[] 0 (Nat.le_refl _) (by decide) rfl) A3 n3 c3 (bv b') rfl HSR.out.2.1 (by rw [bv_len, HN3.out, Nat.mul_one]) HSR.out.2.2 (bv_one _) ?a4 ?a5 ?a6 ?_
       (case a4 => unfold maxLen; omega)
       (case a5 => omega)
       (case a6 => simp only [World.size_alloc]; omega)
       intro va wa hown1 hg1
       have hown2 : wa.ownsRow w1.heap.size 5 1 va b'.length (bv b') := by
         have h := hown1
         rw [Nat.zero_add, List.nil_append] at h
         rw [HN3.out]
         exact h
       have hBa : Below w1.heap.size w1 wa := (below_self w1 _).grown hg1 (by simp only [World.size_alloc]; omega) (by intro q hq; simp [Value.ownBlock] at hq; omega)
       obtain ⟨Av, cv, rfl⟩ := own_form hown2
       have HO := Lib.hid hown2
       have hsa := hBa.size
       have HPa := Lib.hid (HPW.out.below hBa (by omega))
       have HZa := Lib.hid (HZW.out.below hBa (by omega))
       have HXa := Lib.hid (HXW.out.below hBa (by omega))
       have ca : wa.cell? ⟨g + 1, 5, none⟩ = some (.slice none 0 0) := HPa.out.cell 5
       have za : wa.frozen? ⟨g + 1, 5, none⟩ = false := HPa.out.frozen 5
       have hBga : Below g w wa := hBW.trans (hBa.mono (by omega))
       clear hown1 hown2 hg1))
  have HP9 := Lib.hid (HPa.out.put 5 (.slice Av b'.length cv))
  have HZ9 := Lib.hid (HZa.out.far (p := ⟨g + 1, 5, none⟩) (by simp) (.slice Av b'.length cv))
  have HX9 := Lib.hid (HXa.out.far (p := ⟨g + 1, 5, none⟩) (by simp) (.slice Av b'.length cv))
  have HO9 := Lib.hid (ownsRow_setCell_below HO.out (a := ⟨g + 1, 5, none⟩) (show g + 1 < w1.heap.size by omega) (.slice Av b'.length cv))
  have hB9 : Below g w (wa.setCell ⟨g + 1, 5, none⟩ (.slice Av b'.length cv)) := hBga.setCell (by simp) _
  have hs9 : wa.heap.size ≤ (wa.setCell ⟨g + 1, 5, none⟩ (.slice Av b'.length cv)).heap.size := by simp only [World.size_setCell]; exact Nat.le_refl _
  refine wp_forget (fun X => Below g w X ∧ wa.heap.size ≤ X.heap.size ∧ Hid (X.ownsRow w1.heap.size 5 1 (.slice Av b'.length cv) b'.length (bv b')) ∧ Hid (Blk X (g + 1) 26 #[.int .i64 ty, .int .i64 st, .bool ek, .bool fk, .bool false, .slice Av b'.length cv, .int .i64 0, .int .i64 0, .int .i64 0, .int .i64 0, .slice none 0 0]) ∧ Hid (Blk X (g + 2) 26 zP) ∧ Hid (Blk X (g + 3) 28 zB)) ⟨hB9, hs9, HO9, HP9, HZ9, HX9⟩ ?_
  clear HP9 HZ9 HX9 HO9 hB9 hs9
  rintro X ⟨hBe, hsX, HOe, HPe, HZe, HXe⟩
  go_wp2_with (first
    | (refine wpList_load_row rfl 26 (.tmp 3) rfl (g + 1) rfl 26 _ _ _ HPe.out Try.underlying26 rfl (by kernel_rfl) ?_)
    | (refine wpList_store_row rfl 26 (.tmp 4) (.tmp 85) rfl (g + 2) rfl #[.int .i64 ty, .int .i64 st, .bool ek, .bool fk, .bool false, .slice Av b'.length cv, .int .i64 0, .int .i64 0, .int .i64 0, .int .i64 0, .slice none 0 0] rfl 26 _ HZe.out rfl (by kernel_rfl) (by simp [Value.oneCell']) ?_; intro x1 hx1 gx1 sx1; have HXx := Lib.hid (HXe.out.grown gx1 (by simp)))
    | (refine wpList_store_row rfl 28 (.tmp 5) (.tmp 86) rfl (g + 3) rfl zB rfl 28 _ HXx.out rfl (by kernel_rfl) (by simp [Value.oneCell']) ?_; intro x2 hx2 gx2 sx2))
  have hgo := HG.out
  subst hgo
  refine bodyPost_ret (results_cc rfl _ (w.heap.size + 2) (w.heap.size + 3) 26 28 _ _ _ _ rfl (hx1.grown gx2 (by simp)) Try.underlying26 rfl (by kernel_rfl) rfl hx2 Try.underlying28 rfl (by kernel_rfl)) rfl ⟨⟨_, rfl, ⟨.slice Av b'.length cv, .slice none 0 0, rfl, (own_grown (own_grown HOe.out gx1 (by omega)) gx2 (by omega)).mono (by omega), World.ownsRow_nil _ _ _ _⟩⟩, ((hBe.grown gx1 (by omega) (fun q hq => by cases hq; omega)).grown gx2 (by omega) (fun q hq => by cases hq; omega))⟩
set_option maxHeartbeats 4000000 in
set_option maxRecDepth 100000 in
theorem rl_over_110 (ty fl st : Int) (A : Option Addr) (n cap : Nat) (L : List Int) (w : World) (hR : BS w (.slice A n cap) L) (hln : L.length = n) (hb : Byt L) (hn : n ≤ 1099511627776) (e0 : (ty == 0) = false) (e1 : (ty == 1) = true) (ek fk : Bool) (he : (bits .and .i64 fl 1 != 0) = ek) (hf4 : (bits .and .i64 fl 4 != 0) = fk) (p : Int) (b : List Int) (hLb : L = p :: b) (h8f : (bits .and .i64 fl 8 != 0) = true) (hf : (bits .and .i64 fl 32 != 0) = false) (hov : (b.length : Int) < p)  :
    Calls Try.prog 34 #[.agg (fC ty fl st (.slice A n cap)), .agg (pB ty st)] w fun e w' => Ans w.heap.size (PP.zero, cB 1) e w' ∧ Below w.heap.size w w' := by
  have HR := Lib.hid hR
  have HL := Lib.hid hln
  have HY := Lib.hid hb
  clear hR hln hb
  have hp0 : 0 ≤ p := (HY.out p (by rw [hLb]; simp)).1
  have hp1 : p ≤ 255 := (HY.out p (by rw [hLb]; simp)).2
  have hby : Byt b := fun x hx => HY.out x (by rw [hLb]; simp [hx])
  have HBY := Lib.hid hby
  have hbl : b.length + 1 = n := by rw [← HL.out, hLb]; simp
  have HLb := Lib.hid hLb
  clear hLb hby
  go_enter Try.func34, Try.ntmps34
  go_upto_region 1 with fail
  refine wp_forget (fun W => Below w.heap.size w W ∧ Hid (Blk W w.heap.size 32 (fC ty fl st (.slice A n cap))) ∧ Hid (Blk W (w.heap.size + 1) 26 (pB ty st)) ∧ Hid (Blk W (w.heap.size + 2) 26 zP) ∧ Hid (Blk W (w.heap.size + 3) 28 zB))
    ⟨by go_grown, Lib.hid ((((Blk.new _ _ _).alloc _).alloc _).alloc _), Lib.hid (((Blk.new_at (by simp only [World.size_alloc])).alloc _).alloc _), Lib.hid ((Blk.new_at (by simp only [World.size_alloc])).alloc _), Lib.hid (Blk.new_at (by simp only [World.size_alloc]))⟩ ?_
  rintro W ⟨hB, HF, HP, HZ, HX⟩
  have hBs := hB.size
  have hl3 := HX.out.lt
  have hl2 : w.heap.size + 2 < W.heap.size := by omega
  have hl1 : w.heap.size + 1 < W.heap.size := by omega
  have hl0 : w.heap.size < W.heap.size := by omega
  have f0 : W.cell? ⟨w.heap.size, 0, none⟩ = some (.int .i64 ty) := HF.out.cell 0
  have f1 : W.cell? ⟨w.heap.size, 1, none⟩ = some (.int .i64 fl) := HF.out.cell 1
  have f2 : W.cell? ⟨w.heap.size, 2, none⟩ = some (.int .i64 st) := HF.out.cell 2
  have f3 : W.cell? ⟨w.heap.size, 3, none⟩ = some (.slice A n cap) := HF.out.cell 3
  have HRW := Lib.hid (HR.out.below hB (Nat.le_refl _))
  generalize hg : w.heap.size = g at *
  have HG := Lib.hid hg
  clear hg
  have c2 : W.cell? ⟨g + 1, 2, none⟩ = some (.bool false) := HP.out.cell 2
  have z2 : W.frozen? ⟨g + 1, 2, none⟩ = false := HP.out.frozen 2
  have c3 : W.cell? ⟨g + 1, 3, none⟩ = some (.bool false) := HP.out.cell 3
  have z3 : W.frozen? ⟨g + 1, 3, none⟩ = false := HP.out.frozen 3
  go_upto_region 7 with fail
  have HP0 := Lib.hid ((HP.out.put 2 (.bool ek)).put 3 (.bool fk))
  have HZ0 := Lib.hid ((HZ.out.far (p := ⟨g + 1, 2, none⟩) (by simp) (.bool ek)).far (p := ⟨g + 1, 3, none⟩) (by simp) (.bool fk))
  have HX0 := Lib.hid ((HX.out.far (p := ⟨g + 1, 2, none⟩) (by simp) (.bool ek)).far (p := ⟨g + 1, 3, none⟩) (by simp) (.bool fk))
  have HF0 := Lib.hid ((HF.out.far (p := ⟨g + 1, 2, none⟩) (by simp) (.bool ek)).far (p := ⟨g + 1, 3, none⟩) (by simp) (.bool fk))
  have hB0 : Below g w ((W.setCell ⟨g + 1, 2, none⟩ (.bool ek)).setCell ⟨g + 1, 3, none⟩ (.bool fk)) := ((hB.setCell (by simp) (.bool ek)).setCell (by simp) (.bool fk))
  have hse : W.heap.size ≤ ((W.setCell ⟨g + 1, 2, none⟩ (.bool ek)).setCell ⟨g + 1, 3, none⟩ (.bool fk)).heap.size := by simp only [World.size_setCell]; exact Nat.le_refl _
  refine wp_forget (fun V => Below g w V ∧ W.heap.size ≤ V.heap.size ∧ Hid (Blk V g 32 (fC ty fl st (.slice A n cap))) ∧ Hid (Blk V (g + 1) 26 #[.int .i64 ty, .int .i64 st, .bool ek, .bool fk, .bool false, .slice none 0 0, .int .i64 0, .int .i64 0, .int .i64 0, .int .i64 0, .slice none 0 0]) ∧ Hid (Blk V (g + 2) 26 zP) ∧ Hid (Blk V (g + 3) 28 zB)) ⟨hB0, hse, HF0, HP0, HZ0, HX0⟩ ?_
  clear HP0 HZ0 HX0 HF0 hB0 hse HRW HF HP HZ HX f0 f1 f2 f3 c2 z2 c3 z3
  rintro V ⟨hBV, hsV, HFV, HPV, HZV, HXV⟩
  have hBs' := hBV.size
  have v0 : V.cell? ⟨g, 0, none⟩ = some (.int .i64 ty) := HFV.out.cell 0
  have v1 : V.cell? ⟨g, 1, none⟩ = some (.int .i64 fl) := HFV.out.cell 1
  have v2 : V.cell? ⟨g, 2, none⟩ = some (.int .i64 st) := HFV.out.cell 2
  have hlV : g + 3 < V.heap.size := by omega
  have HRV : Hid (BS V (.slice A n cap) L) := Lib.hid (HR.out.below (by rw [HG.out]; exact hBV) (Nat.le_refl _))
  have h8 : (bits .and .i64 fl 8 != 0) = true := h8f
  obtain ⟨_, _, he8, hk8, hm8, hc8⟩ := id HRV.out
  rw [HL.out] at he8 hk8 hc8
  cases he8
  obtain ⟨b0, off, rfl, gb, q⟩ := hc8 (by omega)
  have q0 : V.cell? ⟨b0, off, none⟩ = some (.int .u8 p) := by have h := q 0 0 (by omega) (by omega); rw [HLb.out] at h; simpa using h
  obtain ⟨A1, n1, c1, hrun1, hs1⟩ := run_fromI HRV.out 1 (by omega) (by have := HL.out; omega)
  have hs1' : BS V (.slice A1 n1 c1) b := by have h := hs1; rw [HLb.out] at h; exact h
  clear hs1 hc8 q
  obtain ⟨_, _, he1, hk1, hm1, _⟩ := id hs1'
  cases he1
  have HVB := Lib.hid hs1'
  clear hs1'
  have hn1 : (0 : Int) < (n : Int) := by omega
  have hn2 : ¬ (n : Int) = 0 := by omega
  have hn3 : ((n : Int) == 0) = false := by simp; omega
  have HVC := HVB
  go_wp2_with (first
    | (go_at_call 33; refine (rbadc_any 1 _).mono ?_; rintro e w9 ⟨rfl, hB9⟩; have hS9 := hB9.size; have HZ9 := Lib.hid (HZV.out.below hB9 (by omega)); have HX9 := Lib.hid (HXV.out.below hB9 (by omega)))
    | (refine wpList_store_row rfl 26 (.tmp 4) (.tmp 74) rfl (g + 2) rfl zP rfl 26 _ HZ9.out rfl (by kernel_rfl) (by simp [Value.oneCell']) ?_; intro x1 hx1 gx1 sx1; have HXx := Lib.hid (HX9.out.grown gx1 (by simp)))
    | (refine wpList_store_row rfl 28 (.tmp 5) (.tmp 75) rfl (g + 3) rfl #[.int .i64 2, .int .i64 (1), .int .i64 0] rfl 28 _ HXx.out rfl (by kernel_rfl) (by simp [Value.oneCell']) ?_; intro x2 hx2 gx2 sx2))
  have hgo := HG.out
  subst hgo
  refine bodyPost_ret (results_cc rfl _ (w.heap.size + 2) (w.heap.size + 3) 26 28 _ _ _ _ rfl (hx1.grown gx2 (by simp)) Try.underlying26 rfl (by kernel_rfl) rfl hx2 Try.underlying28 rfl (by kernel_rfl)) rfl ⟨⟨_, rfl, isP_zero _ _⟩, (((hBV.trans (hB9.mono (by omega))).grown gx1 (by omega) (fun q hq => by cases hq; omega)).grown gx2 (by omega) (fun q hq => by cases hq; omega))⟩
set_option maxHeartbeats 4000000 in
set_option maxRecDepth 100000 in
theorem rl_ok_110 (ty fl st : Int) (A : Option Addr) (n cap : Nat) (L : List Int) (w : World) (hR : BS w (.slice A n cap) L) (hln : L.length = n) (hb : Byt L) (hn : n ≤ 1099511627776) (e0 : (ty == 0) = false) (e1 : (ty == 1) = true) (ek fk : Bool) (he : (bits .and .i64 fl 1 != 0) = ek) (hf4 : (bits .and .i64 fl 4 != 0) = fk) (p : Int) (b : List Int) (hLb : L = p :: b) (h8f : (bits .and .i64 fl 8 != 0) = true) (hf : (bits .and .i64 fl 32 != 0) = false) (b' : List Int) (hb' : b.take ((b.length : Int) - p).toNat = b') (hov : ¬ (b.length : Int) < p)  :
    Calls Try.prog 34 #[.agg (fC ty fl st (.slice A n cap)), .agg (pB ty st)] w fun e w' => Ans w.heap.size ({ PP.base ty st with e := ek, f := fk, body := b' }, okB) e w' ∧ Below w.heap.size w w' := by
  have HR := Lib.hid hR
  have HL := Lib.hid hln
  have HY := Lib.hid hb
  clear hR hln hb
  have hp0 : 0 ≤ p := (HY.out p (by rw [hLb]; simp)).1
  have hp1 : p ≤ 255 := (HY.out p (by rw [hLb]; simp)).2
  have hby : Byt b := fun x hx => HY.out x (by rw [hLb]; simp [hx])
  have HBY := Lib.hid hby
  have hbl : b.length + 1 = n := by rw [← HL.out, hLb]; simp
  have HLb := Lib.hid hLb
  clear hLb hby
  have hlt2 : b'.length ≤ 1099511627776 := by rw [← hb']; simp; omega
  have HB' := Lib.hid hb'
  clear hb'
  go_enter Try.func34, Try.ntmps34
  go_upto_region 1 with fail
  refine wp_forget (fun W => Below w.heap.size w W ∧ Hid (Blk W w.heap.size 32 (fC ty fl st (.slice A n cap))) ∧ Hid (Blk W (w.heap.size + 1) 26 (pB ty st)) ∧ Hid (Blk W (w.heap.size + 2) 26 zP) ∧ Hid (Blk W (w.heap.size + 3) 28 zB))
    ⟨by go_grown, Lib.hid ((((Blk.new _ _ _).alloc _).alloc _).alloc _), Lib.hid (((Blk.new_at (by simp only [World.size_alloc])).alloc _).alloc _), Lib.hid ((Blk.new_at (by simp only [World.size_alloc])).alloc _), Lib.hid (Blk.new_at (by simp only [World.size_alloc]))⟩ ?_
  rintro W ⟨hB, HF, HP, HZ, HX⟩
  have hBs := hB.size
  have hl3 := HX.out.lt
  have hl2 : w.heap.size + 2 < W.heap.size := by omega
  have hl1 : w.heap.size + 1 < W.heap.size := by omega
  have hl0 : w.heap.size < W.heap.size := by omega
  have f0 : W.cell? ⟨w.heap.size, 0, none⟩ = some (.int .i64 ty) := HF.out.cell 0
  have f1 : W.cell? ⟨w.heap.size, 1, none⟩ = some (.int .i64 fl) := HF.out.cell 1
  have f2 : W.cell? ⟨w.heap.size, 2, none⟩ = some (.int .i64 st) := HF.out.cell 2
  have f3 : W.cell? ⟨w.heap.size, 3, none⟩ = some (.slice A n cap) := HF.out.cell 3
  have HRW := Lib.hid (HR.out.below hB (Nat.le_refl _))
  generalize hg : w.heap.size = g at *
  have HG := Lib.hid hg
  clear hg
  have c2 : W.cell? ⟨g + 1, 2, none⟩ = some (.bool false) := HP.out.cell 2
  have z2 : W.frozen? ⟨g + 1, 2, none⟩ = false := HP.out.frozen 2
  have c3 : W.cell? ⟨g + 1, 3, none⟩ = some (.bool false) := HP.out.cell 3
  have z3 : W.frozen? ⟨g + 1, 3, none⟩ = false := HP.out.frozen 3
  go_upto_region 7 with fail
  have HP0 := Lib.hid ((HP.out.put 2 (.bool ek)).put 3 (.bool fk))
  have HZ0 := Lib.hid ((HZ.out.far (p := ⟨g + 1, 2, none⟩) (by simp) (.bool ek)).far (p := ⟨g + 1, 3, none⟩) (by simp) (.bool fk))
  have HX0 := Lib.hid ((HX.out.far (p := ⟨g + 1, 2, none⟩) (by simp) (.bool ek)).far (p := ⟨g + 1, 3, none⟩) (by simp) (.bool fk))
  have HF0 := Lib.hid ((HF.out.far (p := ⟨g + 1, 2, none⟩) (by simp) (.bool ek)).far (p := ⟨g + 1, 3, none⟩) (by simp) (.bool fk))
  have hB0 : Below g w ((W.setCell ⟨g + 1, 2, none⟩ (.bool ek)).setCell ⟨g + 1, 3, none⟩ (.bool fk)) := ((hB.setCell (by simp) (.bool ek)).setCell (by simp) (.bool fk))
  have hse : W.heap.size ≤ ((W.setCell ⟨g + 1, 2, none⟩ (.bool ek)).setCell ⟨g + 1, 3, none⟩ (.bool fk)).heap.size := by simp only [World.size_setCell]; exact Nat.le_refl _
  refine wp_forget (fun V => Below g w V ∧ W.heap.size ≤ V.heap.size ∧ Hid (Blk V g 32 (fC ty fl st (.slice A n cap))) ∧ Hid (Blk V (g + 1) 26 #[.int .i64 ty, .int .i64 st, .bool ek, .bool fk, .bool false, .slice none 0 0, .int .i64 0, .int .i64 0, .int .i64 0, .int .i64 0, .slice none 0 0]) ∧ Hid (Blk V (g + 2) 26 zP) ∧ Hid (Blk V (g + 3) 28 zB)) ⟨hB0, hse, HF0, HP0, HZ0, HX0⟩ ?_
  clear HP0 HZ0 HX0 HF0 hB0 hse HRW HF HP HZ HX f0 f1 f2 f3 c2 z2 c3 z3
  rintro V ⟨hBV, hsV, HFV, HPV, HZV, HXV⟩
  have hBs' := hBV.size
  have v0 : V.cell? ⟨g, 0, none⟩ = some (.int .i64 ty) := HFV.out.cell 0
  have v1 : V.cell? ⟨g, 1, none⟩ = some (.int .i64 fl) := HFV.out.cell 1
  have v2 : V.cell? ⟨g, 2, none⟩ = some (.int .i64 st) := HFV.out.cell 2
  have hlV : g + 3 < V.heap.size := by omega
  have HRV : Hid (BS V (.slice A n cap) L) := Lib.hid (HR.out.below (by rw [HG.out]; exact hBV) (Nat.le_refl _))
  have h8 : (bits .and .i64 fl 8 != 0) = true := h8f
  obtain ⟨_, _, he8, hk8, hm8, hc8⟩ := id HRV.out
  rw [HL.out] at he8 hk8 hc8
  cases he8
  obtain ⟨b0, off, rfl, gb, q⟩ := hc8 (by omega)
  have q0 : V.cell? ⟨b0, off, none⟩ = some (.int .u8 p) := by have h := q 0 0 (by omega) (by omega); rw [HLb.out] at h; simpa using h
  obtain ⟨A1, n1, c1, hrun1, hs1⟩ := run_fromI HRV.out 1 (by omega) (by have := HL.out; omega)
  have hs1' : BS V (.slice A1 n1 c1) b := by have h := hs1; rw [HLb.out] at h; exact h
  clear hs1 hc8 q
  obtain ⟨_, _, he1, hk1, hm1, _⟩ := id hs1'
  cases he1
  have HVB := Lib.hid hs1'
  clear hs1'
  have hn1 : (0 : Int) < (n : Int) := by omega
  have hn2 : ¬ (n : Int) = 0 := by omega
  have hn3 : ((n : Int) == 0) = false := by simp; omega
  have HVC := HVB
  have hpn : 0 ≤ (b.length : Int) - p := by omega
  obtain ⟨A3, n3, c3, hrun3, hs3⟩ := run_to HVC.out ((b.length : Int) - p) (by omega) (by omega)
  have hs3' : BS V (.slice A3 n3 c3) b' := by have h := hs3; rwa [HB'.out] at h
  clear hs3
  have hn3e : b'.length = n3 := by obtain ⟨_, _, he, _⟩ := id hs3'; cases he; rfl
  have HN3 := Lib.hid hn3e
  have hn3l : n3 ≤ 1099511627776 := by omega
  have HSR := Lib.hid (bs_src (hs3'.below (below_self V (.cells #[] 5)) (Nat.le_refl _)))
  clear hs3' hn3e
  obtain ⟨i0, hi, hz0, hz1, hz2⟩ := info_parts info5
  go_upto_region 21 with (first
    | (at_builtin
       refine wpList_append_src rfl (.tmp 76) (.tmp 82) 22 rfl V.heap.size 5 i0 _ 1 1 Try.underlying22 hi hz0 hz1 hz2 rfl (by decide) (.slice (some ⟨V.heap.size, 0, none⟩) 0 0) 0 [] rfl (World.ownsRow_lit (base := V.heap.size) V #[] 0 (Nat.le_refl _) (by decide) rfl) A3 n3 c3 (bv b') rfl HSR.out.2.1 (by rw [bv_len, HN3.out, Nat.mul_one]) HSR.out.2.2 (bv_one _) ?a4 ?a5 ?a6 ?_
       (case a4 => unfold maxLen; omega)
       (case a5 => omega)
       (case a6 => simp only [World.size_alloc]; omega)
       intro va wa hown1 hg1
       have hown2 : wa.ownsRow V.heap.size 5 1 va b'.length (bv b') := by
         have h := hown1
         rw [Nat.zero_add, List.nil_append] at h
         rw [HN3.out]
         exact h
       have hBa : Below V.heap.size V wa := (below_self V _).grown hg1 (by simp only [World.size_alloc]; omega) (by intro q hq; simp [Value.ownBlock] at hq; omega)
       obtain ⟨Av, cv, rfl⟩ := own_form hown2
       have HO := Lib.hid hown2
       have hsa := hBa.size
       have HPa := Lib.hid (HPV.out.below hBa (by omega))
       have HZa := Lib.hid (HZV.out.below hBa (by omega))
       have HXa := Lib.hid (HXV.out.below hBa (by omega))
       have ca : wa.cell? ⟨g + 1, 5, none⟩ = some (.slice none 0 0) := HPa.out.cell 5
       have za : wa.frozen? ⟨g + 1, 5, none⟩ = false := HPa.out.frozen 5
       have hBga : Below g w wa := hBV.trans (hBa.mono (by omega))
       clear hown1 hown2 hg1))
  have HP9 := Lib.hid (HPa.out.put 5 (.slice Av b'.length cv))
  have HZ9 := Lib.hid (HZa.out.far (p := ⟨g + 1, 5, none⟩) (by simp) (.slice Av b'.length cv))
  have HX9 := Lib.hid (HXa.out.far (p := ⟨g + 1, 5, none⟩) (by simp) (.slice Av b'.length cv))
  have HO9 := Lib.hid (ownsRow_setCell_below HO.out (a := ⟨g + 1, 5, none⟩) (show g + 1 < V.heap.size by omega) (.slice Av b'.length cv))
  have hB9 : Below g w (wa.setCell ⟨g + 1, 5, none⟩ (.slice Av b'.length cv)) := hBga.setCell (by simp) _
  have hs9 : wa.heap.size ≤ (wa.setCell ⟨g + 1, 5, none⟩ (.slice Av b'.length cv)).heap.size := by simp only [World.size_setCell]; exact Nat.le_refl _
  refine wp_forget (fun X => Below g w X ∧ wa.heap.size ≤ X.heap.size ∧ Hid (X.ownsRow V.heap.size 5 1 (.slice Av b'.length cv) b'.length (bv b')) ∧ Hid (Blk X (g + 1) 26 #[.int .i64 ty, .int .i64 st, .bool ek, .bool fk, .bool false, .slice Av b'.length cv, .int .i64 0, .int .i64 0, .int .i64 0, .int .i64 0, .slice none 0 0]) ∧ Hid (Blk X (g + 2) 26 zP) ∧ Hid (Blk X (g + 3) 28 zB)) ⟨hB9, hs9, HO9, HP9, HZ9, HX9⟩ ?_
  clear HP9 HZ9 HX9 HO9 hB9 hs9
  rintro X ⟨hBe, hsX, HOe, HPe, HZe, HXe⟩
  go_wp2_with (first
    | (refine wpList_load_row rfl 26 (.tmp 3) rfl (g + 1) rfl 26 _ _ _ HPe.out Try.underlying26 rfl (by kernel_rfl) ?_)
    | (refine wpList_store_row rfl 26 (.tmp 4) (.tmp 85) rfl (g + 2) rfl #[.int .i64 ty, .int .i64 st, .bool ek, .bool fk, .bool false, .slice Av b'.length cv, .int .i64 0, .int .i64 0, .int .i64 0, .int .i64 0, .slice none 0 0] rfl 26 _ HZe.out rfl (by kernel_rfl) (by simp [Value.oneCell']) ?_; intro x1 hx1 gx1 sx1; have HXx := Lib.hid (HXe.out.grown gx1 (by simp)))
    | (refine wpList_store_row rfl 28 (.tmp 5) (.tmp 86) rfl (g + 3) rfl zB rfl 28 _ HXx.out rfl (by kernel_rfl) (by simp [Value.oneCell']) ?_; intro x2 hx2 gx2 sx2))
  have hgo := HG.out
  subst hgo
  refine bodyPost_ret (results_cc rfl _ (w.heap.size + 2) (w.heap.size + 3) 26 28 _ _ _ _ rfl (hx1.grown gx2 (by simp)) Try.underlying26 rfl (by kernel_rfl) rfl hx2 Try.underlying28 rfl (by kernel_rfl)) rfl ⟨⟨_, rfl, ⟨.slice Av b'.length cv, .slice none 0 0, rfl, (own_grown (own_grown HOe.out gx1 (by omega)) gx2 (by omega)).mono (by omega), World.ownsRow_nil _ _ _ _⟩⟩, ((hBe.grown gx1 (by omega) (fun q hq => by cases hq; omega)).grown gx2 (by omega) (fun q hq => by cases hq; omega))⟩
set_option maxHeartbeats 4000000 in
set_option maxRecDepth 100000 in
theorem rl_short_111 (ty fl st : Int) (A : Option Addr) (n cap : Nat) (L : List Int) (w : World) (hR : BS w (.slice A n cap) L) (hln : L.length = n) (hb : Byt L) (hn : n ≤ 1099511627776) (e0 : (ty == 0) = false) (e1 : (ty == 1) = true) (ek fk : Bool) (he : (bits .and .i64 fl 1 != 0) = ek) (hf4 : (bits .and .i64 fl 4 != 0) = fk) (p : Int) (b : List Int) (hLb : L = p :: b) (h8f : (bits .and .i64 fl 8 != 0) = true) (hf : (bits .and .i64 fl 32 != 0) = true) (h5 : b.length < 5)  :
    Calls Try.prog 34 #[.agg (fC ty fl st (.slice A n cap)), .agg (pB ty st)] w fun e w' => Ans w.heap.size (PP.zero, cB 6) e w' ∧ Below w.heap.size w w' := by
  have HR := Lib.hid hR
  have HL := Lib.hid hln
  have HY := Lib.hid hb
  clear hR hln hb
  have hp0 : 0 ≤ p := (HY.out p (by rw [hLb]; simp)).1
  have hp1 : p ≤ 255 := (HY.out p (by rw [hLb]; simp)).2
  have hby : Byt b := fun x hx => HY.out x (by rw [hLb]; simp [hx])
  have HBY := Lib.hid hby
  have hbl : b.length + 1 = n := by rw [← HL.out, hLb]; simp
  have HLb := Lib.hid hLb
  clear hLb hby
  have h5i : (b.length : Int) < 5 := by omega
  go_enter Try.func34, Try.ntmps34
  go_upto_region 1 with fail
  refine wp_forget (fun W => Below w.heap.size w W ∧ Hid (Blk W w.heap.size 32 (fC ty fl st (.slice A n cap))) ∧ Hid (Blk W (w.heap.size + 1) 26 (pB ty st)) ∧ Hid (Blk W (w.heap.size + 2) 26 zP) ∧ Hid (Blk W (w.heap.size + 3) 28 zB))
    ⟨by go_grown, Lib.hid ((((Blk.new _ _ _).alloc _).alloc _).alloc _), Lib.hid (((Blk.new_at (by simp only [World.size_alloc])).alloc _).alloc _), Lib.hid ((Blk.new_at (by simp only [World.size_alloc])).alloc _), Lib.hid (Blk.new_at (by simp only [World.size_alloc]))⟩ ?_
  rintro W ⟨hB, HF, HP, HZ, HX⟩
  have hBs := hB.size
  have hl3 := HX.out.lt
  have hl2 : w.heap.size + 2 < W.heap.size := by omega
  have hl1 : w.heap.size + 1 < W.heap.size := by omega
  have hl0 : w.heap.size < W.heap.size := by omega
  have f0 : W.cell? ⟨w.heap.size, 0, none⟩ = some (.int .i64 ty) := HF.out.cell 0
  have f1 : W.cell? ⟨w.heap.size, 1, none⟩ = some (.int .i64 fl) := HF.out.cell 1
  have f2 : W.cell? ⟨w.heap.size, 2, none⟩ = some (.int .i64 st) := HF.out.cell 2
  have f3 : W.cell? ⟨w.heap.size, 3, none⟩ = some (.slice A n cap) := HF.out.cell 3
  have HRW := Lib.hid (HR.out.below hB (Nat.le_refl _))
  generalize hg : w.heap.size = g at *
  have HG := Lib.hid hg
  clear hg
  have c2 : W.cell? ⟨g + 1, 2, none⟩ = some (.bool false) := HP.out.cell 2
  have z2 : W.frozen? ⟨g + 1, 2, none⟩ = false := HP.out.frozen 2
  have c3 : W.cell? ⟨g + 1, 3, none⟩ = some (.bool false) := HP.out.cell 3
  have z3 : W.frozen? ⟨g + 1, 3, none⟩ = false := HP.out.frozen 3
  go_upto_region 7 with fail
  have HP0 := Lib.hid ((HP.out.put 2 (.bool ek)).put 3 (.bool fk))
  have HZ0 := Lib.hid ((HZ.out.far (p := ⟨g + 1, 2, none⟩) (by simp) (.bool ek)).far (p := ⟨g + 1, 3, none⟩) (by simp) (.bool fk))
  have HX0 := Lib.hid ((HX.out.far (p := ⟨g + 1, 2, none⟩) (by simp) (.bool ek)).far (p := ⟨g + 1, 3, none⟩) (by simp) (.bool fk))
  have HF0 := Lib.hid ((HF.out.far (p := ⟨g + 1, 2, none⟩) (by simp) (.bool ek)).far (p := ⟨g + 1, 3, none⟩) (by simp) (.bool fk))
  have hB0 : Below g w ((W.setCell ⟨g + 1, 2, none⟩ (.bool ek)).setCell ⟨g + 1, 3, none⟩ (.bool fk)) := ((hB.setCell (by simp) (.bool ek)).setCell (by simp) (.bool fk))
  have hse : W.heap.size ≤ ((W.setCell ⟨g + 1, 2, none⟩ (.bool ek)).setCell ⟨g + 1, 3, none⟩ (.bool fk)).heap.size := by simp only [World.size_setCell]; exact Nat.le_refl _
  refine wp_forget (fun V => Below g w V ∧ W.heap.size ≤ V.heap.size ∧ Hid (Blk V g 32 (fC ty fl st (.slice A n cap))) ∧ Hid (Blk V (g + 1) 26 #[.int .i64 ty, .int .i64 st, .bool ek, .bool fk, .bool false, .slice none 0 0, .int .i64 0, .int .i64 0, .int .i64 0, .int .i64 0, .slice none 0 0]) ∧ Hid (Blk V (g + 2) 26 zP) ∧ Hid (Blk V (g + 3) 28 zB)) ⟨hB0, hse, HF0, HP0, HZ0, HX0⟩ ?_
  clear HP0 HZ0 HX0 HF0 hB0 hse HRW HF HP HZ HX f0 f1 f2 f3 c2 z2 c3 z3
  rintro V ⟨hBV, hsV, HFV, HPV, HZV, HXV⟩
  have hBs' := hBV.size
  have v0 : V.cell? ⟨g, 0, none⟩ = some (.int .i64 ty) := HFV.out.cell 0
  have v1 : V.cell? ⟨g, 1, none⟩ = some (.int .i64 fl) := HFV.out.cell 1
  have v2 : V.cell? ⟨g, 2, none⟩ = some (.int .i64 st) := HFV.out.cell 2
  have hlV : g + 3 < V.heap.size := by omega
  have HRV : Hid (BS V (.slice A n cap) L) := Lib.hid (HR.out.below (by rw [HG.out]; exact hBV) (Nat.le_refl _))
  have h8 : (bits .and .i64 fl 8 != 0) = true := h8f
  obtain ⟨_, _, he8, hk8, hm8, hc8⟩ := id HRV.out
  rw [HL.out] at he8 hk8 hc8
  cases he8
  obtain ⟨b0, off, rfl, gb, q⟩ := hc8 (by omega)
  have q0 : V.cell? ⟨b0, off, none⟩ = some (.int .u8 p) := by have h := q 0 0 (by omega) (by omega); rw [HLb.out] at h; simpa using h
  obtain ⟨A1, n1, c1, hrun1, hs1⟩ := run_fromI HRV.out 1 (by omega) (by have := HL.out; omega)
  have hs1' : BS V (.slice A1 n1 c1) b := by have h := hs1; rw [HLb.out] at h; exact h
  clear hs1 hc8 q
  obtain ⟨_, _, he1, hk1, hm1, _⟩ := id hs1'
  cases he1
  have HVB := Lib.hid hs1'
  clear hs1'
  have hn1 : (0 : Int) < (n : Int) := by omega
  have hn2 : ¬ (n : Int) = 0 := by omega
  have hn3 : ((n : Int) == 0) = false := by simp; omega
  go_wp2_with (first
    | (go_at_call 33; refine (rbadc_any 6 _).mono ?_; rintro e w9 ⟨rfl, hB9⟩; have hS9 := hB9.size; have HZ9 := Lib.hid (HZV.out.below hB9 (by omega)); have HX9 := Lib.hid (HXV.out.below hB9 (by omega)))
    | (refine wpList_store_row rfl 26 (.tmp 4) (.tmp 55) rfl (g + 2) rfl zP rfl 26 _ HZ9.out rfl (by kernel_rfl) (by simp [Value.oneCell']) ?_; intro x1 hx1 gx1 sx1; have HXx := Lib.hid (HX9.out.grown gx1 (by simp)))
    | (refine wpList_store_row rfl 28 (.tmp 5) (.tmp 56) rfl (g + 3) rfl #[.int .i64 2, .int .i64 (6), .int .i64 0] rfl 28 _ HXx.out rfl (by kernel_rfl) (by simp [Value.oneCell']) ?_; intro x2 hx2 gx2 sx2))
  have hgo := HG.out
  subst hgo
  refine bodyPost_ret (results_cc rfl _ (w.heap.size + 2) (w.heap.size + 3) 26 28 _ _ _ _ rfl (hx1.grown gx2 (by simp)) Try.underlying26 rfl (by kernel_rfl) rfl hx2 Try.underlying28 rfl (by kernel_rfl)) rfl ⟨⟨_, rfl, isP_zero _ _⟩, (((hBV.trans (hB9.mono (by omega))).grown gx1 (by omega) (fun q hq => by cases hq; omega)).grown gx2 (by omega) (fun q hq => by cases hq; omega))⟩
set_option maxHeartbeats 4000000 in
set_option maxRecDepth 100000 in
theorem rl_eq_111 (ty fl st : Int) (A : Option Addr) (n cap : Nat) (L : List Int) (w : World) (hR : BS w (.slice A n cap) L) (hln : L.length = n) (hb : Byt L) (hn : n ≤ 1099511627776) (e0 : (ty == 0) = false) (e1 : (ty == 1) = true) (ek fk : Bool) (he : (bits .and .i64 fl 1 != 0) = ek) (hf4 : (bits .and .i64 fl 4 != 0) = fk) (p : Int) (b : List Int) (hLb : L = p :: b) (h8f : (bits .and .i64 fl 8 != 0) = true) (hf : (bits .and .i64 fl 32 != 0) = true) (h5 : 5 ≤ b.length) (hne : (num b 0 % 2147483648 == st) = true)  :
    Calls Try.prog 34 #[.agg (fC ty fl st (.slice A n cap)), .agg (pB ty st)] w fun e w' => Ans w.heap.size (PP.zero, sB 1 st) e w' ∧ Below w.heap.size w w' := by
  have HR := Lib.hid hR
  have HL := Lib.hid hln
  have HY := Lib.hid hb
  clear hR hln hb
  have hp0 : 0 ≤ p := (HY.out p (by rw [hLb]; simp)).1
  have hp1 : p ≤ 255 := (HY.out p (by rw [hLb]; simp)).2
  have hby : Byt b := fun x hx => HY.out x (by rw [hLb]; simp [hx])
  have HBY := Lib.hid hby
  have hbl : b.length + 1 = n := by rw [← HL.out, hLb]; simp
  have HLb := Lib.hid hLb
  clear hLb hby
  have h5i : ¬ (b.length : Int) < 5 := by omega
  have h54 : 4 ≤ b.length := by omega
  go_enter Try.func34, Try.ntmps34
  go_upto_region 1 with fail
  refine wp_forget (fun W => Below w.heap.size w W ∧ Hid (Blk W w.heap.size 32 (fC ty fl st (.slice A n cap))) ∧ Hid (Blk W (w.heap.size + 1) 26 (pB ty st)) ∧ Hid (Blk W (w.heap.size + 2) 26 zP) ∧ Hid (Blk W (w.heap.size + 3) 28 zB))
    ⟨by go_grown, Lib.hid ((((Blk.new _ _ _).alloc _).alloc _).alloc _), Lib.hid (((Blk.new_at (by simp only [World.size_alloc])).alloc _).alloc _), Lib.hid ((Blk.new_at (by simp only [World.size_alloc])).alloc _), Lib.hid (Blk.new_at (by simp only [World.size_alloc]))⟩ ?_
  rintro W ⟨hB, HF, HP, HZ, HX⟩
  have hBs := hB.size
  have hl3 := HX.out.lt
  have hl2 : w.heap.size + 2 < W.heap.size := by omega
  have hl1 : w.heap.size + 1 < W.heap.size := by omega
  have hl0 : w.heap.size < W.heap.size := by omega
  have f0 : W.cell? ⟨w.heap.size, 0, none⟩ = some (.int .i64 ty) := HF.out.cell 0
  have f1 : W.cell? ⟨w.heap.size, 1, none⟩ = some (.int .i64 fl) := HF.out.cell 1
  have f2 : W.cell? ⟨w.heap.size, 2, none⟩ = some (.int .i64 st) := HF.out.cell 2
  have f3 : W.cell? ⟨w.heap.size, 3, none⟩ = some (.slice A n cap) := HF.out.cell 3
  have HRW := Lib.hid (HR.out.below hB (Nat.le_refl _))
  generalize hg : w.heap.size = g at *
  have HG := Lib.hid hg
  clear hg
  have c2 : W.cell? ⟨g + 1, 2, none⟩ = some (.bool false) := HP.out.cell 2
  have z2 : W.frozen? ⟨g + 1, 2, none⟩ = false := HP.out.frozen 2
  have c3 : W.cell? ⟨g + 1, 3, none⟩ = some (.bool false) := HP.out.cell 3
  have z3 : W.frozen? ⟨g + 1, 3, none⟩ = false := HP.out.frozen 3
  go_upto_region 7 with fail
  have HP0 := Lib.hid ((HP.out.put 2 (.bool ek)).put 3 (.bool fk))
  have HZ0 := Lib.hid ((HZ.out.far (p := ⟨g + 1, 2, none⟩) (by simp) (.bool ek)).far (p := ⟨g + 1, 3, none⟩) (by simp) (.bool fk))
  have HX0 := Lib.hid ((HX.out.far (p := ⟨g + 1, 2, none⟩) (by simp) (.bool ek)).far (p := ⟨g + 1, 3, none⟩) (by simp) (.bool fk))
  have HF0 := Lib.hid ((HF.out.far (p := ⟨g + 1, 2, none⟩) (by simp) (.bool ek)).far (p := ⟨g + 1, 3, none⟩) (by simp) (.bool fk))
  have hB0 : Below g w ((W.setCell ⟨g + 1, 2, none⟩ (.bool ek)).setCell ⟨g + 1, 3, none⟩ (.bool fk)) := ((hB.setCell (by simp) (.bool ek)).setCell (by simp) (.bool fk))
  have hse : W.heap.size ≤ ((W.setCell ⟨g + 1, 2, none⟩ (.bool ek)).setCell ⟨g + 1, 3, none⟩ (.bool fk)).heap.size := by simp only [World.size_setCell]; exact Nat.le_refl _
  refine wp_forget (fun V => Below g w V ∧ W.heap.size ≤ V.heap.size ∧ Hid (Blk V g 32 (fC ty fl st (.slice A n cap))) ∧ Hid (Blk V (g + 1) 26 #[.int .i64 ty, .int .i64 st, .bool ek, .bool fk, .bool false, .slice none 0 0, .int .i64 0, .int .i64 0, .int .i64 0, .int .i64 0, .slice none 0 0]) ∧ Hid (Blk V (g + 2) 26 zP) ∧ Hid (Blk V (g + 3) 28 zB)) ⟨hB0, hse, HF0, HP0, HZ0, HX0⟩ ?_
  clear HP0 HZ0 HX0 HF0 hB0 hse HRW HF HP HZ HX f0 f1 f2 f3 c2 z2 c3 z3
  rintro V ⟨hBV, hsV, HFV, HPV, HZV, HXV⟩
  have hBs' := hBV.size
  have v0 : V.cell? ⟨g, 0, none⟩ = some (.int .i64 ty) := HFV.out.cell 0
  have v1 : V.cell? ⟨g, 1, none⟩ = some (.int .i64 fl) := HFV.out.cell 1
  have v2 : V.cell? ⟨g, 2, none⟩ = some (.int .i64 st) := HFV.out.cell 2
  have hlV : g + 3 < V.heap.size := by omega
  have HRV : Hid (BS V (.slice A n cap) L) := Lib.hid (HR.out.below (by rw [HG.out]; exact hBV) (Nat.le_refl _))
  have h8 : (bits .and .i64 fl 8 != 0) = true := h8f
  obtain ⟨_, _, he8, hk8, hm8, hc8⟩ := id HRV.out
  rw [HL.out] at he8 hk8 hc8
  cases he8
  obtain ⟨b0, off, rfl, gb, q⟩ := hc8 (by omega)
  have q0 : V.cell? ⟨b0, off, none⟩ = some (.int .u8 p) := by have h := q 0 0 (by omega) (by omega); rw [HLb.out] at h; simpa using h
  obtain ⟨A1, n1, c1, hrun1, hs1⟩ := run_fromI HRV.out 1 (by omega) (by have := HL.out; omega)
  have hs1' : BS V (.slice A1 n1 c1) b := by have h := hs1; rw [HLb.out] at h; exact h
  clear hs1 hc8 q
  obtain ⟨_, _, he1, hk1, hm1, _⟩ := id hs1'
  cases he1
  have HVB := Lib.hid hs1'
  clear hs1'
  have hn1 : (0 : Int) < (n : Int) := by omega
  have hn2 : ¬ (n : Int) = 0 := by omega
  have hn3 : ((n : Int) == 0) = false := by simp; omega
  go_upto_region 15 with fail
  go_region_held3 (fun wx => wx.cell? ⟨g, 2, none⟩ = some (.int .i64 st)) (first | assumption | go_simp) ((go_at_call 35; refine (four_any _ b _ (HVB.out.below (by go_grown) (Nat.le_refl _)) HBY.out h54).mono ?_; rintro e w1 ⟨rfl, hD1⟩; have hB1 : Below V.heap.size V w1 := Below.trans (by go_grown) hD1; have v12 : w1.cell? ⟨g, 2, none⟩ = some (.int .i64 st) := (hB1.cell (p := ⟨g, 2, none⟩) (show g < V.heap.size by omega)).trans v2))
  have hS1 := hB1.size
  have HPW := Lib.hid (HPV.out.below hB1 (by omega))
  have HZW := Lib.hid (HZV.out.below hB1 (by omega))
  have HXW := Lib.hid (HXV.out.below hB1 (by omega))
  have hBW : Below g w w1 := hBV.trans (hB1.mono (by omega))
  have hBWs := hBW.size
  go_wp2_with (first
    | (go_at_call 33; refine (rbads_any 1 st _).mono ?_; rintro e w9 ⟨rfl, hB9⟩; have hS9 := hB9.size; have HZ9 := Lib.hid (HZW.out.below hB9 (by omega)); have HX9 := Lib.hid (HXW.out.below hB9 (by omega)))
    | (refine wpList_store_row rfl 26 (.tmp 4) (.tmp 65) rfl (g + 2) rfl zP rfl 26 _ HZ9.out rfl (by kernel_rfl) (by simp [Value.oneCell']) ?_; intro x1 hx1 gx1 sx1; have HXx := Lib.hid (HX9.out.grown gx1 (by simp)))
    | (refine wpList_store_row rfl 28 (.tmp 5) (.tmp 66) rfl (g + 3) rfl #[.int .i64 1, .int .i64 1, .int .i64 st] rfl 28 _ HXx.out rfl (by kernel_rfl) (by simp [Value.oneCell']) ?_; intro x2 hx2 gx2 sx2))
  have hgo := HG.out
  subst hgo
  refine bodyPost_ret (results_cc rfl _ (w.heap.size + 2) (w.heap.size + 3) 26 28 _ _ _ _ rfl (hx1.grown gx2 (by simp)) Try.underlying26 rfl (by kernel_rfl) rfl hx2 Try.underlying28 rfl (by kernel_rfl)) rfl ⟨⟨_, rfl, isP_zero _ _⟩, (((hBW.trans (hB9.mono (by omega))).grown gx1 (by omega) (fun q hq => by cases hq; omega)).grown gx2 (by omega) (fun q hq => by cases hq; omega))⟩
set_option maxHeartbeats 4000000 in
set_option maxRecDepth 100000 in
theorem rl_over_111 (ty fl st : Int) (A : Option Addr) (n cap : Nat) (L : List Int) (w : World) (hR : BS w (.slice A n cap) L) (hln : L.length = n) (hb : Byt L) (hn : n ≤ 1099511627776) (e0 : (ty == 0) = false) (e1 : (ty == 1) = true) (ek fk : Bool) (he : (bits .and .i64 fl 1 != 0) = ek) (hf4 : (bits .and .i64 fl 4 != 0) = fk) (p : Int) (b : List Int) (hLb : L = p :: b) (h8f : (bits .and .i64 fl 8 != 0) = true) (hf : (bits .and .i64 fl 32 != 0) = true) (h5 : 5 ≤ b.length) (hne : (num b 0 % 2147483648 == st) = false) (b5 : List Int) (hb5 : b.drop 5 = b5) (hov : (b5.length : Int) < p)  :
    Calls Try.prog 34 #[.agg (fC ty fl st (.slice A n cap)), .agg (pB ty st)] w fun e w' => Ans w.heap.size (PP.zero, cB 1) e w' ∧ Below w.heap.size w w' := by
  have HR := Lib.hid hR
  have HL := Lib.hid hln
  have HY := Lib.hid hb
  clear hR hln hb
  have hp0 : 0 ≤ p := (HY.out p (by rw [hLb]; simp)).1
  have hp1 : p ≤ 255 := (HY.out p (by rw [hLb]; simp)).2
  have hby : Byt b := fun x hx => HY.out x (by rw [hLb]; simp [hx])
  have HBY := Lib.hid hby
  have hbl : b.length + 1 = n := by rw [← HL.out, hLb]; simp
  have HLb := Lib.hid hLb
  clear hLb hby
  have h5i : ¬ (b.length : Int) < 5 := by omega
  have h54 : 4 ≤ b.length := by omega
  have h5l : b5.length ≤ b.length := by rw [← hb5]; simp
  have h5n : b5.length ≤ 1099511627776 := by have := HL.out; omega
  have H5 := Lib.hid hb5
  clear hb5
  go_enter Try.func34, Try.ntmps34
  go_upto_region 1 with fail
  refine wp_forget (fun W => Below w.heap.size w W ∧ Hid (Blk W w.heap.size 32 (fC ty fl st (.slice A n cap))) ∧ Hid (Blk W (w.heap.size + 1) 26 (pB ty st)) ∧ Hid (Blk W (w.heap.size + 2) 26 zP) ∧ Hid (Blk W (w.heap.size + 3) 28 zB))
    ⟨by go_grown, Lib.hid ((((Blk.new _ _ _).alloc _).alloc _).alloc _), Lib.hid (((Blk.new_at (by simp only [World.size_alloc])).alloc _).alloc _), Lib.hid ((Blk.new_at (by simp only [World.size_alloc])).alloc _), Lib.hid (Blk.new_at (by simp only [World.size_alloc]))⟩ ?_
  rintro W ⟨hB, HF, HP, HZ, HX⟩
  have hBs := hB.size
  have hl3 := HX.out.lt
  have hl2 : w.heap.size + 2 < W.heap.size := by omega
  have hl1 : w.heap.size + 1 < W.heap.size := by omega
  have hl0 : w.heap.size < W.heap.size := by omega
  have f0 : W.cell? ⟨w.heap.size, 0, none⟩ = some (.int .i64 ty) := HF.out.cell 0
  have f1 : W.cell? ⟨w.heap.size, 1, none⟩ = some (.int .i64 fl) := HF.out.cell 1
  have f2 : W.cell? ⟨w.heap.size, 2, none⟩ = some (.int .i64 st) := HF.out.cell 2
  have f3 : W.cell? ⟨w.heap.size, 3, none⟩ = some (.slice A n cap) := HF.out.cell 3
  have HRW := Lib.hid (HR.out.below hB (Nat.le_refl _))
  generalize hg : w.heap.size = g at *
  have HG := Lib.hid hg
  clear hg
  have c2 : W.cell? ⟨g + 1, 2, none⟩ = some (.bool false) := HP.out.cell 2
  have z2 : W.frozen? ⟨g + 1, 2, none⟩ = false := HP.out.frozen 2
  have c3 : W.cell? ⟨g + 1, 3, none⟩ = some (.bool false) := HP.out.cell 3
  have z3 : W.frozen? ⟨g + 1, 3, none⟩ = false := HP.out.frozen 3
  go_upto_region 7 with fail
  have HP0 := Lib.hid ((HP.out.put 2 (.bool ek)).put 3 (.bool fk))
  have HZ0 := Lib.hid ((HZ.out.far (p := ⟨g + 1, 2, none⟩) (by simp) (.bool ek)).far (p := ⟨g + 1, 3, none⟩) (by simp) (.bool fk))
  have HX0 := Lib.hid ((HX.out.far (p := ⟨g + 1, 2, none⟩) (by simp) (.bool ek)).far (p := ⟨g + 1, 3, none⟩) (by simp) (.bool fk))
  have HF0 := Lib.hid ((HF.out.far (p := ⟨g + 1, 2, none⟩) (by simp) (.bool ek)).far (p := ⟨g + 1, 3, none⟩) (by simp) (.bool fk))
  have hB0 : Below g w ((W.setCell ⟨g + 1, 2, none⟩ (.bool ek)).setCell ⟨g + 1, 3, none⟩ (.bool fk)) := ((hB.setCell (by simp) (.bool ek)).setCell (by simp) (.bool fk))
  have hse : W.heap.size ≤ ((W.setCell ⟨g + 1, 2, none⟩ (.bool ek)).setCell ⟨g + 1, 3, none⟩ (.bool fk)).heap.size := by simp only [World.size_setCell]; exact Nat.le_refl _
  refine wp_forget (fun V => Below g w V ∧ W.heap.size ≤ V.heap.size ∧ Hid (Blk V g 32 (fC ty fl st (.slice A n cap))) ∧ Hid (Blk V (g + 1) 26 #[.int .i64 ty, .int .i64 st, .bool ek, .bool fk, .bool false, .slice none 0 0, .int .i64 0, .int .i64 0, .int .i64 0, .int .i64 0, .slice none 0 0]) ∧ Hid (Blk V (g + 2) 26 zP) ∧ Hid (Blk V (g + 3) 28 zB)) ⟨hB0, hse, HF0, HP0, HZ0, HX0⟩ ?_
  clear HP0 HZ0 HX0 HF0 hB0 hse HRW HF HP HZ HX f0 f1 f2 f3 c2 z2 c3 z3
  rintro V ⟨hBV, hsV, HFV, HPV, HZV, HXV⟩
  have hBs' := hBV.size
  have v0 : V.cell? ⟨g, 0, none⟩ = some (.int .i64 ty) := HFV.out.cell 0
  have v1 : V.cell? ⟨g, 1, none⟩ = some (.int .i64 fl) := HFV.out.cell 1
  have v2 : V.cell? ⟨g, 2, none⟩ = some (.int .i64 st) := HFV.out.cell 2
  have hlV : g + 3 < V.heap.size := by omega
  have HRV : Hid (BS V (.slice A n cap) L) := Lib.hid (HR.out.below (by rw [HG.out]; exact hBV) (Nat.le_refl _))
  have h8 : (bits .and .i64 fl 8 != 0) = true := h8f
  obtain ⟨_, _, he8, hk8, hm8, hc8⟩ := id HRV.out
  rw [HL.out] at he8 hk8 hc8
  cases he8
  obtain ⟨b0, off, rfl, gb, q⟩ := hc8 (by omega)
  have q0 : V.cell? ⟨b0, off, none⟩ = some (.int .u8 p) := by have h := q 0 0 (by omega) (by omega); rw [HLb.out] at h; simpa using h
  obtain ⟨A1, n1, c1, hrun1, hs1⟩ := run_fromI HRV.out 1 (by omega) (by have := HL.out; omega)
  have hs1' : BS V (.slice A1 n1 c1) b := by have h := hs1; rw [HLb.out] at h; exact h
  clear hs1 hc8 q
  obtain ⟨_, _, he1, hk1, hm1, _⟩ := id hs1'
  cases he1
  have HVB := Lib.hid hs1'
  clear hs1'
  have hn1 : (0 : Int) < (n : Int) := by omega
  have hn2 : ¬ (n : Int) = 0 := by omega
  have hn3 : ((n : Int) == 0) = false := by simp; omega
  go_upto_region 15 with fail
  go_region_held3 (fun wx => wx.cell? ⟨g, 2, none⟩ = some (.int .i64 st)) (first | assumption | go_simp) ((go_at_call 35; refine (four_any _ b _ (HVB.out.below (by go_grown) (Nat.le_refl _)) HBY.out h54).mono ?_; rintro e w1 ⟨rfl, hD1⟩; have hB1 : Below V.heap.size V w1 := Below.trans (by go_grown) hD1; have v12 : w1.cell? ⟨g, 2, none⟩ = some (.int .i64 st) := (hB1.cell (p := ⟨g, 2, none⟩) (show g < V.heap.size by omega)).trans v2))
  have hS1 := hB1.size
  have HPW := Lib.hid (HPV.out.below hB1 (by omega))
  have HZW := Lib.hid (HZV.out.below hB1 (by omega))
  have HXW := Lib.hid (HXV.out.below hB1 (by omega))
  have hBW : Below g w w1 := hBV.trans (hB1.mono (by omega))
  have hBWs := hBW.size
  obtain ⟨A5, n5, c5', hrun5, hs5⟩ := run_fromI HVB.out 5 (by omega) (by omega)
  have hs5' : BS V (.slice A5 n5 c5') b5 := by have h := hs5; rwa [show (5 : Int).toNat = 5 from rfl, H5.out] at h
  clear hs5
  obtain ⟨_, _, he5, hk5, hm5, _⟩ := id hs5'
  cases he5
  have HVC := Lib.hid (hs5'.below hB1 (Nat.le_refl _))
  clear hs5'
  go_wp2_with (first
    | (go_at_call 33; refine (rbadc_any 1 _).mono ?_; rintro e w9 ⟨rfl, hB9⟩; have hS9 := hB9.size; have HZ9 := Lib.hid (HZW.out.below hB9 (by omega)); have HX9 := Lib.hid (HXW.out.below hB9 (by omega)))
    | (refine wpList_store_row rfl 26 (.tmp 4) (.tmp 74) rfl (g + 2) rfl zP rfl 26 _ HZ9.out rfl (by kernel_rfl) (by simp [Value.oneCell']) ?_; intro x1 hx1 gx1 sx1; have HXx := Lib.hid (HX9.out.grown gx1 (by simp)))
    | (refine wpList_store_row rfl 28 (.tmp 5) (.tmp 75) rfl (g + 3) rfl #[.int .i64 2, .int .i64 (1), .int .i64 0] rfl 28 _ HXx.out rfl (by kernel_rfl) (by simp [Value.oneCell']) ?_; intro x2 hx2 gx2 sx2))
  have hgo := HG.out
  subst hgo
  refine bodyPost_ret (results_cc rfl _ (w.heap.size + 2) (w.heap.size + 3) 26 28 _ _ _ _ rfl (hx1.grown gx2 (by simp)) Try.underlying26 rfl (by kernel_rfl) rfl hx2 Try.underlying28 rfl (by kernel_rfl)) rfl ⟨⟨_, rfl, isP_zero _ _⟩, (((hBW.trans (hB9.mono (by omega))).grown gx1 (by omega) (fun q hq => by cases hq; omega)).grown gx2 (by omega) (fun q hq => by cases hq; omega))⟩
set_option maxHeartbeats 4000000 in
set_option maxRecDepth 100000 in
theorem rl_ok_111 (ty fl st : Int) (A : Option Addr) (n cap : Nat) (L : List Int) (w : World) (hR : BS w (.slice A n cap) L) (hln : L.length = n) (hb : Byt L) (hn : n ≤ 1099511627776) (e0 : (ty == 0) = false) (e1 : (ty == 1) = true) (ek fk : Bool) (he : (bits .and .i64 fl 1 != 0) = ek) (hf4 : (bits .and .i64 fl 4 != 0) = fk) (p : Int) (b : List Int) (hLb : L = p :: b) (h8f : (bits .and .i64 fl 8 != 0) = true) (hf : (bits .and .i64 fl 32 != 0) = true) (h5 : 5 ≤ b.length) (hne : (num b 0 % 2147483648 == st) = false) (b5 : List Int) (hb5 : b.drop 5 = b5) (b' : List Int) (hb' : b5.take ((b5.length : Int) - p).toNat = b') (hov : ¬ (b5.length : Int) < p)  :
    Calls Try.prog 34 #[.agg (fC ty fl st (.slice A n cap)), .agg (pB ty st)] w fun e w' => Ans w.heap.size ({ PP.base ty st with e := ek, f := fk, body := b' }, okB) e w' ∧ Below w.heap.size w w' := by
  have HR := Lib.hid hR
  have HL := Lib.hid hln
  have HY := Lib.hid hb
  clear hR hln hb
  have hp0 : 0 ≤ p := (HY.out p (by rw [hLb]; simp)).1
  have hp1 : p ≤ 255 := (HY.out p (by rw [hLb]; simp)).2
  have hby : Byt b := fun x hx => HY.out x (by rw [hLb]; simp [hx])
  have HBY := Lib.hid hby
  have hbl : b.length + 1 = n := by rw [← HL.out, hLb]; simp
  have HLb := Lib.hid hLb
  clear hLb hby
  have h5i : ¬ (b.length : Int) < 5 := by omega
  have h54 : 4 ≤ b.length := by omega
  have h5l : b5.length ≤ b.length := by rw [← hb5]; simp
  have h5n : b5.length ≤ 1099511627776 := by have := HL.out; omega
  have H5 := Lib.hid hb5
  clear hb5
  have hlt2 : b'.length ≤ 1099511627776 := by rw [← hb']; simp; omega
  have HB' := Lib.hid hb'
  clear hb'
  go_enter Try.func34, Try.ntmps34
  go_upto_region 1 with fail
  refine wp_forget (fun W => Below w.heap.size w W ∧ Hid (Blk W w.heap.size 32 (fC ty fl st (.slice A n cap))) ∧ Hid (Blk W (w.heap.size + 1) 26 (pB ty st)) ∧ Hid (Blk W (w.heap.size + 2) 26 zP) ∧ Hid (Blk W (w.heap.size + 3) 28 zB))
    ⟨by go_grown, Lib.hid ((((Blk.new _ _ _).alloc _).alloc _).alloc _), Lib.hid (((Blk.new_at (by simp only [World.size_alloc])).alloc _).alloc _), Lib.hid ((Blk.new_at (by simp only [World.size_alloc])).alloc _), Lib.hid (Blk.new_at (by simp only [World.size_alloc]))⟩ ?_
  rintro W ⟨hB, HF, HP, HZ, HX⟩
  have hBs := hB.size
  have hl3 := HX.out.lt
  have hl2 : w.heap.size + 2 < W.heap.size := by omega
  have hl1 : w.heap.size + 1 < W.heap.size := by omega
  have hl0 : w.heap.size < W.heap.size := by omega
  have f0 : W.cell? ⟨w.heap.size, 0, none⟩ = some (.int .i64 ty) := HF.out.cell 0
  have f1 : W.cell? ⟨w.heap.size, 1, none⟩ = some (.int .i64 fl) := HF.out.cell 1
  have f2 : W.cell? ⟨w.heap.size, 2, none⟩ = some (.int .i64 st) := HF.out.cell 2
  have f3 : W.cell? ⟨w.heap.size, 3, none⟩ = some (.slice A n cap) := HF.out.cell 3
  have HRW := Lib.hid (HR.out.below hB (Nat.le_refl _))
  generalize hg : w.heap.size = g at *
  have HG := Lib.hid hg
  clear hg
  have c2 : W.cell? ⟨g + 1, 2, none⟩ = some (.bool false) := HP.out.cell 2
  have z2 : W.frozen? ⟨g + 1, 2, none⟩ = false := HP.out.frozen 2
  have c3 : W.cell? ⟨g + 1, 3, none⟩ = some (.bool false) := HP.out.cell 3
  have z3 : W.frozen? ⟨g + 1, 3, none⟩ = false := HP.out.frozen 3
  go_upto_region 7 with fail
  have HP0 := Lib.hid ((HP.out.put 2 (.bool ek)).put 3 (.bool fk))
  have HZ0 := Lib.hid ((HZ.out.far (p := ⟨g + 1, 2, none⟩) (by simp) (.bool ek)).far (p := ⟨g + 1, 3, none⟩) (by simp) (.bool fk))
  have HX0 := Lib.hid ((HX.out.far (p := ⟨g + 1, 2, none⟩) (by simp) (.bool ek)).far (p := ⟨g + 1, 3, none⟩) (by simp) (.bool fk))
  have HF0 := Lib.hid ((HF.out.far (p := ⟨g + 1, 2, none⟩) (by simp) (.bool ek)).far (p := ⟨g + 1, 3, none⟩) (by simp) (.bool fk))
  have hB0 : Below g w ((W.setCell ⟨g + 1, 2, none⟩ (.bool ek)).setCell ⟨g + 1, 3, none⟩ (.bool fk)) := ((hB.setCell (by simp) (.bool ek)).setCell (by simp) (.bool fk))
  have hse : W.heap.size ≤ ((W.setCell ⟨g + 1, 2, none⟩ (.bool ek)).setCell ⟨g + 1, 3, none⟩ (.bool fk)).heap.size := by simp only [World.size_setCell]; exact Nat.le_refl _
  refine wp_forget (fun V => Below g w V ∧ W.heap.size ≤ V.heap.size ∧ Hid (Blk V g 32 (fC ty fl st (.slice A n cap))) ∧ Hid (Blk V (g + 1) 26 #[.int .i64 ty, .int .i64 st, .bool ek, .bool fk, .bool false, .slice none 0 0, .int .i64 0, .int .i64 0, .int .i64 0, .int .i64 0, .slice none 0 0]) ∧ Hid (Blk V (g + 2) 26 zP) ∧ Hid (Blk V (g + 3) 28 zB)) ⟨hB0, hse, HF0, HP0, HZ0, HX0⟩ ?_
  clear HP0 HZ0 HX0 HF0 hB0 hse HRW HF HP HZ HX f0 f1 f2 f3 c2 z2 c3 z3
  rintro V ⟨hBV, hsV, HFV, HPV, HZV, HXV⟩
  have hBs' := hBV.size
  have v0 : V.cell? ⟨g, 0, none⟩ = some (.int .i64 ty) := HFV.out.cell 0
  have v1 : V.cell? ⟨g, 1, none⟩ = some (.int .i64 fl) := HFV.out.cell 1
  have v2 : V.cell? ⟨g, 2, none⟩ = some (.int .i64 st) := HFV.out.cell 2
  have hlV : g + 3 < V.heap.size := by omega
  have HRV : Hid (BS V (.slice A n cap) L) := Lib.hid (HR.out.below (by rw [HG.out]; exact hBV) (Nat.le_refl _))
  have h8 : (bits .and .i64 fl 8 != 0) = true := h8f
  obtain ⟨_, _, he8, hk8, hm8, hc8⟩ := id HRV.out
  rw [HL.out] at he8 hk8 hc8
  cases he8
  obtain ⟨b0, off, rfl, gb, q⟩ := hc8 (by omega)
  have q0 : V.cell? ⟨b0, off, none⟩ = some (.int .u8 p) := by have h := q 0 0 (by omega) (by omega); rw [HLb.out] at h; simpa using h
  obtain ⟨A1, n1, c1, hrun1, hs1⟩ := run_fromI HRV.out 1 (by omega) (by have := HL.out; omega)
  have hs1' : BS V (.slice A1 n1 c1) b := by have h := hs1; rw [HLb.out] at h; exact h
  clear hs1 hc8 q
  obtain ⟨_, _, he1, hk1, hm1, _⟩ := id hs1'
  cases he1
  have HVB := Lib.hid hs1'
  clear hs1'
  have hn1 : (0 : Int) < (n : Int) := by omega
  have hn2 : ¬ (n : Int) = 0 := by omega
  have hn3 : ((n : Int) == 0) = false := by simp; omega
  go_upto_region 15 with fail
  go_region_held3 (fun wx => wx.cell? ⟨g, 2, none⟩ = some (.int .i64 st)) (first | assumption | go_simp) ((go_at_call 35; refine (four_any _ b _ (HVB.out.below (by go_grown) (Nat.le_refl _)) HBY.out h54).mono ?_; rintro e w1 ⟨rfl, hD1⟩; have hB1 : Below V.heap.size V w1 := Below.trans (by go_grown) hD1; have v12 : w1.cell? ⟨g, 2, none⟩ = some (.int .i64 st) := (hB1.cell (p := ⟨g, 2, none⟩) (show g < V.heap.size by omega)).trans v2))
  have hS1 := hB1.size
  have HPW := Lib.hid (HPV.out.below hB1 (by omega))
  have HZW := Lib.hid (HZV.out.below hB1 (by omega))
  have HXW := Lib.hid (HXV.out.below hB1 (by omega))
  have hBW : Below g w w1 := hBV.trans (hB1.mono (by omega))
  have hBWs := hBW.size
  obtain ⟨A5, n5, c5', hrun5, hs5⟩ := run_fromI HVB.out 5 (by omega) (by omega)
  have hs5' : BS V (.slice A5 n5 c5') b5 := by have h := hs5; rwa [show (5 : Int).toNat = 5 from rfl, H5.out] at h
  clear hs5
  obtain ⟨_, _, he5, hk5, hm5, _⟩ := id hs5'
  cases he5
  have HVC := Lib.hid (hs5'.below hB1 (Nat.le_refl _))
  clear hs5'
  have hpn : 0 ≤ (b5.length : Int) - p := by omega
  obtain ⟨A3, n3, c3, hrun3, hs3⟩ := run_to HVC.out ((b5.length : Int) - p) (by omega) (by omega)
  have hs3' : BS w1 (.slice A3 n3 c3) b' := by have h := hs3; rwa [HB'.out] at h
  clear hs3
  have hn3e : b'.length = n3 := by obtain ⟨_, _, he, _⟩ := id hs3'; cases he; rfl
  have HN3 := Lib.hid hn3e
  have hn3l : n3 ≤ 1099511627776 := by omega
  have HSR := Lib.hid (bs_src (hs3'.below (below_self w1 (.cells #[] 5)) (Nat.le_refl _)))
  clear hs3' hn3e
  obtain ⟨i0, hi, hz0, hz1, hz2⟩ := info_parts info5
  go_upto_region 21 with (first
    | (at_builtin
       refine wpList_append_src rfl (.tmp 76) (.tmp 82) 22 rfl w1.heap.size 5 i0 _ 1 1 Try.underlying22 hi hz0 hz1 hz2 rfl (by decide) (.slice (some ⟨w1.heap.size, 0, none⟩) 0 0) 0 [] rfl (World.ownsRow_lit (base := w1.heap.size) w1 #[] 0 (Nat.le_refl _) (by decide) rfl) A3 n3 c3 (bv b') rfl HSR.out.2.1 (by rw [bv_len, HN3.out, Nat.mul_one]) HSR.out.2.2 (bv_one _) ?a4 ?a5 ?a6 ?_
       (case a4 => unfold maxLen; omega)
       (case a5 => omega)
       (case a6 => simp only [World.size_alloc]; omega)
       intro va wa hown1 hg1
       have hown2 : wa.ownsRow w1.heap.size 5 1 va b'.length (bv b') := by
         have h := hown1
         rw [Nat.zero_add, List.nil_append] at h
         rw [HN3.out]
         exact h
       have hBa : Below w1.heap.size w1 wa := (below_self w1 _).grown hg1 (by simp only [World.size_alloc]; omega) (by intro q hq; simp [Value.ownBlock] at hq; omega)
       obtain ⟨Av, cv, rfl⟩ := own_form hown2
       have HO := Lib.hid hown2
       have hsa := hBa.size
       have HPa := Lib.hid (HPW.out.below hBa (by omega))
       have HZa := Lib.hid (HZW.out.below hBa (by omega))
       have HXa := Lib.hid (HXW.out.below hBa (by omega))
       have ca : wa.cell? ⟨g + 1, 5, none⟩ = some (.slice none 0 0) := HPa.out.cell 5
       have za : wa.frozen? ⟨g + 1, 5, none⟩ = false := HPa.out.frozen 5
       have hBga : Below g w wa := hBW.trans (hBa.mono (by omega))
       clear hown1 hown2 hg1))
  have HP9 := Lib.hid (HPa.out.put 5 (.slice Av b'.length cv))
  have HZ9 := Lib.hid (HZa.out.far (p := ⟨g + 1, 5, none⟩) (by simp) (.slice Av b'.length cv))
  have HX9 := Lib.hid (HXa.out.far (p := ⟨g + 1, 5, none⟩) (by simp) (.slice Av b'.length cv))
  have HO9 := Lib.hid (ownsRow_setCell_below HO.out (a := ⟨g + 1, 5, none⟩) (show g + 1 < w1.heap.size by omega) (.slice Av b'.length cv))
  have hB9 : Below g w (wa.setCell ⟨g + 1, 5, none⟩ (.slice Av b'.length cv)) := hBga.setCell (by simp) _
  have hs9 : wa.heap.size ≤ (wa.setCell ⟨g + 1, 5, none⟩ (.slice Av b'.length cv)).heap.size := by simp only [World.size_setCell]; exact Nat.le_refl _
  refine wp_forget (fun X => Below g w X ∧ wa.heap.size ≤ X.heap.size ∧ Hid (X.ownsRow w1.heap.size 5 1 (.slice Av b'.length cv) b'.length (bv b')) ∧ Hid (Blk X (g + 1) 26 #[.int .i64 ty, .int .i64 st, .bool ek, .bool fk, .bool false, .slice Av b'.length cv, .int .i64 0, .int .i64 0, .int .i64 0, .int .i64 0, .slice none 0 0]) ∧ Hid (Blk X (g + 2) 26 zP) ∧ Hid (Blk X (g + 3) 28 zB)) ⟨hB9, hs9, HO9, HP9, HZ9, HX9⟩ ?_
  clear HP9 HZ9 HX9 HO9 hB9 hs9
  rintro X ⟨hBe, hsX, HOe, HPe, HZe, HXe⟩
  go_wp2_with (first
    | (refine wpList_load_row rfl 26 (.tmp 3) rfl (g + 1) rfl 26 _ _ _ HPe.out Try.underlying26 rfl (by kernel_rfl) ?_)
    | (refine wpList_store_row rfl 26 (.tmp 4) (.tmp 85) rfl (g + 2) rfl #[.int .i64 ty, .int .i64 st, .bool ek, .bool fk, .bool false, .slice Av b'.length cv, .int .i64 0, .int .i64 0, .int .i64 0, .int .i64 0, .slice none 0 0] rfl 26 _ HZe.out rfl (by kernel_rfl) (by simp [Value.oneCell']) ?_; intro x1 hx1 gx1 sx1; have HXx := Lib.hid (HXe.out.grown gx1 (by simp)))
    | (refine wpList_store_row rfl 28 (.tmp 5) (.tmp 86) rfl (g + 3) rfl zB rfl 28 _ HXx.out rfl (by kernel_rfl) (by simp [Value.oneCell']) ?_; intro x2 hx2 gx2 sx2))
  have hgo := HG.out
  subst hgo
  refine bodyPost_ret (results_cc rfl _ (w.heap.size + 2) (w.heap.size + 3) 26 28 _ _ _ _ rfl (hx1.grown gx2 (by simp)) Try.underlying26 rfl (by kernel_rfl) rfl hx2 Try.underlying28 rfl (by kernel_rfl)) rfl ⟨⟨_, rfl, ⟨.slice Av b'.length cv, .slice none 0 0, rfl, (own_grown (own_grown HOe.out gx1 (by omega)) gx2 (by omega)).mono (by omega), World.ownsRow_nil _ _ _ _⟩⟩, ((hBe.grown gx1 (by omega) (fun q hq => by cases hq; omega)).grown gx2 (by omega) (fun q hq => by cases hq; omega))⟩
theorem rlong_data (ty fl st : Int) (v : Value) (L : List Int) (w : World) (hR : BS w v L) (hb : Byt L) (hn : L.length ≤ 1099511627776) (hty : ty = 0) :
    Calls Try.prog 34 #[.agg (fC ty fl st v), .agg (pB ty st)] w fun e w' => Ans w.heap.size (dataF ty fl st L) e w' ∧ Below w.heap.size w w' := by
  obtain ⟨A, cap, rfl, _⟩ := id hR
  have e0 : (ty == 0) = true := by simpa using hty
  have e1 : (ty == 1) = false := by simp; omega
  unfold dataF padF
  cases h8 : flag fl 8 with
  | false =>
    rw [if_pos rfl]
    show Calls _ _ _ _ fun e w' => Ans w.heap.size (if (L.length : Int) < 0 then _ else _) e w' ∧ _
    rw [if_neg (by omega), show ((L.length : Int) - 0).toNat = L.length by omega, List.take_of_length_le (Nat.le_refl _)]
    exact rl_ok_000 ty fl st A _ cap L w hR rfl hb hn e0 e1 _ _ rfl rfl h8 _ rfl
  | true =>
    rw [if_neg (by simp)]
    match L, hR, hb, hn with
    | [], hR, hb, hn => exact rl_none0 ty fl st A _ cap [] w hR rfl hb hn e0 e1 _ _ rfl rfl h8 rfl
    | p :: b, hR, hb, hn =>
      show Calls _ _ _ _ fun e w' => Ans w.heap.size (if (b.length : Int) < p then _ else _) e w' ∧ _
      by_cases hov : (b.length : Int) < p
      · rw [if_pos hov]; exact rl_over_010 ty fl st A _ cap (p :: b) w hR rfl hb hn e0 e1 _ _ rfl rfl p b rfl h8 hov
      · rw [if_neg hov]; exact rl_ok_010 ty fl st A _ cap (p :: b) w hR rfl hb hn e0 e1 _ _ rfl rfl p b rfl h8 _ rfl hov
theorem rlong_head (ty fl st : Int) (v : Value) (L : List Int) (w : World) (hR : BS w v L) (hb : Byt L) (hn : L.length ≤ 1099511627776) (hty : ty = 1) :
    Calls Try.prog 34 #[.agg (fC ty fl st v), .agg (pB ty st)] w fun e w' => Ans w.heap.size (headersF ty fl st L) e w' ∧ Below w.heap.size w w' := by
  obtain ⟨A, cap, rfl, _⟩ := id hR
  have e0 : (ty == 0) = false := by simp; omega
  have e1 : (ty == 1) = true := by simpa using hty
  unfold headersF padF
  cases h8 : flag fl 8 with
  | false =>
    rw [if_pos rfl]
    show Calls _ _ _ _ fun e w' => Ans w.heap.size (if flag fl 32 = true then (if L.length < 5 then _ else if num L 0 % 2147483648 = st then _ else headF ty fl st 0 (L.drop 5)) else headF ty fl st 0 L) e w' ∧ _
    cases hf : flag fl 32 with
    | false =>
      rw [if_neg (by simp)]
      unfold headF
      rw [if_neg (by omega), show ((L.length : Int) - 0).toNat = L.length by omega, List.take_of_length_le (Nat.le_refl _)]
      exact rl_ok_100 ty fl st A _ cap L w hR rfl hb hn e0 e1 _ _ rfl rfl h8 hf _ rfl
    | true =>
      rw [if_pos rfl]
      by_cases h5 : L.length < 5
      · rw [if_pos h5]; exact rl_short_101 ty fl st A _ cap L w hR rfl hb hn e0 e1 _ _ rfl rfl h8 hf h5
      · rw [if_neg h5]
        by_cases hne : num L 0 % 2147483648 = st
        · rw [if_pos hne]; exact rl_eq_101 ty fl st A _ cap L w hR rfl hb hn e0 e1 _ _ rfl rfl h8 hf (by omega) (by simpa using hne)
        · rw [if_neg hne]
          unfold headF
          rw [if_neg (by omega), show (((L.drop 5).length : Int) - 0).toNat = (L.drop 5).length by omega, List.take_of_length_le (Nat.le_refl _)]
          exact rl_ok_101 ty fl st A _ cap L w hR rfl hb hn e0 e1 _ _ rfl rfl h8 hf (by omega) (by simpa using hne) _ rfl _ rfl
  | true =>
    rw [if_neg (by simp)]
    match L, hR, hb, hn with
    | [], hR, hb, hn => exact rl_none1 ty fl st A _ cap [] w hR rfl hb hn e0 e1 _ _ rfl rfl h8 rfl
    | p :: b, hR, hb, hn =>
      show Calls _ _ _ _ fun e w' => Ans w.heap.size (if flag fl 32 = true then (if b.length < 5 then _ else if num b 0 % 2147483648 = st then _ else headF ty fl st p (b.drop 5)) else headF ty fl st p b) e w' ∧ _
      cases hf : flag fl 32 with
      | false =>
        rw [if_neg (by simp)]
        unfold headF
        by_cases hov : (b.length : Int) < p
        · rw [if_pos hov]; exact rl_over_110 ty fl st A _ cap (p :: b) w hR rfl hb hn e0 e1 _ _ rfl rfl p b rfl h8 hf hov
        · rw [if_neg hov]; exact rl_ok_110 ty fl st A _ cap (p :: b) w hR rfl hb hn e0 e1 _ _ rfl rfl p b rfl h8 hf _ rfl hov
      | true =>
        rw [if_pos rfl]
        by_cases h5 : b.length < 5
        · rw [if_pos h5]; exact rl_short_111 ty fl st A _ cap (p :: b) w hR rfl hb hn e0 e1 _ _ rfl rfl p b rfl h8 hf h5
        · rw [if_neg h5]
          by_cases hne : num b 0 % 2147483648 = st
          · rw [if_pos hne]; exact rl_eq_111 ty fl st A _ cap (p :: b) w hR rfl hb hn e0 e1 _ _ rfl rfl p b rfl h8 hf (by omega) (by simpa using hne)
          · rw [if_neg hne]
            unfold headF
            by_cases hov : ((b.drop 5).length : Int) < p
            · rw [if_pos hov]; exact rl_over_111 ty fl st A _ cap (p :: b) w hR rfl hb hn e0 e1 _ _ rfl rfl p b rfl h8 hf (by omega) (by simpa using hne) _ rfl hov
            · rw [if_neg hov]; exact rl_ok_111 ty fl st A _ cap (p :: b) w hR rfl hb hn e0 e1 _ _ rfl rfl p b rfl h8 hf (by omega) (by simpa using hne) _ rfl _ rfl hov
end Go.Proofs.Ytolpfbdklcjlkaa
