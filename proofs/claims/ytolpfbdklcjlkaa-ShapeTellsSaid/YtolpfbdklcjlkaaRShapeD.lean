/- The document's answer to any frame: GOAWAY. -/
import Derived.Test.YtolpfbdklcjlkaaRShapeC
namespace Go.Proofs.Ytolpfbdklcjlkaa
open Go.ChangeShapes Go.WideShapes Go.ChangeAt Go.RowKit
set_option linter.unusedVariables false
set_option linter.unusedSimpArgs false
set_option maxHeartbeats 1000000 in
set_option maxRecDepth 100000 in
theorem four_q (v : Value) (L : List Int) (w : World) (hR : BS w v L) (hb : Byt L) (hn : 4 ≤ L.length) :
    Calls Try.prog 35 #[v] w fun e w' => e = .returned (.int .i64 (num L 0 % 2147483648)) ∧ ∃ nq, w' = w.drewN nq := by
  have p0 := hb.at 0
  have p1 := hb.at 1
  have p2 := hb.at 2
  have p3 := hb.at 3
  obtain ⟨A, cap, rfl, hk, hm, hc⟩ := hR
  obtain ⟨b, off, rfl, gb, q⟩ := hc (by omega)
  have e0 : w.cell? ⟨b, off, none⟩ = some (.int .u8 (L.getD 0 0)) := by simpa using q 0 0 (by omega) (by omega)
  have e1 : w.cell? ⟨b, off + 1, none⟩ = some (.int .u8 (L.getD 1 0)) := by simpa using q 1 0 (by omega) (by omega)
  have e2 : w.cell? ⟨b, off + 2, none⟩ = some (.int .u8 (L.getD 2 0)) := by simpa using q 2 0 (by omega) (by omega)
  have e3 : w.cell? ⟨b, off + 3, none⟩ = some (.int .u8 (L.getD 3 0)) := by simpa using q 3 0 (by omega) (by omega)
  have hN : num L 0 = L.getD 0 0 * 16777216 + L.getD 1 0 * 65536 + L.getD 2 0 * 256 + L.getD 3 0 := rfl
  have HN := Lib.hid hN
  clear hN hc q hb
  generalize L.getD 0 0 = a0 at *
  generalize L.getD 1 0 = a1 at *
  generalize L.getD 2 0 = a2 at *
  generalize L.getD 3 0 = a3 at *
  have n0 : (0 : Int) < (L.length : Int) := by omega
  have n1 : (1 : Int) < (L.length : Int) := by omega
  have n2 : (2 : Int) < (L.length : Int) := by omega
  have n3 : (3 : Int) < (L.length : Int) := by omega
  generalize L.length = n at *
  have h128 : bits .and .u8 a0 127 = a0 % 128 := u8_and_127 a0 p0.1 p0.2
  have m0 : 0 ≤ a0 % 128 := by omega
  have m1 : a0 % 128 ≤ 127 := by omega
  go_enter Try.func35, Try.ntmps35
  go_wp2_with fail
  go_quiet (fail)
  go_wp2_with fail
  go_ret
  exact ⟨ret_int (by rw [HN.out, num_or (a0 % 128) a1 a2 a3 ⟨m0, by omega⟩ p1 p2 p3]; omega), _, rfl⟩
set_option maxHeartbeats 1000000 in
set_option maxRecDepth 100000 in
theorem all_q (v : Value) (L : List Int) (w : World) (hR : BS w v L) (hb : Byt L) (hn : 4 ≤ L.length) :
    Calls Try.prog 36 #[v] w fun e w' => e = .returned (.int .i64 (num L 0)) ∧ ∃ nq, w' = w.drewN nq := by
  have p0 := hb.at 0
  have p1 := hb.at 1
  have p2 := hb.at 2
  have p3 := hb.at 3
  obtain ⟨A, cap, rfl, hk, hm, hc⟩ := hR
  obtain ⟨b, off, rfl, gb, q⟩ := hc (by omega)
  have e0 : w.cell? ⟨b, off, none⟩ = some (.int .u8 (L.getD 0 0)) := by simpa using q 0 0 (by omega) (by omega)
  have e1 : w.cell? ⟨b, off + 1, none⟩ = some (.int .u8 (L.getD 1 0)) := by simpa using q 1 0 (by omega) (by omega)
  have e2 : w.cell? ⟨b, off + 2, none⟩ = some (.int .u8 (L.getD 2 0)) := by simpa using q 2 0 (by omega) (by omega)
  have e3 : w.cell? ⟨b, off + 3, none⟩ = some (.int .u8 (L.getD 3 0)) := by simpa using q 3 0 (by omega) (by omega)
  have hN : num L 0 = L.getD 0 0 * 16777216 + L.getD 1 0 * 65536 + L.getD 2 0 * 256 + L.getD 3 0 := rfl
  have HN := Lib.hid hN
  clear hN hc q hb
  generalize L.getD 0 0 = a0 at *
  generalize L.getD 1 0 = a1 at *
  generalize L.getD 2 0 = a2 at *
  generalize L.getD 3 0 = a3 at *
  have n0 : (0 : Int) < (L.length : Int) := by omega
  have n1 : (1 : Int) < (L.length : Int) := by omega
  have n2 : (2 : Int) < (L.length : Int) := by omega
  have n3 : (3 : Int) < (L.length : Int) := by omega
  generalize L.length = n at *
  go_enter Try.func36, Try.ntmps36
  go_wp2_with fail
  go_quiet (fail)
  go_wp2_with fail
  go_ret
  exact ⟨ret_int (by rw [HN.out]; exact num_or a0 a1 a2 a3 p0 p1 p2 p3), _, rfl⟩
set_option maxHeartbeats 4000000 in
set_option maxRecDepth 100000 in
theorem rs_away (ty fl st : Int) (A : Option Addr) (n cap : Nat) (L : List Int) (w : World) (hR : BS w (.slice A n cap) L) (hln : L.length = n) (hb : Byt L) (hn : n ≤ 1099511627776) (hrg : rightB ty fl st n = true) (h9 : ¬ 9 < ty) (e0 : (ty == 0) = false) (e1 : (ty == 1) = false) (e2 : (ty == 2) = false) (e3 : (ty == 3) = false) (e4 : (ty == 4) = false) (e5 : (ty == 5) = false) (e6 : (ty == 6) = false) (e7 : (ty == 7) = true) (e8 : (ty == 8) = false) (e9 : (ty == 9) = false) (n8 : (ty != 8) = true) (s0 : (st == 0) = true) (m0 : (st != 0) = false) (hlen : ¬ n < 8) (b' : List Int) (hb' : L.drop 8 = b') (x y : Int) (hx : num L 0 % 2147483648 = x) (hy : num L 4 = y) :
    Calls Try.prog 15 #[.agg (fC ty fl st (.slice A n cap))] w fun e w' => Ans w.heap.size ({ PP.base ty st with la := x, co := y, body := b' }, okB) e w' ∧ Below w.heap.size w w' := by
  have HR := Lib.hid hR
  have HL := Lib.hid hln
  have HY := Lib.hid hb
  clear hR hln hb
  have HRG := Lib.hid hrg
  clear hrg
  have hlk : ¬ (n : Int) < 8 := by omega
  have hl8 : 8 ≤ L.length := by rw [HL.out]; omega
  have hl4 : 4 ≤ L.length := by omega
  have hlt2 : b'.length ≤ 1099511627776 := by rw [← hb']; simp; rw [HL.out]; omega
  have HB' := Lib.hid hb'
  have HM1 := Lib.hid hx
  have hy' : num (L.drop 4) 0 = y := (num_drop L 4 0).trans hy
  have HM2 := Lib.hid hy'
  clear hb' hx hy hy' hlen
  go_enter Try.func15, Try.ntmps15
  go_upto_region 2 with fail
  refine wp_forget (fun W => Below w.heap.size w W ∧ Hid (Blk W w.heap.size 32 (fC ty fl st (.slice A n cap))) ∧ Hid (Blk W (w.heap.size + 1) 26 zP) ∧ Hid (Blk W (w.heap.size + 2) 28 zB) ∧ Hid (Blk W (w.heap.size + 3) 26 (pB ty st)))
    ⟨by go_grown, Lib.hid ((((Blk.new _ _ _).alloc _).alloc _).alloc _), Lib.hid (((Blk.new_at (by simp only [World.size_alloc])).alloc _).alloc _), Lib.hid ((Blk.new_at (by simp only [World.size_alloc])).alloc _), Lib.hid (Blk.new_at (by simp only [World.size_alloc]))⟩ ?_
  rintro W ⟨hB, HF, HZ, HX, HP⟩
  have hBs := hB.size
  have hl3 := HP.out.lt
  have hl0 : w.heap.size < W.heap.size := by omega
  have f0 : W.cell? ⟨w.heap.size, 0, none⟩ = some (.int .i64 ty) := HF.out.cell 0
  have f1 : W.cell? ⟨w.heap.size, 1, none⟩ = some (.int .i64 fl) := HF.out.cell 1
  have f2 : W.cell? ⟨w.heap.size, 2, none⟩ = some (.int .i64 st) := HF.out.cell 2
  have f3 : W.cell? ⟨w.heap.size, 3, none⟩ = some (.slice A n cap) := HF.out.cell 3
  have HRW := Lib.hid (HR.out.below hB (Nat.le_refl _))
  generalize hg : w.heap.size = g at *
  have HG := Lib.hid hg
  clear hg
  go_upto_region 30 with (go_at_call 32; refine (rright_any ty fl st A n cap _).mono ?_; rintro e w1 ⟨rfl, hB1⟩; have hS1 := hB1.size; have HF1 := Lib.hid (HF.out.below hB1 (by omega)); have HP1 := Lib.hid (HP.out.below hB1 (by omega)); have HZ1 := Lib.hid (HZ.out.below hB1 (by omega)); have HX1 := Lib.hid (HX.out.below hB1 (by omega)); have f10 : w1.cell? ⟨g, 0, none⟩ = some (.int .i64 ty) := HF1.out.cell 0; have f11 : w1.cell? ⟨g, 1, none⟩ = some (.int .i64 fl) := HF1.out.cell 1; have f12 : w1.cell? ⟨g, 2, none⟩ = some (.int .i64 st) := HF1.out.cell 2; have f13 : w1.cell? ⟨g, 3, none⟩ = some (.slice A n cap) := HF1.out.cell 3; rw [HRG.out])
  have HRX := Lib.hid (HRW.out.below hB1 (Nat.le_refl _))
  obtain ⟨A4, n4, c4', hrun4, hs4⟩ := run_fromI HRX.out 4 (by omega) (by omega)
  obtain ⟨A8, n8, c8', hrun8, hs8⟩ := run_fromI HRX.out 8 (by omega) (by omega)
  have HS4 : Hid (BS w1 (.slice A4 n4 c4') (L.drop 4)) := Lib.hid hs4
  have hs8' : BS w1 (.slice A8 n8 c8') b' := by have h := hs8; rwa [show (8 : Int).toNat = 8 from rfl, HB'.out] at h
  have hn8e : b'.length = n8 := by obtain ⟨_, _, he, _⟩ := id hs8'; cases he; rfl
  have hs8a := (bs_src hs8').2.1
  have HN8 := Lib.hid hn8e
  have hn8l : n8 ≤ 1099511627776 := by omega
  have HSL := Lib.hid hs8'
  have hl44 : 4 ≤ (L.drop 4).length := by simp; omega
  clear hs4 hs8 hs8' hn8e
  obtain ⟨i0, hi, hz0, hz1, hz2⟩ := info_parts info5
  have hown0 : (w1.alloc (.cells #[] 5)).ownsRow w1.heap.size 5 1 (.slice (some ⟨w1.heap.size, 0, none⟩) 0 0) 0 [] := World.ownsRow_lit (base := w1.heap.size) w1 #[] 0 (Nat.le_refl _) (by decide) rfl
  have hmx : 0 + n8 ≤ maxLen := by unfold maxLen; omega
  have hbx : (0 + n8) * 1 ≤ 140737488355328 := by omega
  have hq0 : g < w1.heap.size := by omega
  have hd1 : ∀ k, Below w1.heap.size w1 (w1.drewN k) := fun k => below_drewN (Below.refl _ _) k
  have hd2 : ∀ (k : Nat) (o : Obj), Below w1.heap.size w1 ((w1.drewN k).alloc o) := fun k o => (hd1 k).trans ((below_self (w1.drewN k) o).mono (hd1 k).size)
  have hd3 : ∀ (k : Nat) (o : Obj) (j : Nat), Below w1.heap.size w1 (((w1.drewN k).alloc o).drewN j) := fun k o j => below_drewN (hd2 k o) j
  have hd5 : ∀ (o : Obj) (k : Nat), Below w1.heap.size w1 ((w1.alloc o).drewN k) := fun o k => below_drewN (below_self w1 o) k
  have hk0 : ∀ (k : Nat) (o : Obj), ((w1.drewN k).alloc o).cell? ⟨g, 0, none⟩ = some (.int .i64 ty) := fun k o => (((below_drewN (Below.refl w1.heap.size w1) k).trans ((below_self (w1.drewN k) o).mono (below_drewN (Below.refl w1.heap.size w1) k).size)).cell (p := ⟨g, 0, none⟩) hq0).trans f10
  go_region_held3 (fun wx => wx.cell? ⟨g, 0, none⟩ = some (.int .i64 ty)) (first | assumption | exact hk0 _ _ | go_simp) (first | (go_at_call 35; refine (four_q _ L _ (HRX.out.below (by first | exact hd1 _ | exact hd2 _ _ | exact hd3 _ _ _ | exact hd5 _ _ | go_grown) (Nat.le_refl _)) HY.out hl4).mono ?_; rintro e v1 ⟨rfl, nq1, rfl⟩; rw [HM1.out]) | (go_at_call 36; refine (all_q _ (L.drop 4) _ (HS4.out.below (by first | exact hd1 _ | exact hd2 _ _ | exact hd3 _ _ _ | exact hd5 _ _ | go_grown) (Nat.le_refl _)) (HY.out.drop 4) hl44).mono ?_; rintro e v2 ⟨rfl, nq2, rfl⟩; rw [HM2.out]) | (refine step_append_src rfl (.tmp 143) (.tmp 145) 22 rfl w1.heap.size 5 i0 _ 1 1 Try.underlying22 hi hz0 hz1 hz2 rfl (by decide) (.slice (some ⟨w1.heap.size, 0, none⟩) 0 0) 0 [] rfl hown0 A8 n8 c8' (bv b') rfl hs8a (by rw [bv_len, HN8.out, Nat.mul_one]) (bs_src (HSL.out.below (by first | exact hd1 _ | exact hd2 _ _ | exact hd3 _ _ _ | exact hd5 _ _ | go_grown) (Nat.le_refl _))).2.2 (bv_one _) hmx hbx (Nat.le_of_lt (lt_alloc w1 _)) ?_; intro va wa hown1 hg1; have hown2 : wa.ownsRow w1.heap.size 5 1 va b'.length (bv b') := fixown HN8.out rfl hown1; have hBa : Below w1.heap.size w1 wa := Below.grown (by first | exact hd1 _ | exact hd2 _ _ | exact hd3 _ _ _ | exact hd5 _ _ | go_grown) hg1 (Nat.le_of_lt (lt_alloc w1 _)) (fun q hq => Nat.le_of_eq (by cases hq; rfl)); obtain ⟨Av, cv, rfl⟩ := own_form hown2; have HO := Lib.hid hown2; have hsa := hBa.size; have HPa := Lib.hid (HP1.out.below hBa (by omega)); have kk0 : wa.cell? ⟨g, 0, none⟩ = some (.int .i64 ty) := (HF1.out.below hBa (by omega)).cell 0; have c7'' : wa.cell? ⟨g + 3, 7, none⟩ = some (.int .i64 0) := HPa.out.cell 7; have z7'' : wa.frozen? ⟨g + 3, 7, none⟩ = false := HPa.out.frozen 7; have c6'' : wa.cell? ⟨g + 3, 6, none⟩ = some (.int .i64 0) := HPa.out.cell 6; have z6'' : wa.frozen? ⟨g + 3, 6, none⟩ = false := HPa.out.frozen 6; have c5'' : wa.cell? ⟨g + 3, 5, none⟩ = some (.slice none 0 0) := HPa.out.cell 5; have z5'' : wa.frozen? ⟨g + 3, 5, none⟩ = false := HPa.out.frozen 5))
  all_goals
    have HPe := Lib.hid (((HPa.out.put 7 (.int .i64 x)).put 6 (.int .i64 y)).put 5 (.slice Av b'.length cv))
    have HZe := Lib.hid ((((HZ1.out.below hBa (by omega)).far (p := ⟨g + 3, 7, none⟩) (by simp) (.int .i64 x)).far (p := ⟨g + 3, 6, none⟩) (by simp) (.int .i64 y)).far (p := ⟨g + 3, 5, none⟩) (by simp) (.slice Av b'.length cv))
    have HXe := Lib.hid ((((HX1.out.below hBa (by omega)).far (p := ⟨g + 3, 7, none⟩) (by simp) (.int .i64 x)).far (p := ⟨g + 3, 6, none⟩) (by simp) (.int .i64 y)).far (p := ⟨g + 3, 5, none⟩) (by simp) (.slice Av b'.length cv))
    have HOe := Lib.hid (ownsRow_setCell_below (ownsRow_setCell_below (ownsRow_setCell_below HO.out (a := ⟨g + 3, 7, none⟩) (show g + 3 < w1.heap.size by omega) (.int .i64 x)) (a := ⟨g + 3, 6, none⟩) (show g + 3 < w1.heap.size by omega) (.int .i64 y)) (a := ⟨g + 3, 5, none⟩) (show g + 3 < w1.heap.size by omega) (.slice Av b'.length cv))
    have hBe : Below g w (((wa.setCell ⟨g + 3, 7, none⟩ (.int .i64 x)).setCell ⟨g + 3, 6, none⟩ (.int .i64 y)).setCell ⟨g + 3, 5, none⟩ (.slice Av b'.length cv)) := (((((hB.trans (hB1.mono (by omega))).trans (hBa.mono (by omega))).setCell (by simp) (.int .i64 x)).setCell (by simp) (.int .i64 y)).setCell (by simp) (.slice Av b'.length cv))
    change Exit.inBlock _ _ _ _ (((wa.setCell ⟨g + 3, 7, none⟩ (.int .i64 x)).setCell ⟨g + 3, 6, none⟩ (.int .i64 y)).setCell ⟨g + 3, 5, none⟩ (.slice Av b'.length cv))
    have hse : w1.heap.size ≤ (((wa.setCell ⟨g + 3, 7, none⟩ (.int .i64 x)).setCell ⟨g + 3, 6, none⟩ (.int .i64 y)).setCell ⟨g + 3, 5, none⟩ (.slice Av b'.length cv)).heap.size := by simp only [World.size_setCell]; exact hsa
    clear HO HPa hBa hB1
    generalize (((wa.setCell ⟨g + 3, 7, none⟩ (.int .i64 x)).setCell ⟨g + 3, 6, none⟩ (.int .i64 y)).setCell ⟨g + 3, 5, none⟩ (.slice Av b'.length cv)) = we at *
    go_wp2_with (first
      | (refine wpList_load_row rfl 26 (.tmp 4) rfl (g + 3) rfl 26 _ _ _ HPe.out Try.underlying26 rfl (by kernel_rfl) ?_)
      | (refine wpList_store_row rfl 26 (.tmp 2) (.tmp 191) rfl (g + 1) rfl #[.int .i64 ty, .int .i64 st, .bool false, .bool false, .bool false, .slice Av b'.length cv, .int .i64 y, .int .i64 x, .int .i64 0, .int .i64 0, .slice none 0 0] rfl 26 _ HZe.out rfl (by kernel_rfl) (by simp [Value.oneCell']) ?_; intro x1 hx1 gx1 sx1; have HXx := Lib.hid (HXe.out.grown gx1 (by simp)))
      | (refine wpList_store_row rfl 28 (.tmp 3) (.tmp 192) rfl (g + 2) rfl zB rfl 28 _ HXx.out rfl (by kernel_rfl) (by simp [Value.oneCell']) ?_; intro x2 hx2 gx2 sx2))
    have hgo := HG.out
    subst hgo
    refine bodyPost_ret (results_cc rfl _ (w.heap.size + 1) (w.heap.size + 2) 26 28 _ _ _ _ rfl (hx1.grown gx2 (by simp)) Try.underlying26 rfl (by kernel_rfl) rfl hx2 Try.underlying28 rfl (by kernel_rfl)) rfl ⟨⟨_, rfl, ⟨.slice Av b'.length cv, .slice none 0 0, rfl, (own_grown (own_grown HOe.out gx1 (by omega)) gx2 (by omega)).mono (by omega), World.ownsRow_nil _ _ _ _⟩⟩, ((hBe.grown gx1 (by omega) (fun q hq => by cases hq; omega)).grown gx2 (by omega) (fun q hq => by cases hq; omega))⟩
end Go.Proofs.Ytolpfbdklcjlkaa
