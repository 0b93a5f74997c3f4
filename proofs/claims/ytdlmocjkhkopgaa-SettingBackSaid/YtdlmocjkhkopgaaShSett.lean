/- The shapes, turned from w10: settings. -/
import Derived.Test.YtdlmocjkhkopgaaShSpec
namespace Go.Proofs.Ytdlmocjkhkopgaa.Sh
open Go.ChangeShapes Go.WideShapes Go.ChangeAt Go.RowKit
set_option linter.unusedVariables false
set_option linter.unusedSimpArgs false

theorem SV_one (Z : Nat → Int × Int) : ∀ i j, j < 2 → (SV Z i j).oneCell' = true := fun i j _ => by unfold SV; split <;> rfl
theorem rows_snocS (Z : Nat → Int × Int) (n : Nat) : rowsOf (SV Z) 2 n ++ [.int .i64 (Z n).1, .int .i64 (Z n).2] = rowsOf (SV Z) 2 (n + 1) := by
  have : [Value.int .i64 (Z n).1, Value.int .i64 (Z n).2] = rowsOf (SV fun _ => Z n) 2 1 := rfl
  rw [this, rows_both _ _ _ _ _ (by omega)]
  unfold rowsOf
  apply List.map_congr_left
  intro q hq
  simp at hq
  have : bothV (SV Z) (SV fun _ => Z n) n (q / 2) (q % 2) = SV Z (q / 2) (q % 2) := by
    unfold bothV
    split
    · rfl
    · rw [show q / 2 = n by omega]; rfl
  exact this
theorem lt_alloc (w : World) (o : Obj) : w.heap.size < (w.alloc o).heap.size := by simp only [World.size_alloc]; omega
theorem new_kept {w w1 : World} {cs : Array Value} {t : TypeId} (h : Below (w.alloc (.cells cs t)).drew.heap.size (w.alloc (.cells cs t)).drew w1) : Blk w1 w.heap.size t cs := Blk.below (w := (w.alloc (.cells cs t)).drew) (Blk.new w t cs) h (lt_alloc w _)
theorem news_one (w : World) (t : TypeId) (a b : Value) : ∀ ad, some (⟨w.heap.size, 0, none⟩ : Addr) = some ad → ∀ j u, [a, b][j]? = some u → (w.alloc (.cells #[a, b] t)).cell? (ad.add j) = some u := fun ad h j u hu => by
  cases h
  rw [add_plain, Nat.zero_add, (Blk.new w t #[a, b]).cell]
  simpa using hu
theorem info54 : (Try.prog.info? 29).map (fun i => (i.zero, i.size, i.bytes)) = some (some (.agg #[.int .i64 0, .int .i64 0]), 2, 16) := by kernel_rfl
theorem or256 (a b : Int) (ha : 0 ≤ a ∧ a ≤ 255) (hb : 0 ≤ b ∧ b ≤ 255) : bits .or .i64 (a * 256) b = a * 256 + b :=
  or_join (a * 256) b 256 8 (by decide) (by omega) (by omega) (by omega) (by omega) (by omega) (by omega)
set_option maxHeartbeats 4000000 in
set_option maxRecDepth 100000 in
theorem set_bad1 (ty fl st : Int) (A : Option Addr) (n cap : Nat) (L : List Int) (w : World) (hR : BS w (.slice A n cap) L) (hln : L.length = n) (hb : Byt L) (hn : n ≤ 1099511627776) (hk : (bits .and .i64 fl 1 != 0) = true) (h0 : 0 < n) :
    Calls Try.prog 29 #[.agg (fC ty fl st (.slice A n cap)), .agg (pB ty st)] w fun e w' => Ans w.heap.size (PP.zero, cB 6) e w' ∧ Below w.heap.size w w' := by
  have HR := Lib.hid hR
  have HL := Lib.hid hln
  have HY := Lib.hid hb
  clear hR hln hb
  have h0i : (0 : Int) < (n : Int) := by omega
  clear h0
  go_enter Try.func29, Try.ntmps29
  go_upto_region 1 with fail
  refine wp_forget (fun W => Below w.heap.size w W ∧ Hid (Blk W w.heap.size 51 (fC ty fl st (.slice A n cap))) ∧ Hid (Blk W (w.heap.size + 1) 45 (pB ty st)) ∧ Hid (Blk W (w.heap.size + 2) 45 zP) ∧ Hid (Blk W (w.heap.size + 3) 47 zB))
    ⟨by go_grown, Lib.hid ((((Blk.new _ _ _).alloc _).alloc _).alloc _), Lib.hid (((Blk.new_at (by simp only [World.size_alloc])).alloc _).alloc _), Lib.hid ((Blk.new_at (by simp only [World.size_alloc])).alloc _), Lib.hid (Blk.new_at (by simp only [World.size_alloc]))⟩ ?_
  rintro W ⟨hB, HF, HP, HZ, HX⟩
  have hBs := hB.size
  have hl3 := HX.out.lt
  have hl2 : w.heap.size + 2 < W.heap.size := by omega
  have hl1 : w.heap.size + 1 < W.heap.size := by omega
  have hl0 : w.heap.size < W.heap.size := by omega
  have f0 : W.cell? ⟨w.heap.size, 0, none⟩ = some (.int .i64 ty) := HF.out.cell 0
  have f1 : W.cell? ⟨w.heap.size, 1, none⟩ = some (.int .i64 fl) := HF.out.cell 1
  have f2 : W.cell? ⟨w.heap.size, 2, none⟩ = some (.int .i64 st) := HF.out.cell 2
  have f3 : W.cell? ⟨w.heap.size, 3, none⟩ = some (.slice A n cap) := HF.out.cell 3
  have HRW := Lib.hid (HR.out.below hB (Nat.le_refl _))
  generalize hg : w.heap.size = g at *
  have HG := Lib.hid hg
  clear hg
  have c4 : W.cell? ⟨g + 1, 4, none⟩ = some (.bool false) := HP.out.cell 4
  have z4 : W.frozen? ⟨g + 1, 4, none⟩ = false := HP.out.frozen 4
  go_upto_region 3 with fail
  have HP0 := Lib.hid (HP.out.put 4 (.bool true))
  have HZ0 := Lib.hid (HZ.out.far (p := ⟨g + 1, 4, none⟩) (by simp) (.bool true))
  have HX0 := Lib.hid (HX.out.far (p := ⟨g + 1, 4, none⟩) (by simp) (.bool true))
  have hB0 : Below g w (W.setCell ⟨g + 1, 4, none⟩ (.bool true)) := hB.setCell (by simp) _
  have HR0 : Hid (BS (W.setCell ⟨g + 1, 4, none⟩ (.bool true)) (.slice A n cap) L) := Lib.hid (HR.out.below (by rw [HG.out]; exact hB0) (Nat.le_refl _))
  have hse : W.heap.size ≤ (W.setCell ⟨g + 1, 4, none⟩ (.bool true)).heap.size := by simp only [World.size_setCell]; exact Nat.le_refl _
  refine wp_forget (fun V => Below g w V ∧ W.heap.size ≤ V.heap.size ∧ Hid (BS V (.slice A n cap) L) ∧ Hid (Blk V (g + 1) 45 #[.int .i64 ty, .int .i64 st, .bool false, .bool false, .bool true, .slice none 0 0, .int .i64 0, .int .i64 0, .int .i64 0, .int .i64 0, .slice none 0 0]) ∧ Hid (Blk V (g + 2) 45 zP) ∧ Hid (Blk V (g + 3) 47 zB)) ⟨hB0, hse, HR0, HP0, HZ0, HX0⟩ ?_
  clear HP0 HZ0 HX0 hB0 hse HR0 HRW HF HP HZ HX f0 f1 f2 f3 c4 z4
  rintro V ⟨hBV, hsV, HRV, HPV, HZV, HXV⟩
  have p4 : V.cell? ⟨g + 1, 4, none⟩ = some (.bool true) := HPV.out.cell 4
  have hlV : g + 3 < V.heap.size := by omega
  go_wp2_with (first
    | (go_at_call 24; refine (conn_any 6 _).mono ?_; rintro e w9 ⟨rfl, hB9⟩; have hS9 := hB9.size; have HZ9 := Lib.hid (HZV.out.below hB9 (by omega)); have HX9 := Lib.hid (HXV.out.below hB9 (by omega)))
    | (refine wpList_store_row rfl 45 (.tmp 4) (.tmp 29) rfl (g + 2) rfl zP rfl 45 _ HZ9.out rfl (by kernel_rfl) (by simp [Value.oneCell']) ?_; intro x1 hx1 gx1 sx1; have HXx := Lib.hid (HX9.out.grown gx1 (by simp)))
    | (refine wpList_store_row rfl 47 (.tmp 5) (.tmp 30) rfl (g + 3) rfl #[.int .i64 2, .int .i64 (6), .int .i64 0] rfl 47 _ HXx.out rfl (by kernel_rfl) (by simp [Value.oneCell']) ?_; intro x2 hx2 gx2 sx2))
  have hgo := HG.out
  subst hgo
  refine bodyPost_ret (results_cc rfl _ (w.heap.size + 2) (w.heap.size + 3) 45 47 _ _ _ _ rfl (hx1.grown gx2 (by simp)) Try.underlying45 rfl (by kernel_rfl) rfl hx2 Try.underlying47 rfl (by kernel_rfl)) rfl ⟨⟨_, rfl, isP_zero _ _⟩, (((hBV.trans (hB9.mono (by omega))).grown gx1 (by omega) (fun q hq => by cases hq; omega)).grown gx2 (by omega) (fun q hq => by cases hq; omega))⟩
set_option maxHeartbeats 4000000 in
set_option maxRecDepth 100000 in
theorem set_bad2 (ty fl st : Int) (A : Option Addr) (n cap : Nat) (L : List Int) (w : World) (hR : BS w (.slice A n cap) L) (hln : L.length = n) (hb : Byt L) (hn : n ≤ 1099511627776) (hk : (bits .and .i64 fl 1 != 0) = false) (h6 : n % 6 ≠ 0) :
    Calls Try.prog 29 #[.agg (fC ty fl st (.slice A n cap)), .agg (pB ty st)] w fun e w' => Ans w.heap.size (PP.zero, cB 6) e w' ∧ Below w.heap.size w w' := by
  have HR := Lib.hid hR
  have HL := Lib.hid hln
  have HY := Lib.hid hb
  clear hR hln hb
  have h6i : ((n : Int) % 6 != 0) = true := by simp; omega
  clear h6
  go_enter Try.func29, Try.ntmps29
  go_upto_region 1 with fail
  refine wp_forget (fun W => Below w.heap.size w W ∧ Hid (Blk W w.heap.size 51 (fC ty fl st (.slice A n cap))) ∧ Hid (Blk W (w.heap.size + 1) 45 (pB ty st)) ∧ Hid (Blk W (w.heap.size + 2) 45 zP) ∧ Hid (Blk W (w.heap.size + 3) 47 zB))
    ⟨by go_grown, Lib.hid ((((Blk.new _ _ _).alloc _).alloc _).alloc _), Lib.hid (((Blk.new_at (by simp only [World.size_alloc])).alloc _).alloc _), Lib.hid ((Blk.new_at (by simp only [World.size_alloc])).alloc _), Lib.hid (Blk.new_at (by simp only [World.size_alloc]))⟩ ?_
  rintro W ⟨hB, HF, HP, HZ, HX⟩
  have hBs := hB.size
  have hl3 := HX.out.lt
  have hl2 : w.heap.size + 2 < W.heap.size := by omega
  have hl1 : w.heap.size + 1 < W.heap.size := by omega
  have hl0 : w.heap.size < W.heap.size := by omega
  have f0 : W.cell? ⟨w.heap.size, 0, none⟩ = some (.int .i64 ty) := HF.out.cell 0
  have f1 : W.cell? ⟨w.heap.size, 1, none⟩ = some (.int .i64 fl) := HF.out.cell 1
  have f2 : W.cell? ⟨w.heap.size, 2, none⟩ = some (.int .i64 st) := HF.out.cell 2
  have f3 : W.cell? ⟨w.heap.size, 3, none⟩ = some (.slice A n cap) := HF.out.cell 3
  have HRW := Lib.hid (HR.out.below hB (Nat.le_refl _))
  generalize hg : w.heap.size = g at *
  have HG := Lib.hid hg
  clear hg
  have c4 : W.cell? ⟨g + 1, 4, none⟩ = some (.bool false) := HP.out.cell 4
  have z4 : W.frozen? ⟨g + 1, 4, none⟩ = false := HP.out.frozen 4
  go_upto_region 3 with fail
  have HP0 := Lib.hid (HP.out.put 4 (.bool false))
  have HZ0 := Lib.hid (HZ.out.far (p := ⟨g + 1, 4, none⟩) (by simp) (.bool false))
  have HX0 := Lib.hid (HX.out.far (p := ⟨g + 1, 4, none⟩) (by simp) (.bool false))
  have hB0 : Below g w (W.setCell ⟨g + 1, 4, none⟩ (.bool false)) := hB.setCell (by simp) _
  have HR0 : Hid (BS (W.setCell ⟨g + 1, 4, none⟩ (.bool false)) (.slice A n cap) L) := Lib.hid (HR.out.below (by rw [HG.out]; exact hB0) (Nat.le_refl _))
  have hse : W.heap.size ≤ (W.setCell ⟨g + 1, 4, none⟩ (.bool false)).heap.size := by simp only [World.size_setCell]; exact Nat.le_refl _
  refine wp_forget (fun V => Below g w V ∧ W.heap.size ≤ V.heap.size ∧ Hid (BS V (.slice A n cap) L) ∧ Hid (Blk V (g + 1) 45 #[.int .i64 ty, .int .i64 st, .bool false, .bool false, .bool false, .slice none 0 0, .int .i64 0, .int .i64 0, .int .i64 0, .int .i64 0, .slice none 0 0]) ∧ Hid (Blk V (g + 2) 45 zP) ∧ Hid (Blk V (g + 3) 47 zB)) ⟨hB0, hse, HR0, HP0, HZ0, HX0⟩ ?_
  clear HP0 HZ0 HX0 hB0 hse HR0 HRW HF HP HZ HX f0 f1 f2 f3 c4 z4
  rintro V ⟨hBV, hsV, HRV, HPV, HZV, HXV⟩
  have p4 : V.cell? ⟨g + 1, 4, none⟩ = some (.bool false) := HPV.out.cell 4
  have hlV : g + 3 < V.heap.size := by omega
  go_wp2_with (first
    | (go_at_call 24; refine (conn_any 6 _).mono ?_; rintro e w9 ⟨rfl, hB9⟩; have hS9 := hB9.size; have HZ9 := Lib.hid (HZV.out.below hB9 (by omega)); have HX9 := Lib.hid (HXV.out.below hB9 (by omega)))
    | (refine wpList_store_row rfl 45 (.tmp 4) (.tmp 29) rfl (g + 2) rfl zP rfl 45 _ HZ9.out rfl (by kernel_rfl) (by simp [Value.oneCell']) ?_; intro x1 hx1 gx1 sx1; have HXx := Lib.hid (HX9.out.grown gx1 (by simp)))
    | (refine wpList_store_row rfl 47 (.tmp 5) (.tmp 30) rfl (g + 3) rfl #[.int .i64 2, .int .i64 (6), .int .i64 0] rfl 47 _ HXx.out rfl (by kernel_rfl) (by simp [Value.oneCell']) ?_; intro x2 hx2 gx2 sx2))
  have hgo := HG.out
  subst hgo
  refine bodyPost_ret (results_cc rfl _ (w.heap.size + 2) (w.heap.size + 3) 45 47 _ _ _ _ rfl (hx1.grown gx2 (by simp)) Try.underlying45 rfl (by kernel_rfl) rfl hx2 Try.underlying47 rfl (by kernel_rfl)) rfl ⟨⟨_, rfl, isP_zero _ _⟩, (((hBV.trans (hB9.mono (by omega))).grown gx1 (by omega) (fun q hq => by cases hq; omega)).grown gx2 (by omega) (fun q hq => by cases hq; omega))⟩
set_option maxHeartbeats 4000000 in
set_option maxRecDepth 100000 in
theorem set_ok0 (ty fl st : Int) (A : Option Addr) (n cap : Nat) (L : List Int) (w : World) (hR : BS w (.slice A n cap) L) (hln : L.length = n) (hb : Byt L) (hn : n ≤ 1099511627776) (hk : (bits .and .i64 fl 1 != 0) = true) (res : PP × (Int × Int × Int)) (hres : setGo ty fl st L (n / 6) 0 = res) (h0 : n = 0) :
    Calls Try.prog 29 #[.agg (fC ty fl st (.slice A n cap)), .agg (pB ty st)] w fun e w' => Ans w.heap.size (res) e w' ∧ Below w.heap.size w w' := by
  have HR := Lib.hid hR
  have HL := Lib.hid hln
  have HY := Lib.hid hb
  clear hR hln hb
  have HRES : Hid (setGo ty fl st L (n / 6 - 0) 0 = res) := Lib.hid hres
  clear hres
  have h6i : ((n : Int) % 6 != 0) = false := by subst h0; rfl
  have h0i : ¬ (0 : Int) < (n : Int) := by omega
  have H0 := Lib.hid h0
  clear h0
  go_enter Try.func29, Try.ntmps29
  go_upto_region 1 with fail
  refine wp_forget (fun W => Below w.heap.size w W ∧ Hid (Blk W w.heap.size 51 (fC ty fl st (.slice A n cap))) ∧ Hid (Blk W (w.heap.size + 1) 45 (pB ty st)) ∧ Hid (Blk W (w.heap.size + 2) 45 zP) ∧ Hid (Blk W (w.heap.size + 3) 47 zB))
    ⟨by go_grown, Lib.hid ((((Blk.new _ _ _).alloc _).alloc _).alloc _), Lib.hid (((Blk.new_at (by simp only [World.size_alloc])).alloc _).alloc _), Lib.hid ((Blk.new_at (by simp only [World.size_alloc])).alloc _), Lib.hid (Blk.new_at (by simp only [World.size_alloc]))⟩ ?_
  rintro W ⟨hB, HF, HP, HZ, HX⟩
  have hBs := hB.size
  have hl3 := HX.out.lt
  have hl2 : w.heap.size + 2 < W.heap.size := by omega
  have hl1 : w.heap.size + 1 < W.heap.size := by omega
  have hl0 : w.heap.size < W.heap.size := by omega
  have f0 : W.cell? ⟨w.heap.size, 0, none⟩ = some (.int .i64 ty) := HF.out.cell 0
  have f1 : W.cell? ⟨w.heap.size, 1, none⟩ = some (.int .i64 fl) := HF.out.cell 1
  have f2 : W.cell? ⟨w.heap.size, 2, none⟩ = some (.int .i64 st) := HF.out.cell 2
  have f3 : W.cell? ⟨w.heap.size, 3, none⟩ = some (.slice A n cap) := HF.out.cell 3
  have HRW := Lib.hid (HR.out.below hB (Nat.le_refl _))
  generalize hg : w.heap.size = g at *
  have HG := Lib.hid hg
  clear hg
  have c4 : W.cell? ⟨g + 1, 4, none⟩ = some (.bool false) := HP.out.cell 4
  have z4 : W.frozen? ⟨g + 1, 4, none⟩ = false := HP.out.frozen 4
  go_upto_region 3 with fail
  have HP0 := Lib.hid (HP.out.put 4 (.bool true))
  have HZ0 := Lib.hid (HZ.out.far (p := ⟨g + 1, 4, none⟩) (by simp) (.bool true))
  have HX0 := Lib.hid (HX.out.far (p := ⟨g + 1, 4, none⟩) (by simp) (.bool true))
  have hB0 : Below g w (W.setCell ⟨g + 1, 4, none⟩ (.bool true)) := hB.setCell (by simp) _
  have HR0 : Hid (BS (W.setCell ⟨g + 1, 4, none⟩ (.bool true)) (.slice A n cap) L) := Lib.hid (HR.out.below (by rw [HG.out]; exact hB0) (Nat.le_refl _))
  have hse : W.heap.size ≤ (W.setCell ⟨g + 1, 4, none⟩ (.bool true)).heap.size := by simp only [World.size_setCell]; exact Nat.le_refl _
  refine wp_forget (fun V => Below g w V ∧ W.heap.size ≤ V.heap.size ∧ Hid (BS V (.slice A n cap) L) ∧ Hid (Blk V (g + 1) 45 #[.int .i64 ty, .int .i64 st, .bool false, .bool false, .bool true, .slice none 0 0, .int .i64 0, .int .i64 0, .int .i64 0, .int .i64 0, .slice none 0 0]) ∧ Hid (Blk V (g + 2) 45 zP) ∧ Hid (Blk V (g + 3) 47 zB)) ⟨hB0, hse, HR0, HP0, HZ0, HX0⟩ ?_
  clear HP0 HZ0 HX0 hB0 hse HR0 HRW HF HP HZ HX f0 f1 f2 f3 c4 z4
  rintro V ⟨hBV, hsV, HRV, HPV, HZV, HXV⟩
  have p4 : V.cell? ⟨g + 1, 4, none⟩ = some (.bool true) := HPV.out.cell 4
  have hlV : g + 3 < V.heap.size := by omega
  obtain ⟨i0, hi, hz0, hz1, hz2⟩ := info_parts info54
  go_wp2_with fail
  go_loopw [6] (fun s6 wr => ∃ (i : Nat) (A' : Option Addr) (n' c' : Nat) (vs : Value), s6 = .slice A' n' c' ∧ n' + 6 * i = n ∧ Hid (BS w (.slice A' n' c') (L.drop (6 * i))) ∧ Hid (setGo ty fl st L (n / 6 - i) i = res) ∧ Hid (wr.ownsRow V.heap.size 29 2 vs i (rowsOf (SV (setZ L)) 2 i)) ∧ Hid (Blk wr (g + 1) 45 #[.int .i64 ty, .int .i64 st, .bool false, .bool false, .bool true, .slice none 0 0, .int .i64 0, .int .i64 0, .int .i64 0, .int .i64 0, vs]) ∧ Hid (Blk wr (g + 2) 45 zP) ∧ Hid (Blk wr (g + 3) 47 zB) ∧ V.heap.size ≤ wr.heap.size ∧ Below g w wr) (fun s6 _ => match s6 with | .slice _ n' _ => n' | _ => 0)
  case atStart => exact ⟨0, _, _, _, _, rfl, (by have h := H0.out; omega), (by have h := HR; have h0 := H0.out; subst h0; exact h), HRES, Lib.hid (World.ownsRow_nil _ _ _ _), HPV, HZV, HXV, Nat.le_refl _, hBV⟩
  case round =>
    obtain ⟨i, A', n', c', vs, rfl, hin, HBw, HRes, HOr, HPr, HZr, HXr, hwr, hBr⟩ := hrel
    have HBr : Hid (BS wr (.slice A' n' c') (L.drop (6 * i))) := Lib.hid (HBw.out.below (by rw [HG.out]; exact hBr) (Nat.le_refl _))
    by_cases hlt : 0 < n'
    ·
      exact absurd H0.out (by omega)
    · obtain rfl : n' = 0 := by omega
      have hin' : 6 * i = n := by omega
      obtain ⟨Av, cv, rfl⟩ := own_form HOr.out
      have hres := HRes.out
      rw [show n / 6 - i = 0 by omega] at hres
      have hk2 : flag fl 1 = true := hk
      unfold setGo at hres
      rw [hk2] at hres
      subst hres
      have HPe := HPr
      have HZe := HZr
      have HXe := HXr
      have hBe := hBr
      clear HPr HZr HXr hBr
      go_wp2_with (first
        | (refine wpList_load_row rfl 45 (.tmp 3) rfl (g + 1) rfl 45 _ _ _ HPe.out Try.underlying45 rfl (by kernel_rfl) ?_)
        | (refine wpList_store_row rfl 45 (.tmp 4) (.tmp 63) rfl (g + 2) rfl #[.int .i64 ty, .int .i64 st, .bool false, .bool false, .bool true, .slice none 0 0, .int .i64 0, .int .i64 0, .int .i64 0, .int .i64 0, .slice Av i cv] rfl 45 _ HZe.out rfl (by kernel_rfl) (by simp [Value.oneCell']) ?_; intro x1 hx1 gx1 sx1; have HXx := Lib.hid (HXe.out.grown gx1 (by simp)))
        | (refine wpList_store_row rfl 47 (.tmp 5) (.tmp 64) rfl (g + 3) rfl zB rfl 47 _ HXx.out rfl (by kernel_rfl) (by simp [Value.oneCell']) ?_; intro x2 hx2 gx2 sx2))
      have hgo := HG.out
      subst hgo
      refine bodyPost_ret (results_cc rfl _ (w.heap.size + 2) (w.heap.size + 3) 45 47 _ _ _ _ rfl (hx1.grown gx2 (by simp)) Try.underlying45 rfl (by kernel_rfl) rfl hx2 Try.underlying47 rfl (by kernel_rfl)) rfl ⟨⟨_, rfl, ⟨.slice none 0 0, .slice Av i cv, rfl, World.ownsRow_nil _ _ _ _, (own_grown (own_grown HOr.out gx1 (by omega)) gx2 (by omega)).mono (by omega)⟩⟩, ((hBe.grown gx1 (by omega) (fun q hq => by cases hq; omega)).grown gx2 (by omega) (fun q hq => by cases hq; omega))⟩
set_option maxHeartbeats 4000000 in
set_option maxRecDepth 100000 in
theorem set_ok (ty fl st : Int) (A : Option Addr) (n cap : Nat) (L : List Int) (w : World) (hR : BS w (.slice A n cap) L) (hln : L.length = n) (hb : Byt L) (hn : n ≤ 1099511627776) (hk : (bits .and .i64 fl 1 != 0) = false) (res : PP × (Int × Int × Int)) (hres : setGo ty fl st L (n / 6) 0 = res) (h6 : n % 6 = 0) :
    Calls Try.prog 29 #[.agg (fC ty fl st (.slice A n cap)), .agg (pB ty st)] w fun e w' => Ans w.heap.size (res) e w' ∧ Below w.heap.size w w' := by
  have HR := Lib.hid hR
  have HL := Lib.hid hln
  have HY := Lib.hid hb
  clear hR hln hb
  have HRES : Hid (setGo ty fl st L (n / 6 - 0) 0 = res) := Lib.hid hres
  clear hres
  have h6i : ((n : Int) % 6 != 0) = false := by simp; omega
  have H6 := Lib.hid h6
  clear h6
  go_enter Try.func29, Try.ntmps29
  go_upto_region 1 with fail
  refine wp_forget (fun W => Below w.heap.size w W ∧ Hid (Blk W w.heap.size 51 (fC ty fl st (.slice A n cap))) ∧ Hid (Blk W (w.heap.size + 1) 45 (pB ty st)) ∧ Hid (Blk W (w.heap.size + 2) 45 zP) ∧ Hid (Blk W (w.heap.size + 3) 47 zB))
    ⟨by go_grown, Lib.hid ((((Blk.new _ _ _).alloc _).alloc _).alloc _), Lib.hid (((Blk.new_at (by simp only [World.size_alloc])).alloc _).alloc _), Lib.hid ((Blk.new_at (by simp only [World.size_alloc])).alloc _), Lib.hid (Blk.new_at (by simp only [World.size_alloc]))⟩ ?_
  rintro W ⟨hB, HF, HP, HZ, HX⟩
  have hBs := hB.size
  have hl3 := HX.out.lt
  have hl2 : w.heap.size + 2 < W.heap.size := by omega
  have hl1 : w.heap.size + 1 < W.heap.size := by omega
  have hl0 : w.heap.size < W.heap.size := by omega
  have f0 : W.cell? ⟨w.heap.size, 0, none⟩ = some (.int .i64 ty) := HF.out.cell 0
  have f1 : W.cell? ⟨w.heap.size, 1, none⟩ = some (.int .i64 fl) := HF.out.cell 1
  have f2 : W.cell? ⟨w.heap.size, 2, none⟩ = some (.int .i64 st) := HF.out.cell 2
  have f3 : W.cell? ⟨w.heap.size, 3, none⟩ = some (.slice A n cap) := HF.out.cell 3
  have HRW := Lib.hid (HR.out.below hB (Nat.le_refl _))
  generalize hg : w.heap.size = g at *
  have HG := Lib.hid hg
  clear hg
  have c4 : W.cell? ⟨g + 1, 4, none⟩ = some (.bool false) := HP.out.cell 4
  have z4 : W.frozen? ⟨g + 1, 4, none⟩ = false := HP.out.frozen 4
  go_upto_region 3 with fail
  have HP0 := Lib.hid (HP.out.put 4 (.bool false))
  have HZ0 := Lib.hid (HZ.out.far (p := ⟨g + 1, 4, none⟩) (by simp) (.bool false))
  have HX0 := Lib.hid (HX.out.far (p := ⟨g + 1, 4, none⟩) (by simp) (.bool false))
  have hB0 : Below g w (W.setCell ⟨g + 1, 4, none⟩ (.bool false)) := hB.setCell (by simp) _
  have HR0 : Hid (BS (W.setCell ⟨g + 1, 4, none⟩ (.bool false)) (.slice A n cap) L) := Lib.hid (HR.out.below (by rw [HG.out]; exact hB0) (Nat.le_refl _))
  have hse : W.heap.size ≤ (W.setCell ⟨g + 1, 4, none⟩ (.bool false)).heap.size := by simp only [World.size_setCell]; exact Nat.le_refl _
  refine wp_forget (fun V => Below g w V ∧ W.heap.size ≤ V.heap.size ∧ Hid (BS V (.slice A n cap) L) ∧ Hid (Blk V (g + 1) 45 #[.int .i64 ty, .int .i64 st, .bool false, .bool false, .bool false, .slice none 0 0, .int .i64 0, .int .i64 0, .int .i64 0, .int .i64 0, .slice none 0 0]) ∧ Hid (Blk V (g + 2) 45 zP) ∧ Hid (Blk V (g + 3) 47 zB)) ⟨hB0, hse, HR0, HP0, HZ0, HX0⟩ ?_
  clear HP0 HZ0 HX0 hB0 hse HR0 HRW HF HP HZ HX f0 f1 f2 f3 c4 z4
  rintro V ⟨hBV, hsV, HRV, HPV, HZV, HXV⟩
  have p4 : V.cell? ⟨g + 1, 4, none⟩ = some (.bool false) := HPV.out.cell 4
  have hlV : g + 3 < V.heap.size := by omega
  obtain ⟨i0, hi, hz0, hz1, hz2⟩ := info_parts info54
  go_wp2_with fail
  go_loopw [6] (fun s6 wr => ∃ (i : Nat) (A' : Option Addr) (n' c' : Nat) (vs : Value), s6 = .slice A' n' c' ∧ n' + 6 * i = n ∧ Hid (BS w (.slice A' n' c') (L.drop (6 * i))) ∧ Hid (setGo ty fl st L (n / 6 - i) i = res) ∧ Hid (wr.ownsRow V.heap.size 29 2 vs i (rowsOf (SV (setZ L)) 2 i)) ∧ Hid (Blk wr (g + 1) 45 #[.int .i64 ty, .int .i64 st, .bool false, .bool false, .bool false, .slice none 0 0, .int .i64 0, .int .i64 0, .int .i64 0, .int .i64 0, vs]) ∧ Hid (Blk wr (g + 2) 45 zP) ∧ Hid (Blk wr (g + 3) 47 zB) ∧ V.heap.size ≤ wr.heap.size ∧ Below g w wr) (fun s6 _ => match s6 with | .slice _ n' _ => n' | _ => 0)
  case atStart => exact ⟨0, _, _, _, _, rfl, by omega, HR, HRES, Lib.hid (World.ownsRow_nil _ _ _ _), HPV, HZV, HXV, Nat.le_refl _, hBV⟩
  case round =>
    obtain ⟨i, A', n', c', vs, rfl, hin, HBw, HRes, HOr, HPr, HZr, HXr, hwr, hBr⟩ := hrel
    have HBr : Hid (BS wr (.slice A' n' c') (L.drop (6 * i))) := Lib.hid (HBw.out.below (by rw [HG.out]; exact hBr) (Nat.le_refl _))
    by_cases hlt : 0 < n'
    ·
      have hl6 : 6 ≤ n' := by have h := H6.out; omega
      have hL' : (L.drop (6 * i)).length = n' := by have := HL.out; simp; omega
      have HL' := Lib.hid hL'
      obtain ⟨A2, n2, c2, hrun2, hs2⟩ := run_fromI HBr.out 2 (by omega) (by omega)
      obtain ⟨A6, n6, c6, hrun6, hs6⟩ := run_fromI HBw.out 6 (by omega) (by omega)
      have hs2' : BS wr (.slice A2 n2 c2) (L.drop (6 * i + 2)) := by rw [show (2 : Int).toNat = 2 from rfl, List.drop_drop] at hs2; exact hs2
      have hs6' : BS w (.slice A6 n6 c6) (L.drop (6 * (i + 1))) := by rw [show (6 : Int).toNat = 6 from rfl, List.drop_drop] at hs6; exact hs6
      have hn6 : n6 + 6 * (i + 1) = n := by
        obtain ⟨_, _, he, _⟩ := id hs6'
        cases he
        have := HL.out
        simp
        omega
      clear hs2 hs6
      have HS2 := Lib.hid hs2'
      have HS6 := Lib.hid hs6'
      clear hs2' hs6'
      obtain ⟨A'', cap'', he, hk', hm', hc⟩ := id HBr.out
      rw [hL'] at he hk' hc
      cases he
      obtain ⟨b, off, rfl, gb, q⟩ := hc (by omega)
      have e0 : wr.cell? ⟨b, off, none⟩ = some (.int .u8 (L.getD (6 * i) 0)) := by have := q 0 0 (by omega) (by omega); simpa [List.getD_eq_getElem?_getD] using this
      have e1 : wr.cell? ⟨b, off + 1, none⟩ = some (.int .u8 (L.getD (6 * i + 1) 0)) := by have := q 1 0 (by omega) (by omega); simpa [List.getD_eq_getElem?_getD] using this
      have x0 := HY.out.at (6 * i)
      have x1 := HY.out.at (6 * i + 1)
      have hor := or256 _ _ x0 x1
      have hzz : setZ L i = (L.getD (6 * i) 0 * 256 + L.getD (6 * i + 1) 0, num L (6 * i + 2)) := rfl
      have hnum : num (L.drop (6 * i + 2)) 0 = num L (6 * i + 2) := num_drop L _ 0
      generalize L.getD (6 * i) 0 = a0 at *
      generalize L.getD (6 * i + 1) 0 = a1 at *
      generalize num L (6 * i + 2) = v at *
      have hv := num_rng (HY.out.drop (6 * i + 2)) 0
      have HZZ := Lib.hid hzz
      have HN := Lib.hid hnum
      obtain ⟨a00, a01⟩ := x0
      obtain ⟨a10, a11⟩ := x1
      have hn0 : (0 : Int) < (n' : Int) := by omega
      have hn1 : (1 : Int) < (n' : Int) := by omega
      have hb1 : b < wr.heap.size := gb
      have hl2 : 4 ≤ (L.drop (6 * i + 2)).length := by have := HL.out; simp; omega
      clear hzz hnum q hc hL'
      go_upto_region 7 with fail
      go_cut [7] (fun s7 wx => ∃ G : Nat, s7 = .pointer (some ⟨G, 0, none⟩) ∧ G < wx.heap.size ∧ wx.cell? ⟨G, 0, none⟩ = some (.int .i64 (a0 * 256 + a1)) ∧ wx.cell? ⟨G, 1, none⟩ = some (.int .i64 v) ∧ Below wr.heap.size wr wx)
      case first =>
        have hw0 : IntKind.i64.wrap a0 = a0 := by simp [IntKind.wrap, IntKind.bits, IntKind.signed]; omega
        have hw1 : IntKind.i64.wrap a1 = a1 := by simp [IntKind.wrap, IntKind.bits, IntKind.signed]; omega
        have hw2 : IntKind.i64.wrap (a0 * 256) = a0 * 256 := by simp [IntKind.wrap, IntKind.bits, IntKind.signed]; omega
        have hDa : ∀ w1, Below wr.drew.heap.size wr.drew w1 → Below wr.heap.size wr w1 := fun w1 h => Below.trans (by go_grown) h
        have hDb : ∀ w1, Below (wr.alloc (.cells #[.int .i64 0, .int .i64 0] 29)).drew.heap.size (wr.alloc (.cells #[.int .i64 0, .int .i64 0] 29)).drew w1 → Below wr.heap.size wr w1 := fun w1 h => Below.trans (by go_grown) (h.mono (show wr.heap.size ≤ (wr.alloc (.cells #[.int .i64 0, .int .i64 0] 29)).heap.size from Nat.le_of_lt (lt_alloc _ _)))
        have hDn : ∀ w1, Below (wr.alloc (.cells #[.int .i64 0, .int .i64 0] 29)).drew.heap.size (wr.alloc (.cells #[.int .i64 0, .int .i64 0] 29)).drew w1 → wr.heap.size < w1.heap.size ∧ w1.cell? ⟨wr.heap.size, 0, none⟩ = some (.int .i64 0) ∧ w1.cell? ⟨wr.heap.size, 1, none⟩ = some (.int .i64 0) ∧ w1.frozen? ⟨wr.heap.size, 0, none⟩ = false ∧ w1.frozen? ⟨wr.heap.size, 1, none⟩ = false := fun w1 h => ⟨(new_kept h).lt, (new_kept h).cell 0, (new_kept h).cell 1, (new_kept h).frozen 0, (new_kept h).frozen 1⟩
        go_region_held3 (fun wx => wx.cell? ⟨b, off, none⟩ = some (.int .u8 a0) ∧ wx.cell? ⟨b, off + 1, none⟩ = some (.int .u8 a1)) (refine ⟨?_, ?_⟩ <;> first | assumption | go_simp) ((go_at_call 28; refine (number_any _ (L.drop (6 * i + 2)) _ (HS2.out.below (by go_grown) (Nat.le_refl _)) (HY.out.drop _) hl2).mono ?_; rintro e w1 ⟨rfl, hD1⟩; rw [HN.out]; (first | have hB1 := hDa _ hD1 | have hB1 := hDb _ hD1); have e0' : w1.cell? ⟨b, off, none⟩ = some (.int .u8 a0) := (hB1.cell (p := ⟨b, off, none⟩) gb).trans e0; have e1' : w1.cell? ⟨b, off + 1, none⟩ = some (.int .u8 a1) := (hB1.cell (p := ⟨b, off + 1, none⟩) gb).trans e1; have hs1 := hB1.size; have hb2 : b < w1.heap.size := Nat.lt_of_lt_of_le gb hs1; (first | have tt := hDn _ hD1 | have tt := trivial); (first | have t4 := tt.1 | skip); (first | have t0 := tt.2.1 | skip); (first | have t1 := tt.2.2.1 | skip); (first | have t2 := tt.2.2.2.1 | skip); (first | have t3 := tt.2.2.2.2 | skip); clear tt))
        all_goals
          go_wp2_with fail
          go_meet
          first
          | exact ⟨w1.heap.size, rfl, by go_size, by go_simp, by go_simp, by go_grown⟩
          | exact ⟨wr.heap.size, rfl, by go_size, by go_simp, by go_simp, by go_grown⟩
      case rest =>
      obtain ⟨G, rfl, hGl, g0, g1, hBx⟩ := hcut
      have hsx := hBx.size
      have HPc := Lib.hid (HPr.out.below hBx (by omega))
      have HZc := Lib.hid (HZr.out.below hBx (by omega))
      have HXc := Lib.hid (HXr.out.below hBx (by omega))
      have HOc := Lib.hid (own_below HOr.out hBx)
      have hBc : Below g w wc := hBr.trans (hBx.mono (by omega))
      clear HPr HZr HXr HOr HBr HS2 hrun2 hBx hBr
      obtain ⟨c, hcv⟩ : ∃ c, svalue (a0 * 256 + a1) v = c := ⟨_, rfl⟩
      obtain ⟨ff, hff⟩ : ∃ ff, n / 6 - i = ff + 1 := ⟨n / 6 - i - 1, by omega⟩
      have hres := HRes.out
      rw [hff, setGo, HZZ.out] at hres
      simp only [hcv] at hres
      have HCV := Lib.hid hcv
      clear hcv HRes
      by_cases hc0 : c = 0
      · subst hc0
        rw [if_neg (fun h => h rfl)] at hres
        have HRn : Hid (setGo ty fl st L (n / 6 - (i + 1)) (i + 1) = res) := Lib.hid (by rw [show n / 6 - (i + 1) = ff by omega]; exact hres)
        clear hres
        obtain ⟨Av, cv, rfl⟩ := own_form HOc.out
        go_wp2_with (first
          | (go_at_call 11; refine (value_any _ _ _).mono ?_; rintro e w3 ⟨rfl, hB3⟩; rw [HCV.out]; have hs3 := hB3.size; have c10 : w3.cell? ⟨g + 1, 10, none⟩ = some (.slice Av i cv) := (HPc.out.below hB3 (by omega)).cell 10; have g0' : w3.cell? ⟨G, 0, none⟩ = some (.int .i64 (a0 * 256 + a1)) := (hB3.cell (p := ⟨G, 0, none⟩) hGl).trans g0; have g1' : w3.cell? ⟨G, 1, none⟩ = some (.int .i64 v) := (hB3.cell (p := ⟨G, 1, none⟩) hGl).trans g1; have HP3 := Lib.hid (HPc.out.below hB3 (by omega)); have HZ3 := Lib.hid (HZc.out.below hB3 (by omega)); have HX3 := Lib.hid (HXc.out.below hB3 (by omega)); have HO3 := Lib.hid (own_below HOc.out hB3); have hB3g : Below g w w3 := hBc.trans (hB3.mono (by omega)))
          | (at_builtin
             refine wpList_append_src rfl (.tmp 58) (.tmp 60) 30 rfl V.heap.size 29 i0 _ 2 16 Try.underlying30 hi hz0 hz1 hz2 rfl (by decide) (.slice Av i cv) i _ rfl (HO3.out.alloc _) (some ⟨w3.heap.size, 0, none⟩) 1 1 [.int .i64 (a0 * 256 + a1), .int .i64 v] rfl (by simp) rfl (news_one w3 29 _ _) (by simp [Value.oneCell']) ?a4 ?a5 ?a6 ?_
             (case a4 => unfold maxLen; omega)
             (case a5 => omega)
             (case a6 => simp only [World.size_alloc]; omega)
             intro va wa hown1 hg1
             have hBa : Below V.heap.size w3 wa := Below.grown ((below_self w3 _).mono (by omega)) hg1 (by simp only [World.size_alloc]; omega) (fun q hq => (HO3.out.lt q hq).1)
             have hBa2 : Below w3.heap.size w3 wa ∨ True := Or.inr trivial
             have hown2 : wa.ownsRow V.heap.size 29 2 va (i + 1) (rowsOf (SV (setZ L)) 2 (i + 1)) := by rw [← rows_snocS, HZZ.out]; exact hown1
             obtain ⟨Aw, cw, rfl⟩ := own_form hown2
             have HOa := Lib.hid hown2
             have HPa := Lib.hid (HP3.out.below hBa (by omega))
             have HZa := Lib.hid (HZ3.out.below hBa (by omega))
             have HXa := Lib.hid (HX3.out.below hBa (by omega))
             have ca : wa.cell? ⟨g + 1, 10, none⟩ = some (.slice Av i cv) := HPa.out.cell 10
             have za : wa.frozen? ⟨g + 1, 10, none⟩ = false := HPa.out.frozen 10
             have hsa : w3.heap.size ≤ wa.heap.size := by have h := hg1.size; simp only [World.size_alloc] at h; omega
             have hBga : Below g w wa := hB3g.trans (hBa.mono (by omega))
             clear hown1 hown2 hg1))
        go_roundw
        case rel => exact ⟨i + 1, A6, n6, c6, .slice Aw (i + 1) cw, rfl, hn6, HS6, HRn, Lib.hid (ownsRow_setCell_below HOa.out (show g + 1 < V.heap.size by omega) _), Lib.hid (HPa.out.put 10 (.slice Aw (i + 1) cw)), Lib.hid (HZa.out.far (by simp) _), Lib.hid (HXa.out.far (by simp) _), by simp only [World.size_setCell]; omega, hBga.setCell (by simp) _⟩
        case measure => simp; omega
      · rw [if_pos hc0] at hres
        subst hres
        have hcn : (c != 0) = true := by simpa using hc0
        clear hc0
        go_wp2_with (first
          | (go_at_call 11; refine (value_any _ _ _).mono ?_; rintro e w3 ⟨rfl, hB3⟩; rw [HCV.out]; have hs3 := hB3.size; have HZ3 := Lib.hid (HZc.out.below hB3 (by omega)); have HX3 := Lib.hid (HXc.out.below hB3 (by omega)))
          | (go_at_call 24; refine (conn_any c _).mono ?_; rintro e w9 ⟨rfl, hB9⟩; have hs9 := hB9.size; have HZ9 := Lib.hid (HZ3.out.below hB9 (by omega)); have HX9 := Lib.hid (HX3.out.below hB9 (by omega)))
          | (refine wpList_store_row rfl 45 (.tmp 4) (.tmp 54) rfl (g + 2) rfl zP rfl 45 _ HZ9.out rfl (by kernel_rfl) (by simp [Value.oneCell']) ?_; intro x1 hx1 gx1 sx1; have HXx := Lib.hid (HX9.out.grown gx1 (by simp)))
          | (refine wpList_store_row rfl 47 (.tmp 5) (.tmp 56) rfl (g + 3) rfl #[.int .i64 2, .int .i64 c, .int .i64 0] rfl 47 _ HXx.out rfl (by kernel_rfl) (by simp [Value.oneCell']) ?_; intro x2 hx2 gx2 sx2))
        have hgo := HG.out
        subst hgo
        refine bodyPost_ret (results_cc rfl _ (w.heap.size + 2) (w.heap.size + 3) 45 47 _ _ _ _ rfl (hx1.grown gx2 (by simp)) Try.underlying45 rfl (by kernel_rfl) rfl hx2 Try.underlying47 rfl (by kernel_rfl)) rfl ⟨⟨_, rfl, isP_zero _ _⟩, ((((hBc.trans (hB3.mono (by omega))).trans (hB9.mono (by omega))).grown gx1 (by omega) (fun q hq => by cases hq; omega)).grown gx2 (by omega) (fun q hq => by cases hq; omega))⟩
    · obtain rfl : n' = 0 := by omega
      have hin' : 6 * i = n := by omega
      obtain ⟨Av, cv, rfl⟩ := own_form HOr.out
      have hres := HRes.out
      rw [show n / 6 - i = 0 by omega] at hres
      have hk2 : flag fl 1 = false := hk
      unfold setGo at hres
      rw [hk2] at hres
      subst hres
      have HPe := HPr
      have HZe := HZr
      have HXe := HXr
      have hBe := hBr
      clear HPr HZr HXr hBr
      go_wp2_with (first
        | (refine wpList_load_row rfl 45 (.tmp 3) rfl (g + 1) rfl 45 _ _ _ HPe.out Try.underlying45 rfl (by kernel_rfl) ?_)
        | (refine wpList_store_row rfl 45 (.tmp 4) (.tmp 63) rfl (g + 2) rfl #[.int .i64 ty, .int .i64 st, .bool false, .bool false, .bool false, .slice none 0 0, .int .i64 0, .int .i64 0, .int .i64 0, .int .i64 0, .slice Av i cv] rfl 45 _ HZe.out rfl (by kernel_rfl) (by simp [Value.oneCell']) ?_; intro x1 hx1 gx1 sx1; have HXx := Lib.hid (HXe.out.grown gx1 (by simp)))
        | (refine wpList_store_row rfl 47 (.tmp 5) (.tmp 64) rfl (g + 3) rfl zB rfl 47 _ HXx.out rfl (by kernel_rfl) (by simp [Value.oneCell']) ?_; intro x2 hx2 gx2 sx2))
      have hgo := HG.out
      subst hgo
      refine bodyPost_ret (results_cc rfl _ (w.heap.size + 2) (w.heap.size + 3) 45 47 _ _ _ _ rfl (hx1.grown gx2 (by simp)) Try.underlying45 rfl (by kernel_rfl) rfl hx2 Try.underlying47 rfl (by kernel_rfl)) rfl ⟨⟨_, rfl, ⟨.slice none 0 0, .slice Av i cv, rfl, World.ownsRow_nil _ _ _ _, (own_grown (own_grown HOr.out gx1 (by omega)) gx2 (by omega)).mono (by omega)⟩⟩, ((hBe.grown gx1 (by omega) (fun q hq => by cases hq; omega)).grown gx2 (by omega) (fun q hq => by cases hq; omega))⟩
theorem sett_any (ty fl st : Int) (v : Value) (L : List Int) (w : World) (hR : BS w v L) (hb : Byt L) (hn : L.length ≤ 1099511627776) :
    Calls Try.prog 29 #[.agg (fC ty fl st v), .agg (pB ty st)] w fun e w' => Ans w.heap.size (setF ty fl st L) e w' ∧ Below w.heap.size w w' := by
  obtain ⟨A, cap, rfl, _⟩ := id hR
  unfold setF
  cases hk : flag fl 1 with
  | true =>
    by_cases h0 : 0 < L.length
    · rw [if_pos (.inl ⟨rfl, h0⟩)]; exact set_bad1 ty fl st A _ cap L w hR rfl hb hn hk h0
    · rw [if_neg (by omega)]; exact set_ok0 ty fl st A _ cap L w hR rfl hb hn hk _ rfl (by omega)
  | false =>
    by_cases h6 : L.length % 6 = 0
    · rw [if_neg (by simp [h6])]; exact set_ok ty fl st A _ cap L w hR rfl hb hn hk _ rfl h6
    · rw [if_pos (.inr h6)]; exact set_bad2 ty fl st A _ cap L w hR rfl hb hn hk h6

end Go.Proofs.Ytdlmocjkhkopgaa.Sh
