/- ShapePads. -/
import Derived.Test.YtolpfbdklcjlkaaPlain
namespace Go.Proofs.Ytolpfbdklcjlkaa
open Go.ChangeShapes Go.WideShapes Go.ChangeAt Go.RowKit
set_option linter.unusedVariables false
set_option linter.unusedSimpArgs false

theorem pad_len (p m : Int) (B : List Int) (h0 : 0 ≤ p) : ((B ++ List.replicate p.toNat m).length : Int) - p = B.length := by simp; omega
theorem pad_take (p m : Int) (B : List Int) (h0 : 0 ≤ p) : (B ++ List.replicate p.toNat m).take (((B ++ List.replicate p.toNat m).length : Int) - p).toNat = B := by
  rw [pad_len p m B h0]; simp
theorem right_pad (ty fl K : Int) (L : List Int) (t0 : 0 ≤ ty) (t1 : ty ≤ 9) (f0 : 0 ≤ fl) (f1 : fl ≤ 255) (k0 : 1 ≤ K) (k1 : K ≤ 2147483647) (hl : L.length ≤ 1000) : rightB ty fl K L.length = true := by
  unfold rightB; apply decide_eq_true; omega
theorem mis_low (ty K : Int) (h : ty = 0 ∨ ty = 1) (k0 : 1 ≤ K) : misB ty K = false := by
  unfold misB; rw [if_neg (by omega), if_neg (by omega), if_neg (by omega)]; simp; omega
/-- Any DATA or HEADERS with a flag's bits told. -/
theorem of_data_is (fl K : Int) (L B : List Int) (p : Int) (e : Bool) (f0 : 0 ≤ fl) (f1 : fl ≤ 255) (k0 : 1 ≤ K) (k1 : K ≤ 2147483647) (hl : L.length ≤ 1000) (R : List Int) (hp : padF fl L = some (p, R)) (he : flag fl 1 = e) (hR : ¬ (R.length : Int) < p) (hB : R.take ((R.length : Int) - p).toNat = B) :
    ofF 0 fl K L = (⟨0, K, e, false, false, B, 0, 0, 0, (L.length : Int), 0, fun _ => (0, 0)⟩, (0, 0, 0)) := by
  unfold ofF
  rw [if_neg (by rw [right_pad 0 fl K L (by decide) (by decide) f0 f1 k0 k1 hl]; simp), if_neg (by rw [mis_low 0 K (.inl rfl) k0]; simp), if_pos rfl]
  unfold dataF
  rw [hp]
  show (if (R.length : Int) < p then _ else _) = _
  rw [if_neg hR, he, hB]
  rfl
theorem of_head_is (fl K : Int) (L B : List Int) (p : Int) (e : Bool) (f0 : 0 ≤ fl) (f1 : fl ≤ 255) (k0 : 1 ≤ K) (k1 : K ≤ 2147483647) (hl : L.length ≤ 1000) (R : List Int) (hp : padF fl L = some (p, R)) (he : flag fl 1 = e) (h4 : flag fl 4 = false) (h32 : flag fl 32 = false) (hR : ¬ (R.length : Int) < p) (hB : R.take ((R.length : Int) - p).toNat = B) :
    ofF 1 fl K L = (⟨1, K, e, false, false, B, 0, 0, 0, 0, 0, fun _ => (0, 0)⟩, (0, 0, 0)) := by
  unfold ofF
  rw [if_neg (by rw [right_pad 1 fl K L (by decide) (by decide) f0 f1 k0 k1 hl]; simp), if_neg (by rw [mis_low 1 K (.inr rfl) k0]; simp), if_neg (by decide), if_pos rfl]
  unfold headersF
  rw [hp]
  show (if flag fl 32 = true then _ else headF 1 fl K p R) = _
  rw [if_neg (by rw [h32]; simp)]
  unfold headF
  rw [if_neg hR, he, h4, hB]
  rfl
theorem padF_no (fl : Int) (L : List Int) (h : flag fl 8 = false) : padF fl L = some (0, L) := by unfold padF; rw [if_pos h]
theorem padF_yes (fl p : Int) (R : List Int) (h : flag fl 8 = true) : padF fl (p :: R) = some (p, R) := by unfold padF; rw [if_neg (by rw [h]; simp)]
theorem rep_snoc (B : List Int) (p m : Int) (i : Nat) : p :: (B ++ List.replicate i m) ++ [m] = p :: (B ++ List.replicate (i + 1) m) := by
  rw [List.replicate_succ', ← List.append_assoc]
  rfl
theorem news1 (w : World) (a : Value) : ∀ ad, some (⟨w.heap.size, 0, none⟩ : Addr) = some ad → ∀ j u, [a][j]? = some u → (w.alloc (.cells #[a] 5)).cell? (ad.add j) = some u := fun ad h j u hu => by
  cases h
  rw [add_plain, Nat.zero_add, (Blk.new w 5 #[a]).cell]
  simpa using hu
set_option maxHeartbeats 8000000 in
set_option maxRecDepth 100000 in
theorem pads_heb (s p m K : Int) (A : Option Addr) (len cap : Nat) (L : List Int) (w : World) (s0 : -9223372036854775808 ≤ s) (s1 : s ≤ 9223372036854775807) (p0 : 0 ≤ p) (p1 : p ≤ 255) (m0 : 0 ≤ m) (m1 : m ≤ 255)
    (hR : BS w (.slice A len cap) L) (hln : L.length = len) (hb : Byt L) (hk : wit s 1 2147483647 = K) (hlen : 300 < len) :
    Calls Try.prog 6 #[.bool true, .bool true, .int .i64 s, .slice A len cap, .int .u8 p, .int .u8 m] w fun e w' => e = .returned (.bool true) ∧ Below w.heap.size w w' := by
  have k0 : 1 ≤ K := by rw [← hk]; exact wit_lo s 1 2147483647 (by decide)
  have k1 : K ≤ 2147483647 := by rw [← hk]; exact wit_hi s 1 2147483647 (by decide)
  obtain ⟨A2, n2, c2, hrun, hv⟩ := run_to hR 300 (by omega) (by omega)
  have hlen' : (300 : Int) < (len : Int) := by omega
  obtain ⟨B, hBB⟩ : ∃ B, L.take (300 : Int).toNat = B := ⟨_, rfl⟩
  rw [hBB] at hv
  have hyB : Byt B := fun x hx => hb x (by rw [← hBB] at hx; exact List.mem_of_mem_take hx)
  have hnB : B.length ≤ 300 := by rw [← hBB]; simp; omega
  have hn2 : B.length = n2 := by obtain ⟨_, _, he, _⟩ := id hv; cases he; rfl
  clear hBB hR
  clear hlen hln hb
  have hG : (B ++ List.replicate p.toNat m).length = B.length + p.toNat := by simp
  have ho1 := of_head_is 1 K B B 0 true (by decide) (by decide) k0 k1 (by omega) B (padF_no 1 B (by decide)) (by decide) (by decide) (by decide) (by omega) (by simp)
  have ho2 := of_head_is 9 K (p :: (B ++ List.replicate p.toNat m)) B p true (by decide) (by decide) k0 k1 (by simp; omega) _ (padF_yes 9 p _ (by decide)) (by decide) (by decide) (by decide) (by rw [hG]; omega) (pad_take p m B p0)
  have hyG : Byt (p :: (B ++ List.replicate p.toNat m)) := fun x hx => by
    rcases List.mem_cons.1 hx with rfl | h
    · exact ⟨p0, p1⟩
    · rcases List.mem_append.1 h with h | h
      · exact hyB x h
      · rw [(List.mem_replicate.1 h).2]; exact ⟨m0, m1⟩
  have HO1 := Lib.hid ho1
  have HO2 := Lib.hid ho2
  have HYB := Lib.hid hyB
  have HYG := Lib.hid hyG
  have HV := Lib.hid hv
  have HN2 := Lib.hid hn2
  rw [hn2] at hnB
  clear ho1 ho2 hyB hyG hv hn2 hG
  have hor : bits .or .i64 1 8 = 9 := by decide
  obtain ⟨i0, hi, hz0, hz1, hz2⟩ := info_parts info5
  go_enter Try.func6, Try.ntmps6
  go_upto_region 10 with (go_at_call 17; refine (wit_any _ _ _ _ (by decide) (by decide) (by decide) (by omega) (by omega)).mono ?_; rintro e w0 ⟨rfl, rfl⟩; rw [hk])
  refine wp_forget (fun W => Below w.heap.size w W ∧ Hid (Blk W w.heap.size 32 (fC 1 1 K (.slice A2 n2 c2))) ∧ Hid (Blk W (w.heap.size + 1) 32 (fC 1 9 K (.slice A2 n2 c2)))) ⟨by go_grown, Lib.hid ((Blk.new _ _ _).alloc _), Lib.hid (Blk.new_at (by go_size))⟩ ?_
  rintro W ⟨hA, HF, HG⟩
  clear hk
  have hAs := hA.size
  have hlg := HG.out.lt
  have HSV := Lib.hid (bs_src (HV.out.below (hA.trans ((below_self W (.cells #[.int .u8 p] 5)).mono hAs)) (Nat.le_refl _)))
  go_wp2_with (at_builtin
               refine wpList_append_src rfl (.tmp 40) (.tmp 41) 22 rfl W.heap.size 5 i0 _ 1 1 Try.underlying22 hi hz0 hz1 hz2 rfl (by decide) (.slice (some ⟨W.heap.size, 0, none⟩) 1 1) 1 [.int .u8 p] rfl (World.ownsRow_lit (base := W.heap.size) W #[.int .u8 p] 1 (Nat.le_refl _) (by decide) rfl) A2 n2 c2 (bv B) rfl HSV.out.2.1 (by rw [bv_len, HN2.out, Nat.mul_one]) HSV.out.2.2 (bv_one _) ?a4 ?a5 ?a6 ?_
               (case a4 => unfold maxLen; omega)
               (case a5 => omega)
               (case a6 => simp only [World.size_alloc]; omega)
               intro va wa hown1 hg1
               have hown2 : wa.ownsRow W.heap.size 5 1 va (n2 + 1) (bv (p :: (B ++ List.replicate 0 m))) := by
                 have h := hown1
                 rw [Nat.add_comm] at h
                 rw [List.replicate_zero, List.append_nil]
                 exact h
               have hBa : Below W.heap.size W wa := (below_self W _).grown hg1 (by simp only [World.size_alloc]; omega) (by intro q hq; simp [Value.ownBlock] at hq; omega)
               obtain ⟨Av, cv, rfl⟩ := own_form hown2
               have HO := Lib.hid hown2
               have hBas := hBa.size
               have HFa := Lib.hid (HF.out.below hBa (by omega))
               have HGa := Lib.hid (HG.out.below hBa hlg)
               have ca : wa.cell? ⟨w.heap.size + 1, 3, none⟩ = some (.slice A2 n2 c2) := HGa.out.cell 3
               have za : wa.frozen? ⟨w.heap.size + 1, 3, none⟩ = false := HGa.out.frozen 3
               have hAa : Below w.heap.size w wa := hA.trans (hBa.mono hAs)
               clear hown1 hown2 hg1)
  go_loopw [15] (fun s15 wr => ∃ (i : Nat) (va : Value), s15 = .int .i64 i ∧ (i : Int) ≤ p ∧ Hid (Blk wr w.heap.size 32 (fC 1 1 K (.slice A2 n2 c2))) ∧ Hid (Blk wr (w.heap.size + 1) 32 (fC 1 9 K va)) ∧ Hid (wr.ownsRow W.heap.size 5 1 va (n2 + 1 + i) (bv (p :: (B ++ List.replicate i m)))) ∧ Below w.heap.size w wr ∧ W.heap.size ≤ wr.heap.size) (fun s15 _ => p.toNat - (intOf s15).toNat)
  case atStart => exact ⟨0, .slice Av (n2 + 1) cv, rfl, p0, Lib.hid (HFa.out.far (by simp) _), Lib.hid (HGa.out.put 3 (.slice Av (n2 + 1) cv)), Lib.hid (ownsRow_setCell_below HO.out (show w.heap.size + 1 < W.heap.size from hlg) _), hAa.setCell (by simp) _, by simp only [World.size_setCell]; exact hBas⟩
  case round =>
    obtain ⟨i, va, rfl, hip, HFr, HGr, HOr, hBr, hsr⟩ := hrel
    have hbr := hBr.size
    obtain ⟨Av', cv', rfl⟩ := own_form HOr.out
    have g3 : wr.cell? ⟨w.heap.size + 1, 3, none⟩ = some (.slice Av' (n2 + 1 + i) cv') := HGr.out.cell 3
    by_cases hlt : (i : Int) < p
    · go_wp2_with (at_builtin
                   refine wpList_append_src rfl (.tmp 51) (.tmp 53) 22 rfl W.heap.size 5 i0 _ 1 1 Try.underlying22 hi hz0 hz1 hz2 rfl (by decide) (.slice Av' (n2 + 1 + i) cv') (n2 + 1 + i) _ rfl (HOr.out.alloc _) (some ⟨wr.heap.size, 0, none⟩) 1 1 [.int .u8 m] rfl (fun h => by cases h) rfl (news1 wr _) (by simp [Value.oneCell']) ?a4 ?a5 ?a6 ?_
                   (case a4 => unfold maxLen; omega)
                   (case a5 => omega)
                   (case a6 => simp only [World.size_alloc]; omega)
                   intro vb wb hown1 hg1
                   have hown2 : wb.ownsRow W.heap.size 5 1 vb (n2 + 1 + (i + 1)) (bv (p :: (B ++ List.replicate (i + 1) m))) := by
                     rw [← rep_snoc, ← bv_app]
                     exact hown1
                   have hBb : Below W.heap.size wr wb := Below.grown ((below_self wr _).mono hsr) hg1 (by simp only [World.size_alloc]; omega) (fun q hq => (HOr.out.lt q hq).1)
                   obtain ⟨Aw, cw, rfl⟩ := own_form hown2
                   have HOb := Lib.hid hown2
                   have HFb := Lib.hid (HFr.out.below hBb (by omega))
                   have HGb := Lib.hid (HGr.out.below hBb hlg)
                   have cb3 : wb.cell? ⟨w.heap.size + 1, 3, none⟩ = some (.slice Av' (n2 + 1 + i) cv') := HGb.out.cell 3
                   have zb3 : wb.frozen? ⟨w.heap.size + 1, 3, none⟩ = false := HGb.out.frozen 3
                   have hAb : Below w.heap.size w wb := hBr.trans (hBb.mono (by omega))
                   have hsb : W.heap.size ≤ wb.heap.size := by have h := hg1.size; simp only [World.size_alloc] at h; omega
                   clear hown1 hown2 hg1)
      go_roundw
      case rel => exact ⟨i + 1, .slice Aw (n2 + 1 + (i + 1)) cw, by go_num, by omega, Lib.hid (HFb.out.far (by simp) _), Lib.hid (HGb.out.put 3 (.slice Aw (n2 + 1 + (i + 1)) cw)), Lib.hid (ownsRow_setCell_below HOb.out (show w.heap.size + 1 < W.heap.size from hlg) _), hAb.setCell (by simp) _, by simp only [World.size_setCell]; exact hsb⟩
      case measure => simp [intOf]; omega
    · obtain rfl : i = p.toNat := by omega
      have HBG := Lib.hid (bs_own HOr.out (by simp; have := HN2.out; omega))
      generalize n2 + 1 + p.toNat = ng at *
      have hVr := HV.out.below hBr (Nat.le_refl _)
      have HVr := Lib.hid hVr
      clear hVr hlt hip
      have a0 : wr.cell? ⟨w.heap.size, 0, none⟩ = some (.int .i64 1) := HFr.out.cell 0
      have a1 : wr.cell? ⟨w.heap.size, 1, none⟩ = some (.int .i64 1) := HFr.out.cell 1
      have a2 : wr.cell? ⟨w.heap.size, 2, none⟩ = some (.int .i64 K) := HFr.out.cell 2
      have a3 : wr.cell? ⟨w.heap.size, 3, none⟩ = some (.slice A2 n2 c2) := HFr.out.cell 3
      go_upto_region 16 with (go_at_call 10; refine (of_is 1 1 K _ B _ HVr.out HYB.out _ _ _ _ _ _ _ _ _ _ _ _ _ _ _ HO1).mono ?_; rintro e w1 ⟨⟨Ab1, cb1, As1, cs1, rfl, hob1, hsv1⟩, hB1⟩; have hs1 := hB1.size; have hob1' := bs_own hob1 rfl; have HGw := Lib.hid (HGr.out.below hB1 (by omega)))
      have hAw := hBr.trans (hB1.mono hbr)
      have hsw := hAw.size
      have HBGw := Lib.hid (HBG.out.below hB1 (Nat.le_refl _))
      refine wp_forget (fun W => Below w.heap.size w W ∧ w1.heap.size + 1 < W.heap.size ∧ Hid (Blk W (w.heap.size + 1) 32 (fC 1 9 K (.slice Av' ng cv'))) ∧ Hid (Blk W w1.heap.size 26 #[.int .i64 1, .int .i64 K, .bool true, .bool false, .bool false, .slice Ab1 B.length cb1, .int .i64 0, .int .i64 0, .int .i64 0, .int .i64 0, .slice As1 0 cs1]) ∧ Hid (Blk W (w1.heap.size + 1) 28 #[.int .i64 0, .int .i64 0, .int .i64 0]) ∧ Hid (BS W (.slice Ab1 B.length cb1) B) ∧ Hid (Rowy W (.slice As1 0 cs1) 0 2 (SV fun _ => (0, 0))) ∧ Hid (BS W (.slice Av' ng cv') (p :: (B ++ List.replicate p.toNat m)))) ⟨by go_grown, by go_size, Lib.hid ((HGw.out.alloc _).alloc _), Lib.hid ((Blk.new _ _ _).alloc _), Lib.hid (Blk.new_at (by go_size)), Lib.hid (hob1'.below (by go_grown) (Nat.le_refl _)), Lib.hid ((rowy_own hsv1).below (by go_grown) (Nat.le_refl _)), Lib.hid (HBGw.out.below (by go_grown) (Nat.le_refl _))⟩ ?_
      clear HGw hAw hsw HBGw hob1' hob1 hsv1 hB1 hs1 HGr HFr HOr HVr HBG hBr hbr hsr g3 a0 a1 a2 a3
      rintro W4 ⟨hA4, hl4, HG4, HP1, HX1, HD1, HS1, HBG4⟩
      generalize w1.heap.size = gp at *
      have hs4 := hA4.size
      have hlG := HG4.out.lt
      have a0 : W4.cell? ⟨w.heap.size + 1, 0, none⟩ = some (.int .i64 1) := HG4.out.cell 0
      have a1 : W4.cell? ⟨w.heap.size + 1, 1, none⟩ = some (.int .i64 9) := HG4.out.cell 1
      have a2 : W4.cell? ⟨w.heap.size + 1, 2, none⟩ = some (.int .i64 K) := HG4.out.cell 2
      have a3 : W4.cell? ⟨w.heap.size + 1, 3, none⟩ = some (.slice Av' ng cv') := HG4.out.cell 3
      go_upto_region 17 with (go_at_call 10; refine (of_is 1 9 K _ (p :: (B ++ List.replicate p.toNat m)) _ HBG4.out HYG.out _ _ _ _ _ _ _ _ _ _ _ _ _ _ _ HO2).mono ?_; rintro e w2 ⟨⟨Ab2, cb2, As2, cs2, rfl, hob2, hsv2⟩, hB2⟩; have hs2 := hB2.size; have hob2' := bs_own hob2 rfl; have hP1' := HP1.out.below hB2 (by omega); have hX1' := HX1.out.below hB2 (by omega); have hD1' := HD1.out.below hB2 (Nat.le_refl _); have hS1' := HS1.out.below hB2 (Nat.le_refl _))
      have hAw := hA4.trans (hB2.mono hs4)
      have hsw := hAw.size
      refine wp_forget (fun W => Below w.heap.size w W ∧ w2.heap.size + 1 < W.heap.size ∧ Hid (Blk W gp 26 #[.int .i64 1, .int .i64 K, .bool true, .bool false, .bool false, .slice Ab1 B.length cb1, .int .i64 0, .int .i64 0, .int .i64 0, .int .i64 0, .slice As1 0 cs1]) ∧ Hid (Blk W (gp + 1) 28 #[.int .i64 0, .int .i64 0, .int .i64 0]) ∧ Hid (Blk W w2.heap.size 26 #[.int .i64 1, .int .i64 K, .bool true, .bool false, .bool false, .slice Ab2 B.length cb2, .int .i64 0, .int .i64 0, .int .i64 0, .int .i64 0, .slice As2 0 cs2]) ∧ Hid (Blk W (w2.heap.size + 1) 28 #[.int .i64 0, .int .i64 0, .int .i64 0]) ∧ gp + 1 < w2.heap.size ∧ Below w2.heap.size w2 W) ⟨by go_grown, by go_size, Lib.hid ((hP1'.alloc _).alloc _), Lib.hid ((hX1'.alloc _).alloc _), Lib.hid ((Blk.new _ _ _).alloc _), Lib.hid (Blk.new_at (by go_size)), by omega, by go_grown⟩ ?_
      have HE1 := Lib.hid hD1'
      have HT1 := Lib.hid hS1'
      have HE2 := Lib.hid hob2'
      have HT2 := Lib.hid (rowy_own hsv2)
      clear hAw hob2' hob2 hsv2 hB2 hs2 HG4 HP1 HX1 HD1 HS1 HBG4 hA4 hl4 hs4 hlG hP1' hX1' hD1' hS1' a0 a1 a2 a3
      rintro W5 ⟨hA5, hl5, HP1, HX1, HP2, HX2, hgg, hBw⟩
      obtain ⟨gq, hgq⟩ : ∃ gq, w2.heap.size = gq := ⟨_, rfl⟩
      have HGQ := Lib.hid hgq
      rw [hgq] at HP2 HX2 hl5 hgg hBw hsw ⊢
      clear hgq
      have hs5 := hA5.size
      have hq1 : gq ≠ gp := by omega
      have a0 : W5.cell? ⟨gp, 0, none⟩ = some (.int .i64 1) := HP1.out.cell 0
      have a1 : W5.cell? ⟨gp, 1, none⟩ = some (.int .i64 K) := HP1.out.cell 1
      have a2 : W5.cell? ⟨gp, 2, none⟩ = some (.bool true) := HP1.out.cell 2
      have a3 : W5.cell? ⟨gp, 3, none⟩ = some (.bool false) := HP1.out.cell 3
      have a4 : W5.cell? ⟨gp, 4, none⟩ = some (.bool false) := HP1.out.cell 4
      have a5 : W5.cell? ⟨gp, 5, none⟩ = some (.slice Ab1 B.length cb1) := HP1.out.cell 5
      have a6 : W5.cell? ⟨gp, 6, none⟩ = some (.int .i64 0) := HP1.out.cell 6
      have a7 : W5.cell? ⟨gp, 7, none⟩ = some (.int .i64 0) := HP1.out.cell 7
      have a8 : W5.cell? ⟨gp, 8, none⟩ = some (.int .i64 0) := HP1.out.cell 8
      have a9 : W5.cell? ⟨gp, 9, none⟩ = some (.int .i64 0) := HP1.out.cell 9
      have a10 : W5.cell? ⟨gp, 10, none⟩ = some (.slice As1 0 cs1) := HP1.out.cell 10
      have b0 : W5.cell? ⟨gp + 1, 0, none⟩ = some (.int .i64 0) := HX1.out.cell 0
      have b1 : W5.cell? ⟨gp + 1, 1, none⟩ = some (.int .i64 0) := HX1.out.cell 1
      have b2 : W5.cell? ⟨gp + 1, 2, none⟩ = some (.int .i64 0) := HX1.out.cell 2
      have d0 : W5.cell? ⟨gq, 0, none⟩ = some (.int .i64 1) := HP2.out.cell 0
      have d1 : W5.cell? ⟨gq, 1, none⟩ = some (.int .i64 K) := HP2.out.cell 1
      have d2 : W5.cell? ⟨gq, 2, none⟩ = some (.bool true) := HP2.out.cell 2
      have d3 : W5.cell? ⟨gq, 3, none⟩ = some (.bool false) := HP2.out.cell 3
      have d4 : W5.cell? ⟨gq, 4, none⟩ = some (.bool false) := HP2.out.cell 4
      have d5 : W5.cell? ⟨gq, 5, none⟩ = some (.slice Ab2 B.length cb2) := HP2.out.cell 5
      have d6 : W5.cell? ⟨gq, 6, none⟩ = some (.int .i64 0) := HP2.out.cell 6
      have d7 : W5.cell? ⟨gq, 7, none⟩ = some (.int .i64 0) := HP2.out.cell 7
      have d8 : W5.cell? ⟨gq, 8, none⟩ = some (.int .i64 0) := HP2.out.cell 8
      have d9 : W5.cell? ⟨gq, 9, none⟩ = some (.int .i64 0) := HP2.out.cell 9
      have d10 : W5.cell? ⟨gq, 10, none⟩ = some (.slice As2 0 cs2) := HP2.out.cell 10
      have x0 : W5.cell? ⟨gq + 1, 0, none⟩ = some (.int .i64 0) := HX2.out.cell 0
      have x1 : W5.cell? ⟨gq + 1, 1, none⟩ = some (.int .i64 0) := HX2.out.cell 1
      have x2 : W5.cell? ⟨gq + 1, 2, none⟩ = some (.int .i64 0) := HX2.out.cell 2
      go_wp2_with (first
        | (go_at_call 12; refine (parts_any _ _ _ _ _ _ _ _ _ _ _ _ _ B 0 (fun _ => (0, 0)) _ (HE1.out.below hBw (Nat.le_of_eq HGQ.out)) (HE2.out.below hBw (Nat.le_of_eq HGQ.out)) (HT1.out.below hBw (Nat.le_of_eq HGQ.out)) (HT2.out.below hBw (Nat.le_of_eq HGQ.out))).mono ?_; rintro e w6 ⟨rfl, hB6⟩; have hA6 : Below w.heap.size w w6 := hA5.trans (hB6.mono hs5); have hs6 := hA6.size)
        | (go_at_call 3; refine (runs_any _).mono ?_; rintro e w7 ⟨rfl, hB7⟩))
      go_ret
      exact ⟨rfl, hA6.trans (hB7.mono hs6)⟩
set_option maxHeartbeats 8000000 in
set_option maxRecDepth 100000 in
theorem pads_hes (s p m K : Int) (A : Option Addr) (len cap : Nat) (L : List Int) (w : World) (s0 : -9223372036854775808 ≤ s) (s1 : s ≤ 9223372036854775807) (p0 : 0 ≤ p) (p1 : p ≤ 255) (m0 : 0 ≤ m) (m1 : m ≤ 255)
    (hR : BS w (.slice A len cap) L) (hln : L.length = len) (hb : Byt L) (hk : wit s 1 2147483647 = K) (hlen : ¬ 300 < len) :
    Calls Try.prog 6 #[.bool true, .bool true, .int .i64 s, .slice A len cap, .int .u8 p, .int .u8 m] w fun e w' => e = .returned (.bool true) ∧ Below w.heap.size w w' := by
  have k0 : 1 ≤ K := by rw [← hk]; exact wit_lo s 1 2147483647 (by decide)
  have k1 : K ≤ 2147483647 := by rw [← hk]; exact wit_hi s 1 2147483647 (by decide)
  have hlen' : ¬ (300 : Int) < (len : Int) := by omega
  obtain ⟨A2, n2, c2, B, hA2, hv, hyB, hnB, hn2⟩ : ∃ A2 n2 c2 B, (A2 = A ∧ n2 = len ∧ c2 = cap) ∧ BS w (.slice A2 n2 c2) B ∧ Byt B ∧ B.length ≤ 300 ∧ B.length = n2 := ⟨A, len, cap, L, ⟨rfl, rfl, rfl⟩, hR, hb, by omega, hln⟩
  obtain ⟨rfl, rfl, rfl⟩ := hA2
  clear hR
  clear hlen hln hb
  have hG : (B ++ List.replicate p.toNat m).length = B.length + p.toNat := by simp
  have ho1 := of_head_is 1 K B B 0 true (by decide) (by decide) k0 k1 (by omega) B (padF_no 1 B (by decide)) (by decide) (by decide) (by decide) (by omega) (by simp)
  have ho2 := of_head_is 9 K (p :: (B ++ List.replicate p.toNat m)) B p true (by decide) (by decide) k0 k1 (by simp; omega) _ (padF_yes 9 p _ (by decide)) (by decide) (by decide) (by decide) (by rw [hG]; omega) (pad_take p m B p0)
  have hyG : Byt (p :: (B ++ List.replicate p.toNat m)) := fun x hx => by
    rcases List.mem_cons.1 hx with rfl | h
    · exact ⟨p0, p1⟩
    · rcases List.mem_append.1 h with h | h
      · exact hyB x h
      · rw [(List.mem_replicate.1 h).2]; exact ⟨m0, m1⟩
  have HO1 := Lib.hid ho1
  have HO2 := Lib.hid ho2
  have HYB := Lib.hid hyB
  have HYG := Lib.hid hyG
  have HV := Lib.hid hv
  have HN2 := Lib.hid hn2
  rw [hn2] at hnB
  clear ho1 ho2 hyB hyG hv hn2 hG
  have hor : bits .or .i64 1 8 = 9 := by decide
  obtain ⟨i0, hi, hz0, hz1, hz2⟩ := info_parts info5
  go_enter Try.func6, Try.ntmps6
  go_upto_region 10 with (go_at_call 17; refine (wit_any _ _ _ _ (by decide) (by decide) (by decide) (by omega) (by omega)).mono ?_; rintro e w0 ⟨rfl, rfl⟩; rw [hk])
  refine wp_forget (fun W => Below w.heap.size w W ∧ Hid (Blk W w.heap.size 32 (fC 1 1 K (.slice A2 n2 c2))) ∧ Hid (Blk W (w.heap.size + 1) 32 (fC 1 9 K (.slice A2 n2 c2)))) ⟨by go_grown, Lib.hid ((Blk.new _ _ _).alloc _), Lib.hid (Blk.new_at (by go_size))⟩ ?_
  rintro W ⟨hA, HF, HG⟩
  clear hk
  have hAs := hA.size
  have hlg := HG.out.lt
  have HSV := Lib.hid (bs_src (HV.out.below (hA.trans ((below_self W (.cells #[.int .u8 p] 5)).mono hAs)) (Nat.le_refl _)))
  go_wp2_with (at_builtin
               refine wpList_append_src rfl (.tmp 40) (.tmp 41) 22 rfl W.heap.size 5 i0 _ 1 1 Try.underlying22 hi hz0 hz1 hz2 rfl (by decide) (.slice (some ⟨W.heap.size, 0, none⟩) 1 1) 1 [.int .u8 p] rfl (World.ownsRow_lit (base := W.heap.size) W #[.int .u8 p] 1 (Nat.le_refl _) (by decide) rfl) A2 n2 c2 (bv B) rfl HSV.out.2.1 (by rw [bv_len, HN2.out, Nat.mul_one]) HSV.out.2.2 (bv_one _) ?a4 ?a5 ?a6 ?_
               (case a4 => unfold maxLen; omega)
               (case a5 => omega)
               (case a6 => simp only [World.size_alloc]; omega)
               intro va wa hown1 hg1
               have hown2 : wa.ownsRow W.heap.size 5 1 va (n2 + 1) (bv (p :: (B ++ List.replicate 0 m))) := by
                 have h := hown1
                 rw [Nat.add_comm] at h
                 rw [List.replicate_zero, List.append_nil]
                 exact h
               have hBa : Below W.heap.size W wa := (below_self W _).grown hg1 (by simp only [World.size_alloc]; omega) (by intro q hq; simp [Value.ownBlock] at hq; omega)
               obtain ⟨Av, cv, rfl⟩ := own_form hown2
               have HO := Lib.hid hown2
               have hBas := hBa.size
               have HFa := Lib.hid (HF.out.below hBa (by omega))
               have HGa := Lib.hid (HG.out.below hBa hlg)
               have ca : wa.cell? ⟨w.heap.size + 1, 3, none⟩ = some (.slice A2 n2 c2) := HGa.out.cell 3
               have za : wa.frozen? ⟨w.heap.size + 1, 3, none⟩ = false := HGa.out.frozen 3
               have hAa : Below w.heap.size w wa := hA.trans (hBa.mono hAs)
               clear hown1 hown2 hg1)
  go_loopw [15] (fun s15 wr => ∃ (i : Nat) (va : Value), s15 = .int .i64 i ∧ (i : Int) ≤ p ∧ Hid (Blk wr w.heap.size 32 (fC 1 1 K (.slice A2 n2 c2))) ∧ Hid (Blk wr (w.heap.size + 1) 32 (fC 1 9 K va)) ∧ Hid (wr.ownsRow W.heap.size 5 1 va (n2 + 1 + i) (bv (p :: (B ++ List.replicate i m)))) ∧ Below w.heap.size w wr ∧ W.heap.size ≤ wr.heap.size) (fun s15 _ => p.toNat - (intOf s15).toNat)
  case atStart => exact ⟨0, .slice Av (n2 + 1) cv, rfl, p0, Lib.hid (HFa.out.far (by simp) _), Lib.hid (HGa.out.put 3 (.slice Av (n2 + 1) cv)), Lib.hid (ownsRow_setCell_below HO.out (show w.heap.size + 1 < W.heap.size from hlg) _), hAa.setCell (by simp) _, by simp only [World.size_setCell]; exact hBas⟩
  case round =>
    obtain ⟨i, va, rfl, hip, HFr, HGr, HOr, hBr, hsr⟩ := hrel
    have hbr := hBr.size
    obtain ⟨Av', cv', rfl⟩ := own_form HOr.out
    have g3 : wr.cell? ⟨w.heap.size + 1, 3, none⟩ = some (.slice Av' (n2 + 1 + i) cv') := HGr.out.cell 3
    by_cases hlt : (i : Int) < p
    · go_wp2_with (at_builtin
                   refine wpList_append_src rfl (.tmp 51) (.tmp 53) 22 rfl W.heap.size 5 i0 _ 1 1 Try.underlying22 hi hz0 hz1 hz2 rfl (by decide) (.slice Av' (n2 + 1 + i) cv') (n2 + 1 + i) _ rfl (HOr.out.alloc _) (some ⟨wr.heap.size, 0, none⟩) 1 1 [.int .u8 m] rfl (fun h => by cases h) rfl (news1 wr _) (by simp [Value.oneCell']) ?a4 ?a5 ?a6 ?_
                   (case a4 => unfold maxLen; omega)
                   (case a5 => omega)
                   (case a6 => simp only [World.size_alloc]; omega)
                   intro vb wb hown1 hg1
                   have hown2 : wb.ownsRow W.heap.size 5 1 vb (n2 + 1 + (i + 1)) (bv (p :: (B ++ List.replicate (i + 1) m))) := by
                     rw [← rep_snoc, ← bv_app]
                     exact hown1
                   have hBb : Below W.heap.size wr wb := Below.grown ((below_self wr _).mono hsr) hg1 (by simp only [World.size_alloc]; omega) (fun q hq => (HOr.out.lt q hq).1)
                   obtain ⟨Aw, cw, rfl⟩ := own_form hown2
                   have HOb := Lib.hid hown2
                   have HFb := Lib.hid (HFr.out.below hBb (by omega))
                   have HGb := Lib.hid (HGr.out.below hBb hlg)
                   have cb3 : wb.cell? ⟨w.heap.size + 1, 3, none⟩ = some (.slice Av' (n2 + 1 + i) cv') := HGb.out.cell 3
                   have zb3 : wb.frozen? ⟨w.heap.size + 1, 3, none⟩ = false := HGb.out.frozen 3
                   have hAb : Below w.heap.size w wb := hBr.trans (hBb.mono (by omega))
                   have hsb : W.heap.size ≤ wb.heap.size := by have h := hg1.size; simp only [World.size_alloc] at h; omega
                   clear hown1 hown2 hg1)
      go_roundw
      case rel => exact ⟨i + 1, .slice Aw (n2 + 1 + (i + 1)) cw, by go_num, by omega, Lib.hid (HFb.out.far (by simp) _), Lib.hid (HGb.out.put 3 (.slice Aw (n2 + 1 + (i + 1)) cw)), Lib.hid (ownsRow_setCell_below HOb.out (show w.heap.size + 1 < W.heap.size from hlg) _), hAb.setCell (by simp) _, by simp only [World.size_setCell]; exact hsb⟩
      case measure => simp [intOf]; omega
    · obtain rfl : i = p.toNat := by omega
      have HBG := Lib.hid (bs_own HOr.out (by simp; have := HN2.out; omega))
      generalize n2 + 1 + p.toNat = ng at *
      have hVr := HV.out.below hBr (Nat.le_refl _)
      have HVr := Lib.hid hVr
      clear hVr hlt hip
      have a0 : wr.cell? ⟨w.heap.size, 0, none⟩ = some (.int .i64 1) := HFr.out.cell 0
      have a1 : wr.cell? ⟨w.heap.size, 1, none⟩ = some (.int .i64 1) := HFr.out.cell 1
      have a2 : wr.cell? ⟨w.heap.size, 2, none⟩ = some (.int .i64 K) := HFr.out.cell 2
      have a3 : wr.cell? ⟨w.heap.size, 3, none⟩ = some (.slice A2 n2 c2) := HFr.out.cell 3
      go_upto_region 16 with (go_at_call 10; refine (of_is 1 1 K _ B _ HVr.out HYB.out _ _ _ _ _ _ _ _ _ _ _ _ _ _ _ HO1).mono ?_; rintro e w1 ⟨⟨Ab1, cb1, As1, cs1, rfl, hob1, hsv1⟩, hB1⟩; have hs1 := hB1.size; have hob1' := bs_own hob1 rfl; have HGw := Lib.hid (HGr.out.below hB1 (by omega)))
      have hAw := hBr.trans (hB1.mono hbr)
      have hsw := hAw.size
      have HBGw := Lib.hid (HBG.out.below hB1 (Nat.le_refl _))
      refine wp_forget (fun W => Below w.heap.size w W ∧ w1.heap.size + 1 < W.heap.size ∧ Hid (Blk W (w.heap.size + 1) 32 (fC 1 9 K (.slice Av' ng cv'))) ∧ Hid (Blk W w1.heap.size 26 #[.int .i64 1, .int .i64 K, .bool true, .bool false, .bool false, .slice Ab1 B.length cb1, .int .i64 0, .int .i64 0, .int .i64 0, .int .i64 0, .slice As1 0 cs1]) ∧ Hid (Blk W (w1.heap.size + 1) 28 #[.int .i64 0, .int .i64 0, .int .i64 0]) ∧ Hid (BS W (.slice Ab1 B.length cb1) B) ∧ Hid (Rowy W (.slice As1 0 cs1) 0 2 (SV fun _ => (0, 0))) ∧ Hid (BS W (.slice Av' ng cv') (p :: (B ++ List.replicate p.toNat m)))) ⟨by go_grown, by go_size, Lib.hid ((HGw.out.alloc _).alloc _), Lib.hid ((Blk.new _ _ _).alloc _), Lib.hid (Blk.new_at (by go_size)), Lib.hid (hob1'.below (by go_grown) (Nat.le_refl _)), Lib.hid ((rowy_own hsv1).below (by go_grown) (Nat.le_refl _)), Lib.hid (HBGw.out.below (by go_grown) (Nat.le_refl _))⟩ ?_
      clear HGw hAw hsw HBGw hob1' hob1 hsv1 hB1 hs1 HGr HFr HOr HVr HBG hBr hbr hsr g3 a0 a1 a2 a3
      rintro W4 ⟨hA4, hl4, HG4, HP1, HX1, HD1, HS1, HBG4⟩
      generalize w1.heap.size = gp at *
      have hs4 := hA4.size
      have hlG := HG4.out.lt
      have a0 : W4.cell? ⟨w.heap.size + 1, 0, none⟩ = some (.int .i64 1) := HG4.out.cell 0
      have a1 : W4.cell? ⟨w.heap.size + 1, 1, none⟩ = some (.int .i64 9) := HG4.out.cell 1
      have a2 : W4.cell? ⟨w.heap.size + 1, 2, none⟩ = some (.int .i64 K) := HG4.out.cell 2
      have a3 : W4.cell? ⟨w.heap.size + 1, 3, none⟩ = some (.slice Av' ng cv') := HG4.out.cell 3
      go_upto_region 17 with (go_at_call 10; refine (of_is 1 9 K _ (p :: (B ++ List.replicate p.toNat m)) _ HBG4.out HYG.out _ _ _ _ _ _ _ _ _ _ _ _ _ _ _ HO2).mono ?_; rintro e w2 ⟨⟨Ab2, cb2, As2, cs2, rfl, hob2, hsv2⟩, hB2⟩; have hs2 := hB2.size; have hob2' := bs_own hob2 rfl; have hP1' := HP1.out.below hB2 (by omega); have hX1' := HX1.out.below hB2 (by omega); have hD1' := HD1.out.below hB2 (Nat.le_refl _); have hS1' := HS1.out.below hB2 (Nat.le_refl _))
      have hAw := hA4.trans (hB2.mono hs4)
      have hsw := hAw.size
      refine wp_forget (fun W => Below w.heap.size w W ∧ w2.heap.size + 1 < W.heap.size ∧ Hid (Blk W gp 26 #[.int .i64 1, .int .i64 K, .bool true, .bool false, .bool false, .slice Ab1 B.length cb1, .int .i64 0, .int .i64 0, .int .i64 0, .int .i64 0, .slice As1 0 cs1]) ∧ Hid (Blk W (gp + 1) 28 #[.int .i64 0, .int .i64 0, .int .i64 0]) ∧ Hid (Blk W w2.heap.size 26 #[.int .i64 1, .int .i64 K, .bool true, .bool false, .bool false, .slice Ab2 B.length cb2, .int .i64 0, .int .i64 0, .int .i64 0, .int .i64 0, .slice As2 0 cs2]) ∧ Hid (Blk W (w2.heap.size + 1) 28 #[.int .i64 0, .int .i64 0, .int .i64 0]) ∧ gp + 1 < w2.heap.size ∧ Below w2.heap.size w2 W) ⟨by go_grown, by go_size, Lib.hid ((hP1'.alloc _).alloc _), Lib.hid ((hX1'.alloc _).alloc _), Lib.hid ((Blk.new _ _ _).alloc _), Lib.hid (Blk.new_at (by go_size)), by omega, by go_grown⟩ ?_
      have HE1 := Lib.hid hD1'
      have HT1 := Lib.hid hS1'
      have HE2 := Lib.hid hob2'
      have HT2 := Lib.hid (rowy_own hsv2)
      clear hAw hob2' hob2 hsv2 hB2 hs2 HG4 HP1 HX1 HD1 HS1 HBG4 hA4 hl4 hs4 hlG hP1' hX1' hD1' hS1' a0 a1 a2 a3
      rintro W5 ⟨hA5, hl5, HP1, HX1, HP2, HX2, hgg, hBw⟩
      obtain ⟨gq, hgq⟩ : ∃ gq, w2.heap.size = gq := ⟨_, rfl⟩
      have HGQ := Lib.hid hgq
      rw [hgq] at HP2 HX2 hl5 hgg hBw hsw ⊢
      clear hgq
      have hs5 := hA5.size
      have hq1 : gq ≠ gp := by omega
      have a0 : W5.cell? ⟨gp, 0, none⟩ = some (.int .i64 1) := HP1.out.cell 0
      have a1 : W5.cell? ⟨gp, 1, none⟩ = some (.int .i64 K) := HP1.out.cell 1
      have a2 : W5.cell? ⟨gp, 2, none⟩ = some (.bool true) := HP1.out.cell 2
      have a3 : W5.cell? ⟨gp, 3, none⟩ = some (.bool false) := HP1.out.cell 3
      have a4 : W5.cell? ⟨gp, 4, none⟩ = some (.bool false) := HP1.out.cell 4
      have a5 : W5.cell? ⟨gp, 5, none⟩ = some (.slice Ab1 B.length cb1) := HP1.out.cell 5
      have a6 : W5.cell? ⟨gp, 6, none⟩ = some (.int .i64 0) := HP1.out.cell 6
      have a7 : W5.cell? ⟨gp, 7, none⟩ = some (.int .i64 0) := HP1.out.cell 7
      have a8 : W5.cell? ⟨gp, 8, none⟩ = some (.int .i64 0) := HP1.out.cell 8
      have a9 : W5.cell? ⟨gp, 9, none⟩ = some (.int .i64 0) := HP1.out.cell 9
      have a10 : W5.cell? ⟨gp, 10, none⟩ = some (.slice As1 0 cs1) := HP1.out.cell 10
      have b0 : W5.cell? ⟨gp + 1, 0, none⟩ = some (.int .i64 0) := HX1.out.cell 0
      have b1 : W5.cell? ⟨gp + 1, 1, none⟩ = some (.int .i64 0) := HX1.out.cell 1
      have b2 : W5.cell? ⟨gp + 1, 2, none⟩ = some (.int .i64 0) := HX1.out.cell 2
      have d0 : W5.cell? ⟨gq, 0, none⟩ = some (.int .i64 1) := HP2.out.cell 0
      have d1 : W5.cell? ⟨gq, 1, none⟩ = some (.int .i64 K) := HP2.out.cell 1
      have d2 : W5.cell? ⟨gq, 2, none⟩ = some (.bool true) := HP2.out.cell 2
      have d3 : W5.cell? ⟨gq, 3, none⟩ = some (.bool false) := HP2.out.cell 3
      have d4 : W5.cell? ⟨gq, 4, none⟩ = some (.bool false) := HP2.out.cell 4
      have d5 : W5.cell? ⟨gq, 5, none⟩ = some (.slice Ab2 B.length cb2) := HP2.out.cell 5
      have d6 : W5.cell? ⟨gq, 6, none⟩ = some (.int .i64 0) := HP2.out.cell 6
      have d7 : W5.cell? ⟨gq, 7, none⟩ = some (.int .i64 0) := HP2.out.cell 7
      have d8 : W5.cell? ⟨gq, 8, none⟩ = some (.int .i64 0) := HP2.out.cell 8
      have d9 : W5.cell? ⟨gq, 9, none⟩ = some (.int .i64 0) := HP2.out.cell 9
      have d10 : W5.cell? ⟨gq, 10, none⟩ = some (.slice As2 0 cs2) := HP2.out.cell 10
      have x0 : W5.cell? ⟨gq + 1, 0, none⟩ = some (.int .i64 0) := HX2.out.cell 0
      have x1 : W5.cell? ⟨gq + 1, 1, none⟩ = some (.int .i64 0) := HX2.out.cell 1
      have x2 : W5.cell? ⟨gq + 1, 2, none⟩ = some (.int .i64 0) := HX2.out.cell 2
      go_wp2_with (first
        | (go_at_call 12; refine (parts_any _ _ _ _ _ _ _ _ _ _ _ _ _ B 0 (fun _ => (0, 0)) _ (HE1.out.below hBw (Nat.le_of_eq HGQ.out)) (HE2.out.below hBw (Nat.le_of_eq HGQ.out)) (HT1.out.below hBw (Nat.le_of_eq HGQ.out)) (HT2.out.below hBw (Nat.le_of_eq HGQ.out))).mono ?_; rintro e w6 ⟨rfl, hB6⟩; have hA6 : Below w.heap.size w w6 := hA5.trans (hB6.mono hs5); have hs6 := hA6.size)
        | (go_at_call 3; refine (runs_any _).mono ?_; rintro e w7 ⟨rfl, hB7⟩))
      go_ret
      exact ⟨rfl, hA6.trans (hB7.mono hs6)⟩
set_option maxHeartbeats 8000000 in
set_option maxRecDepth 100000 in
theorem pads_hnb (s p m K : Int) (A : Option Addr) (len cap : Nat) (L : List Int) (w : World) (s0 : -9223372036854775808 ≤ s) (s1 : s ≤ 9223372036854775807) (p0 : 0 ≤ p) (p1 : p ≤ 255) (m0 : 0 ≤ m) (m1 : m ≤ 255)
    (hR : BS w (.slice A len cap) L) (hln : L.length = len) (hb : Byt L) (hk : wit s 1 2147483647 = K) (hlen : 300 < len) :
    Calls Try.prog 6 #[.bool true, .bool false, .int .i64 s, .slice A len cap, .int .u8 p, .int .u8 m] w fun e w' => e = .returned (.bool true) ∧ Below w.heap.size w w' := by
  have k0 : 1 ≤ K := by rw [← hk]; exact wit_lo s 1 2147483647 (by decide)
  have k1 : K ≤ 2147483647 := by rw [← hk]; exact wit_hi s 1 2147483647 (by decide)
  obtain ⟨A2, n2, c2, hrun, hv⟩ := run_to hR 300 (by omega) (by omega)
  have hlen' : (300 : Int) < (len : Int) := by omega
  obtain ⟨B, hBB⟩ : ∃ B, L.take (300 : Int).toNat = B := ⟨_, rfl⟩
  rw [hBB] at hv
  have hyB : Byt B := fun x hx => hb x (by rw [← hBB] at hx; exact List.mem_of_mem_take hx)
  have hnB : B.length ≤ 300 := by rw [← hBB]; simp; omega
  have hn2 : B.length = n2 := by obtain ⟨_, _, he, _⟩ := id hv; cases he; rfl
  clear hBB hR
  clear hlen hln hb
  have hG : (B ++ List.replicate p.toNat m).length = B.length + p.toNat := by simp
  have ho1 := of_head_is 0 K B B 0 false (by decide) (by decide) k0 k1 (by omega) B (padF_no 0 B (by decide)) (by decide) (by decide) (by decide) (by omega) (by simp)
  have ho2 := of_head_is 8 K (p :: (B ++ List.replicate p.toNat m)) B p false (by decide) (by decide) k0 k1 (by simp; omega) _ (padF_yes 8 p _ (by decide)) (by decide) (by decide) (by decide) (by rw [hG]; omega) (pad_take p m B p0)
  have hyG : Byt (p :: (B ++ List.replicate p.toNat m)) := fun x hx => by
    rcases List.mem_cons.1 hx with rfl | h
    · exact ⟨p0, p1⟩
    · rcases List.mem_append.1 h with h | h
      · exact hyB x h
      · rw [(List.mem_replicate.1 h).2]; exact ⟨m0, m1⟩
  have HO1 := Lib.hid ho1
  have HO2 := Lib.hid ho2
  have HYB := Lib.hid hyB
  have HYG := Lib.hid hyG
  have HV := Lib.hid hv
  have HN2 := Lib.hid hn2
  rw [hn2] at hnB
  clear ho1 ho2 hyB hyG hv hn2 hG
  have hor : bits .or .i64 0 8 = 8 := by decide
  obtain ⟨i0, hi, hz0, hz1, hz2⟩ := info_parts info5
  go_enter Try.func6, Try.ntmps6
  go_upto_region 10 with (go_at_call 17; refine (wit_any _ _ _ _ (by decide) (by decide) (by decide) (by omega) (by omega)).mono ?_; rintro e w0 ⟨rfl, rfl⟩; rw [hk])
  refine wp_forget (fun W => Below w.heap.size w W ∧ Hid (Blk W w.heap.size 32 (fC 1 0 K (.slice A2 n2 c2))) ∧ Hid (Blk W (w.heap.size + 1) 32 (fC 1 8 K (.slice A2 n2 c2)))) ⟨by go_grown, Lib.hid ((Blk.new _ _ _).alloc _), Lib.hid (Blk.new_at (by go_size))⟩ ?_
  rintro W ⟨hA, HF, HG⟩
  clear hk
  have hAs := hA.size
  have hlg := HG.out.lt
  have HSV := Lib.hid (bs_src (HV.out.below (hA.trans ((below_self W (.cells #[.int .u8 p] 5)).mono hAs)) (Nat.le_refl _)))
  go_wp2_with (at_builtin
               refine wpList_append_src rfl (.tmp 40) (.tmp 41) 22 rfl W.heap.size 5 i0 _ 1 1 Try.underlying22 hi hz0 hz1 hz2 rfl (by decide) (.slice (some ⟨W.heap.size, 0, none⟩) 1 1) 1 [.int .u8 p] rfl (World.ownsRow_lit (base := W.heap.size) W #[.int .u8 p] 1 (Nat.le_refl _) (by decide) rfl) A2 n2 c2 (bv B) rfl HSV.out.2.1 (by rw [bv_len, HN2.out, Nat.mul_one]) HSV.out.2.2 (bv_one _) ?a4 ?a5 ?a6 ?_
               (case a4 => unfold maxLen; omega)
               (case a5 => omega)
               (case a6 => simp only [World.size_alloc]; omega)
               intro va wa hown1 hg1
               have hown2 : wa.ownsRow W.heap.size 5 1 va (n2 + 1) (bv (p :: (B ++ List.replicate 0 m))) := by
                 have h := hown1
                 rw [Nat.add_comm] at h
                 rw [List.replicate_zero, List.append_nil]
                 exact h
               have hBa : Below W.heap.size W wa := (below_self W _).grown hg1 (by simp only [World.size_alloc]; omega) (by intro q hq; simp [Value.ownBlock] at hq; omega)
               obtain ⟨Av, cv, rfl⟩ := own_form hown2
               have HO := Lib.hid hown2
               have hBas := hBa.size
               have HFa := Lib.hid (HF.out.below hBa (by omega))
               have HGa := Lib.hid (HG.out.below hBa hlg)
               have ca : wa.cell? ⟨w.heap.size + 1, 3, none⟩ = some (.slice A2 n2 c2) := HGa.out.cell 3
               have za : wa.frozen? ⟨w.heap.size + 1, 3, none⟩ = false := HGa.out.frozen 3
               have hAa : Below w.heap.size w wa := hA.trans (hBa.mono hAs)
               clear hown1 hown2 hg1)
  go_loopw [15] (fun s15 wr => ∃ (i : Nat) (va : Value), s15 = .int .i64 i ∧ (i : Int) ≤ p ∧ Hid (Blk wr w.heap.size 32 (fC 1 0 K (.slice A2 n2 c2))) ∧ Hid (Blk wr (w.heap.size + 1) 32 (fC 1 8 K va)) ∧ Hid (wr.ownsRow W.heap.size 5 1 va (n2 + 1 + i) (bv (p :: (B ++ List.replicate i m)))) ∧ Below w.heap.size w wr ∧ W.heap.size ≤ wr.heap.size) (fun s15 _ => p.toNat - (intOf s15).toNat)
  case atStart => exact ⟨0, .slice Av (n2 + 1) cv, rfl, p0, Lib.hid (HFa.out.far (by simp) _), Lib.hid (HGa.out.put 3 (.slice Av (n2 + 1) cv)), Lib.hid (ownsRow_setCell_below HO.out (show w.heap.size + 1 < W.heap.size from hlg) _), hAa.setCell (by simp) _, by simp only [World.size_setCell]; exact hBas⟩
  case round =>
    obtain ⟨i, va, rfl, hip, HFr, HGr, HOr, hBr, hsr⟩ := hrel
    have hbr := hBr.size
    obtain ⟨Av', cv', rfl⟩ := own_form HOr.out
    have g3 : wr.cell? ⟨w.heap.size + 1, 3, none⟩ = some (.slice Av' (n2 + 1 + i) cv') := HGr.out.cell 3
    by_cases hlt : (i : Int) < p
    · go_wp2_with (at_builtin
                   refine wpList_append_src rfl (.tmp 51) (.tmp 53) 22 rfl W.heap.size 5 i0 _ 1 1 Try.underlying22 hi hz0 hz1 hz2 rfl (by decide) (.slice Av' (n2 + 1 + i) cv') (n2 + 1 + i) _ rfl (HOr.out.alloc _) (some ⟨wr.heap.size, 0, none⟩) 1 1 [.int .u8 m] rfl (fun h => by cases h) rfl (news1 wr _) (by simp [Value.oneCell']) ?a4 ?a5 ?a6 ?_
                   (case a4 => unfold maxLen; omega)
                   (case a5 => omega)
                   (case a6 => simp only [World.size_alloc]; omega)
                   intro vb wb hown1 hg1
                   have hown2 : wb.ownsRow W.heap.size 5 1 vb (n2 + 1 + (i + 1)) (bv (p :: (B ++ List.replicate (i + 1) m))) := by
                     rw [← rep_snoc, ← bv_app]
                     exact hown1
                   have hBb : Below W.heap.size wr wb := Below.grown ((below_self wr _).mono hsr) hg1 (by simp only [World.size_alloc]; omega) (fun q hq => (HOr.out.lt q hq).1)
                   obtain ⟨Aw, cw, rfl⟩ := own_form hown2
                   have HOb := Lib.hid hown2
                   have HFb := Lib.hid (HFr.out.below hBb (by omega))
                   have HGb := Lib.hid (HGr.out.below hBb hlg)
                   have cb3 : wb.cell? ⟨w.heap.size + 1, 3, none⟩ = some (.slice Av' (n2 + 1 + i) cv') := HGb.out.cell 3
                   have zb3 : wb.frozen? ⟨w.heap.size + 1, 3, none⟩ = false := HGb.out.frozen 3
                   have hAb : Below w.heap.size w wb := hBr.trans (hBb.mono (by omega))
                   have hsb : W.heap.size ≤ wb.heap.size := by have h := hg1.size; simp only [World.size_alloc] at h; omega
                   clear hown1 hown2 hg1)
      go_roundw
      case rel => exact ⟨i + 1, .slice Aw (n2 + 1 + (i + 1)) cw, by go_num, by omega, Lib.hid (HFb.out.far (by simp) _), Lib.hid (HGb.out.put 3 (.slice Aw (n2 + 1 + (i + 1)) cw)), Lib.hid (ownsRow_setCell_below HOb.out (show w.heap.size + 1 < W.heap.size from hlg) _), hAb.setCell (by simp) _, by simp only [World.size_setCell]; exact hsb⟩
      case measure => simp [intOf]; omega
    · obtain rfl : i = p.toNat := by omega
      have HBG := Lib.hid (bs_own HOr.out (by simp; have := HN2.out; omega))
      generalize n2 + 1 + p.toNat = ng at *
      have hVr := HV.out.below hBr (Nat.le_refl _)
      have HVr := Lib.hid hVr
      clear hVr hlt hip
      have a0 : wr.cell? ⟨w.heap.size, 0, none⟩ = some (.int .i64 1) := HFr.out.cell 0
      have a1 : wr.cell? ⟨w.heap.size, 1, none⟩ = some (.int .i64 0) := HFr.out.cell 1
      have a2 : wr.cell? ⟨w.heap.size, 2, none⟩ = some (.int .i64 K) := HFr.out.cell 2
      have a3 : wr.cell? ⟨w.heap.size, 3, none⟩ = some (.slice A2 n2 c2) := HFr.out.cell 3
      go_upto_region 16 with (go_at_call 10; refine (of_is 1 0 K _ B _ HVr.out HYB.out _ _ _ _ _ _ _ _ _ _ _ _ _ _ _ HO1).mono ?_; rintro e w1 ⟨⟨Ab1, cb1, As1, cs1, rfl, hob1, hsv1⟩, hB1⟩; have hs1 := hB1.size; have hob1' := bs_own hob1 rfl; have HGw := Lib.hid (HGr.out.below hB1 (by omega)))
      have hAw := hBr.trans (hB1.mono hbr)
      have hsw := hAw.size
      have HBGw := Lib.hid (HBG.out.below hB1 (Nat.le_refl _))
      refine wp_forget (fun W => Below w.heap.size w W ∧ w1.heap.size + 1 < W.heap.size ∧ Hid (Blk W (w.heap.size + 1) 32 (fC 1 8 K (.slice Av' ng cv'))) ∧ Hid (Blk W w1.heap.size 26 #[.int .i64 1, .int .i64 K, .bool false, .bool false, .bool false, .slice Ab1 B.length cb1, .int .i64 0, .int .i64 0, .int .i64 0, .int .i64 0, .slice As1 0 cs1]) ∧ Hid (Blk W (w1.heap.size + 1) 28 #[.int .i64 0, .int .i64 0, .int .i64 0]) ∧ Hid (BS W (.slice Ab1 B.length cb1) B) ∧ Hid (Rowy W (.slice As1 0 cs1) 0 2 (SV fun _ => (0, 0))) ∧ Hid (BS W (.slice Av' ng cv') (p :: (B ++ List.replicate p.toNat m)))) ⟨by go_grown, by go_size, Lib.hid ((HGw.out.alloc _).alloc _), Lib.hid ((Blk.new _ _ _).alloc _), Lib.hid (Blk.new_at (by go_size)), Lib.hid (hob1'.below (by go_grown) (Nat.le_refl _)), Lib.hid ((rowy_own hsv1).below (by go_grown) (Nat.le_refl _)), Lib.hid (HBGw.out.below (by go_grown) (Nat.le_refl _))⟩ ?_
      clear HGw hAw hsw HBGw hob1' hob1 hsv1 hB1 hs1 HGr HFr HOr HVr HBG hBr hbr hsr g3 a0 a1 a2 a3
      rintro W4 ⟨hA4, hl4, HG4, HP1, HX1, HD1, HS1, HBG4⟩
      generalize w1.heap.size = gp at *
      have hs4 := hA4.size
      have hlG := HG4.out.lt
      have a0 : W4.cell? ⟨w.heap.size + 1, 0, none⟩ = some (.int .i64 1) := HG4.out.cell 0
      have a1 : W4.cell? ⟨w.heap.size + 1, 1, none⟩ = some (.int .i64 8) := HG4.out.cell 1
      have a2 : W4.cell? ⟨w.heap.size + 1, 2, none⟩ = some (.int .i64 K) := HG4.out.cell 2
      have a3 : W4.cell? ⟨w.heap.size + 1, 3, none⟩ = some (.slice Av' ng cv') := HG4.out.cell 3
      go_upto_region 17 with (go_at_call 10; refine (of_is 1 8 K _ (p :: (B ++ List.replicate p.toNat m)) _ HBG4.out HYG.out _ _ _ _ _ _ _ _ _ _ _ _ _ _ _ HO2).mono ?_; rintro e w2 ⟨⟨Ab2, cb2, As2, cs2, rfl, hob2, hsv2⟩, hB2⟩; have hs2 := hB2.size; have hob2' := bs_own hob2 rfl; have hP1' := HP1.out.below hB2 (by omega); have hX1' := HX1.out.below hB2 (by omega); have hD1' := HD1.out.below hB2 (Nat.le_refl _); have hS1' := HS1.out.below hB2 (Nat.le_refl _))
      have hAw := hA4.trans (hB2.mono hs4)
      have hsw := hAw.size
      refine wp_forget (fun W => Below w.heap.size w W ∧ w2.heap.size + 1 < W.heap.size ∧ Hid (Blk W gp 26 #[.int .i64 1, .int .i64 K, .bool false, .bool false, .bool false, .slice Ab1 B.length cb1, .int .i64 0, .int .i64 0, .int .i64 0, .int .i64 0, .slice As1 0 cs1]) ∧ Hid (Blk W (gp + 1) 28 #[.int .i64 0, .int .i64 0, .int .i64 0]) ∧ Hid (Blk W w2.heap.size 26 #[.int .i64 1, .int .i64 K, .bool false, .bool false, .bool false, .slice Ab2 B.length cb2, .int .i64 0, .int .i64 0, .int .i64 0, .int .i64 0, .slice As2 0 cs2]) ∧ Hid (Blk W (w2.heap.size + 1) 28 #[.int .i64 0, .int .i64 0, .int .i64 0]) ∧ gp + 1 < w2.heap.size ∧ Below w2.heap.size w2 W) ⟨by go_grown, by go_size, Lib.hid ((hP1'.alloc _).alloc _), Lib.hid ((hX1'.alloc _).alloc _), Lib.hid ((Blk.new _ _ _).alloc _), Lib.hid (Blk.new_at (by go_size)), by omega, by go_grown⟩ ?_
      have HE1 := Lib.hid hD1'
      have HT1 := Lib.hid hS1'
      have HE2 := Lib.hid hob2'
      have HT2 := Lib.hid (rowy_own hsv2)
      clear hAw hob2' hob2 hsv2 hB2 hs2 HG4 HP1 HX1 HD1 HS1 HBG4 hA4 hl4 hs4 hlG hP1' hX1' hD1' hS1' a0 a1 a2 a3
      rintro W5 ⟨hA5, hl5, HP1, HX1, HP2, HX2, hgg, hBw⟩
      obtain ⟨gq, hgq⟩ : ∃ gq, w2.heap.size = gq := ⟨_, rfl⟩
      have HGQ := Lib.hid hgq
      rw [hgq] at HP2 HX2 hl5 hgg hBw hsw ⊢
      clear hgq
      have hs5 := hA5.size
      have hq1 : gq ≠ gp := by omega
      have a0 : W5.cell? ⟨gp, 0, none⟩ = some (.int .i64 1) := HP1.out.cell 0
      have a1 : W5.cell? ⟨gp, 1, none⟩ = some (.int .i64 K) := HP1.out.cell 1
      have a2 : W5.cell? ⟨gp, 2, none⟩ = some (.bool false) := HP1.out.cell 2
      have a3 : W5.cell? ⟨gp, 3, none⟩ = some (.bool false) := HP1.out.cell 3
      have a4 : W5.cell? ⟨gp, 4, none⟩ = some (.bool false) := HP1.out.cell 4
      have a5 : W5.cell? ⟨gp, 5, none⟩ = some (.slice Ab1 B.length cb1) := HP1.out.cell 5
      have a6 : W5.cell? ⟨gp, 6, none⟩ = some (.int .i64 0) := HP1.out.cell 6
      have a7 : W5.cell? ⟨gp, 7, none⟩ = some (.int .i64 0) := HP1.out.cell 7
      have a8 : W5.cell? ⟨gp, 8, none⟩ = some (.int .i64 0) := HP1.out.cell 8
      have a9 : W5.cell? ⟨gp, 9, none⟩ = some (.int .i64 0) := HP1.out.cell 9
      have a10 : W5.cell? ⟨gp, 10, none⟩ = some (.slice As1 0 cs1) := HP1.out.cell 10
      have b0 : W5.cell? ⟨gp + 1, 0, none⟩ = some (.int .i64 0) := HX1.out.cell 0
      have b1 : W5.cell? ⟨gp + 1, 1, none⟩ = some (.int .i64 0) := HX1.out.cell 1
      have b2 : W5.cell? ⟨gp + 1, 2, none⟩ = some (.int .i64 0) := HX1.out.cell 2
      have d0 : W5.cell? ⟨gq, 0, none⟩ = some (.int .i64 1) := HP2.out.cell 0
      have d1 : W5.cell? ⟨gq, 1, none⟩ = some (.int .i64 K) := HP2.out.cell 1
      have d2 : W5.cell? ⟨gq, 2, none⟩ = some (.bool false) := HP2.out.cell 2
      have d3 : W5.cell? ⟨gq, 3, none⟩ = some (.bool false) := HP2.out.cell 3
      have d4 : W5.cell? ⟨gq, 4, none⟩ = some (.bool false) := HP2.out.cell 4
      have d5 : W5.cell? ⟨gq, 5, none⟩ = some (.slice Ab2 B.length cb2) := HP2.out.cell 5
      have d6 : W5.cell? ⟨gq, 6, none⟩ = some (.int .i64 0) := HP2.out.cell 6
      have d7 : W5.cell? ⟨gq, 7, none⟩ = some (.int .i64 0) := HP2.out.cell 7
      have d8 : W5.cell? ⟨gq, 8, none⟩ = some (.int .i64 0) := HP2.out.cell 8
      have d9 : W5.cell? ⟨gq, 9, none⟩ = some (.int .i64 0) := HP2.out.cell 9
      have d10 : W5.cell? ⟨gq, 10, none⟩ = some (.slice As2 0 cs2) := HP2.out.cell 10
      have x0 : W5.cell? ⟨gq + 1, 0, none⟩ = some (.int .i64 0) := HX2.out.cell 0
      have x1 : W5.cell? ⟨gq + 1, 1, none⟩ = some (.int .i64 0) := HX2.out.cell 1
      have x2 : W5.cell? ⟨gq + 1, 2, none⟩ = some (.int .i64 0) := HX2.out.cell 2
      go_wp2_with (first
        | (go_at_call 12; refine (parts_any _ _ _ _ _ _ _ _ _ _ _ _ _ B 0 (fun _ => (0, 0)) _ (HE1.out.below hBw (Nat.le_of_eq HGQ.out)) (HE2.out.below hBw (Nat.le_of_eq HGQ.out)) (HT1.out.below hBw (Nat.le_of_eq HGQ.out)) (HT2.out.below hBw (Nat.le_of_eq HGQ.out))).mono ?_; rintro e w6 ⟨rfl, hB6⟩; have hA6 : Below w.heap.size w w6 := hA5.trans (hB6.mono hs5); have hs6 := hA6.size)
        | (go_at_call 3; refine (runs_any _).mono ?_; rintro e w7 ⟨rfl, hB7⟩))
      go_ret
      exact ⟨rfl, hA6.trans (hB7.mono hs6)⟩
set_option maxHeartbeats 8000000 in
set_option maxRecDepth 100000 in
theorem pads_hns (s p m K : Int) (A : Option Addr) (len cap : Nat) (L : List Int) (w : World) (s0 : -9223372036854775808 ≤ s) (s1 : s ≤ 9223372036854775807) (p0 : 0 ≤ p) (p1 : p ≤ 255) (m0 : 0 ≤ m) (m1 : m ≤ 255)
    (hR : BS w (.slice A len cap) L) (hln : L.length = len) (hb : Byt L) (hk : wit s 1 2147483647 = K) (hlen : ¬ 300 < len) :
    Calls Try.prog 6 #[.bool true, .bool false, .int .i64 s, .slice A len cap, .int .u8 p, .int .u8 m] w fun e w' => e = .returned (.bool true) ∧ Below w.heap.size w w' := by
  have k0 : 1 ≤ K := by rw [← hk]; exact wit_lo s 1 2147483647 (by decide)
  have k1 : K ≤ 2147483647 := by rw [← hk]; exact wit_hi s 1 2147483647 (by decide)
  have hlen' : ¬ (300 : Int) < (len : Int) := by omega
  obtain ⟨A2, n2, c2, B, hA2, hv, hyB, hnB, hn2⟩ : ∃ A2 n2 c2 B, (A2 = A ∧ n2 = len ∧ c2 = cap) ∧ BS w (.slice A2 n2 c2) B ∧ Byt B ∧ B.length ≤ 300 ∧ B.length = n2 := ⟨A, len, cap, L, ⟨rfl, rfl, rfl⟩, hR, hb, by omega, hln⟩
  obtain ⟨rfl, rfl, rfl⟩ := hA2
  clear hR
  clear hlen hln hb
  have hG : (B ++ List.replicate p.toNat m).length = B.length + p.toNat := by simp
  have ho1 := of_head_is 0 K B B 0 false (by decide) (by decide) k0 k1 (by omega) B (padF_no 0 B (by decide)) (by decide) (by decide) (by decide) (by omega) (by simp)
  have ho2 := of_head_is 8 K (p :: (B ++ List.replicate p.toNat m)) B p false (by decide) (by decide) k0 k1 (by simp; omega) _ (padF_yes 8 p _ (by decide)) (by decide) (by decide) (by decide) (by rw [hG]; omega) (pad_take p m B p0)
  have hyG : Byt (p :: (B ++ List.replicate p.toNat m)) := fun x hx => by
    rcases List.mem_cons.1 hx with rfl | h
    · exact ⟨p0, p1⟩
    · rcases List.mem_append.1 h with h | h
      · exact hyB x h
      · rw [(List.mem_replicate.1 h).2]; exact ⟨m0, m1⟩
  have HO1 := Lib.hid ho1
  have HO2 := Lib.hid ho2
  have HYB := Lib.hid hyB
  have HYG := Lib.hid hyG
  have HV := Lib.hid hv
  have HN2 := Lib.hid hn2
  rw [hn2] at hnB
  clear ho1 ho2 hyB hyG hv hn2 hG
  have hor : bits .or .i64 0 8 = 8 := by decide
  obtain ⟨i0, hi, hz0, hz1, hz2⟩ := info_parts info5
  go_enter Try.func6, Try.ntmps6
  go_upto_region 10 with (go_at_call 17; refine (wit_any _ _ _ _ (by decide) (by decide) (by decide) (by omega) (by omega)).mono ?_; rintro e w0 ⟨rfl, rfl⟩; rw [hk])
  refine wp_forget (fun W => Below w.heap.size w W ∧ Hid (Blk W w.heap.size 32 (fC 1 0 K (.slice A2 n2 c2))) ∧ Hid (Blk W (w.heap.size + 1) 32 (fC 1 8 K (.slice A2 n2 c2)))) ⟨by go_grown, Lib.hid ((Blk.new _ _ _).alloc _), Lib.hid (Blk.new_at (by go_size))⟩ ?_
  rintro W ⟨hA, HF, HG⟩
  clear hk
  have hAs := hA.size
  have hlg := HG.out.lt
  have HSV := Lib.hid (bs_src (HV.out.below (hA.trans ((below_self W (.cells #[.int .u8 p] 5)).mono hAs)) (Nat.le_refl _)))
  go_wp2_with (at_builtin
               refine wpList_append_src rfl (.tmp 40) (.tmp 41) 22 rfl W.heap.size 5 i0 _ 1 1 Try.underlying22 hi hz0 hz1 hz2 rfl (by decide) (.slice (some ⟨W.heap.size, 0, none⟩) 1 1) 1 [.int .u8 p] rfl (World.ownsRow_lit (base := W.heap.size) W #[.int .u8 p] 1 (Nat.le_refl _) (by decide) rfl) A2 n2 c2 (bv B) rfl HSV.out.2.1 (by rw [bv_len, HN2.out, Nat.mul_one]) HSV.out.2.2 (bv_one _) ?a4 ?a5 ?a6 ?_
               (case a4 => unfold maxLen; omega)
               (case a5 => omega)
               (case a6 => simp only [World.size_alloc]; omega)
               intro va wa hown1 hg1
               have hown2 : wa.ownsRow W.heap.size 5 1 va (n2 + 1) (bv (p :: (B ++ List.replicate 0 m))) := by
                 have h := hown1
                 rw [Nat.add_comm] at h
                 rw [List.replicate_zero, List.append_nil]
                 exact h
               have hBa : Below W.heap.size W wa := (below_self W _).grown hg1 (by simp only [World.size_alloc]; omega) (by intro q hq; simp [Value.ownBlock] at hq; omega)
               obtain ⟨Av, cv, rfl⟩ := own_form hown2
               have HO := Lib.hid hown2
               have hBas := hBa.size
               have HFa := Lib.hid (HF.out.below hBa (by omega))
               have HGa := Lib.hid (HG.out.below hBa hlg)
               have ca : wa.cell? ⟨w.heap.size + 1, 3, none⟩ = some (.slice A2 n2 c2) := HGa.out.cell 3
               have za : wa.frozen? ⟨w.heap.size + 1, 3, none⟩ = false := HGa.out.frozen 3
               have hAa : Below w.heap.size w wa := hA.trans (hBa.mono hAs)
               clear hown1 hown2 hg1)
  go_loopw [15] (fun s15 wr => ∃ (i : Nat) (va : Value), s15 = .int .i64 i ∧ (i : Int) ≤ p ∧ Hid (Blk wr w.heap.size 32 (fC 1 0 K (.slice A2 n2 c2))) ∧ Hid (Blk wr (w.heap.size + 1) 32 (fC 1 8 K va)) ∧ Hid (wr.ownsRow W.heap.size 5 1 va (n2 + 1 + i) (bv (p :: (B ++ List.replicate i m)))) ∧ Below w.heap.size w wr ∧ W.heap.size ≤ wr.heap.size) (fun s15 _ => p.toNat - (intOf s15).toNat)
  case atStart => exact ⟨0, .slice Av (n2 + 1) cv, rfl, p0, Lib.hid (HFa.out.far (by simp) _), Lib.hid (HGa.out.put 3 (.slice Av (n2 + 1) cv)), Lib.hid (ownsRow_setCell_below HO.out (show w.heap.size + 1 < W.heap.size from hlg) _), hAa.setCell (by simp) _, by simp only [World.size_setCell]; exact hBas⟩
  case round =>
    obtain ⟨i, va, rfl, hip, HFr, HGr, HOr, hBr, hsr⟩ := hrel
    have hbr := hBr.size
    obtain ⟨Av', cv', rfl⟩ := own_form HOr.out
    have g3 : wr.cell? ⟨w.heap.size + 1, 3, none⟩ = some (.slice Av' (n2 + 1 + i) cv') := HGr.out.cell 3
    by_cases hlt : (i : Int) < p
    · go_wp2_with (at_builtin
                   refine wpList_append_src rfl (.tmp 51) (.tmp 53) 22 rfl W.heap.size 5 i0 _ 1 1 Try.underlying22 hi hz0 hz1 hz2 rfl (by decide) (.slice Av' (n2 + 1 + i) cv') (n2 + 1 + i) _ rfl (HOr.out.alloc _) (some ⟨wr.heap.size, 0, none⟩) 1 1 [.int .u8 m] rfl (fun h => by cases h) rfl (news1 wr _) (by simp [Value.oneCell']) ?a4 ?a5 ?a6 ?_
                   (case a4 => unfold maxLen; omega)
                   (case a5 => omega)
                   (case a6 => simp only [World.size_alloc]; omega)
                   intro vb wb hown1 hg1
                   have hown2 : wb.ownsRow W.heap.size 5 1 vb (n2 + 1 + (i + 1)) (bv (p :: (B ++ List.replicate (i + 1) m))) := by
                     rw [← rep_snoc, ← bv_app]
                     exact hown1
                   have hBb : Below W.heap.size wr wb := Below.grown ((below_self wr _).mono hsr) hg1 (by simp only [World.size_alloc]; omega) (fun q hq => (HOr.out.lt q hq).1)
                   obtain ⟨Aw, cw, rfl⟩ := own_form hown2
                   have HOb := Lib.hid hown2
                   have HFb := Lib.hid (HFr.out.below hBb (by omega))
                   have HGb := Lib.hid (HGr.out.below hBb hlg)
                   have cb3 : wb.cell? ⟨w.heap.size + 1, 3, none⟩ = some (.slice Av' (n2 + 1 + i) cv') := HGb.out.cell 3
                   have zb3 : wb.frozen? ⟨w.heap.size + 1, 3, none⟩ = false := HGb.out.frozen 3
                   have hAb : Below w.heap.size w wb := hBr.trans (hBb.mono (by omega))
                   have hsb : W.heap.size ≤ wb.heap.size := by have h := hg1.size; simp only [World.size_alloc] at h; omega
                   clear hown1 hown2 hg1)
      go_roundw
      case rel => exact ⟨i + 1, .slice Aw (n2 + 1 + (i + 1)) cw, by go_num, by omega, Lib.hid (HFb.out.far (by simp) _), Lib.hid (HGb.out.put 3 (.slice Aw (n2 + 1 + (i + 1)) cw)), Lib.hid (ownsRow_setCell_below HOb.out (show w.heap.size + 1 < W.heap.size from hlg) _), hAb.setCell (by simp) _, by simp only [World.size_setCell]; exact hsb⟩
      case measure => simp [intOf]; omega
    · obtain rfl : i = p.toNat := by omega
      have HBG := Lib.hid (bs_own HOr.out (by simp; have := HN2.out; omega))
      generalize n2 + 1 + p.toNat = ng at *
      have hVr := HV.out.below hBr (Nat.le_refl _)
      have HVr := Lib.hid hVr
      clear hVr hlt hip
      have a0 : wr.cell? ⟨w.heap.size, 0, none⟩ = some (.int .i64 1) := HFr.out.cell 0
      have a1 : wr.cell? ⟨w.heap.size, 1, none⟩ = some (.int .i64 0) := HFr.out.cell 1
      have a2 : wr.cell? ⟨w.heap.size, 2, none⟩ = some (.int .i64 K) := HFr.out.cell 2
      have a3 : wr.cell? ⟨w.heap.size, 3, none⟩ = some (.slice A2 n2 c2) := HFr.out.cell 3
      go_upto_region 16 with (go_at_call 10; refine (of_is 1 0 K _ B _ HVr.out HYB.out _ _ _ _ _ _ _ _ _ _ _ _ _ _ _ HO1).mono ?_; rintro e w1 ⟨⟨Ab1, cb1, As1, cs1, rfl, hob1, hsv1⟩, hB1⟩; have hs1 := hB1.size; have hob1' := bs_own hob1 rfl; have HGw := Lib.hid (HGr.out.below hB1 (by omega)))
      have hAw := hBr.trans (hB1.mono hbr)
      have hsw := hAw.size
      have HBGw := Lib.hid (HBG.out.below hB1 (Nat.le_refl _))
      refine wp_forget (fun W => Below w.heap.size w W ∧ w1.heap.size + 1 < W.heap.size ∧ Hid (Blk W (w.heap.size + 1) 32 (fC 1 8 K (.slice Av' ng cv'))) ∧ Hid (Blk W w1.heap.size 26 #[.int .i64 1, .int .i64 K, .bool false, .bool false, .bool false, .slice Ab1 B.length cb1, .int .i64 0, .int .i64 0, .int .i64 0, .int .i64 0, .slice As1 0 cs1]) ∧ Hid (Blk W (w1.heap.size + 1) 28 #[.int .i64 0, .int .i64 0, .int .i64 0]) ∧ Hid (BS W (.slice Ab1 B.length cb1) B) ∧ Hid (Rowy W (.slice As1 0 cs1) 0 2 (SV fun _ => (0, 0))) ∧ Hid (BS W (.slice Av' ng cv') (p :: (B ++ List.replicate p.toNat m)))) ⟨by go_grown, by go_size, Lib.hid ((HGw.out.alloc _).alloc _), Lib.hid ((Blk.new _ _ _).alloc _), Lib.hid (Blk.new_at (by go_size)), Lib.hid (hob1'.below (by go_grown) (Nat.le_refl _)), Lib.hid ((rowy_own hsv1).below (by go_grown) (Nat.le_refl _)), Lib.hid (HBGw.out.below (by go_grown) (Nat.le_refl _))⟩ ?_
      clear HGw hAw hsw HBGw hob1' hob1 hsv1 hB1 hs1 HGr HFr HOr HVr HBG hBr hbr hsr g3 a0 a1 a2 a3
      rintro W4 ⟨hA4, hl4, HG4, HP1, HX1, HD1, HS1, HBG4⟩
      generalize w1.heap.size = gp at *
      have hs4 := hA4.size
      have hlG := HG4.out.lt
      have a0 : W4.cell? ⟨w.heap.size + 1, 0, none⟩ = some (.int .i64 1) := HG4.out.cell 0
      have a1 : W4.cell? ⟨w.heap.size + 1, 1, none⟩ = some (.int .i64 8) := HG4.out.cell 1
      have a2 : W4.cell? ⟨w.heap.size + 1, 2, none⟩ = some (.int .i64 K) := HG4.out.cell 2
      have a3 : W4.cell? ⟨w.heap.size + 1, 3, none⟩ = some (.slice Av' ng cv') := HG4.out.cell 3
      go_upto_region 17 with (go_at_call 10; refine (of_is 1 8 K _ (p :: (B ++ List.replicate p.toNat m)) _ HBG4.out HYG.out _ _ _ _ _ _ _ _ _ _ _ _ _ _ _ HO2).mono ?_; rintro e w2 ⟨⟨Ab2, cb2, As2, cs2, rfl, hob2, hsv2⟩, hB2⟩; have hs2 := hB2.size; have hob2' := bs_own hob2 rfl; have hP1' := HP1.out.below hB2 (by omega); have hX1' := HX1.out.below hB2 (by omega); have hD1' := HD1.out.below hB2 (Nat.le_refl _); have hS1' := HS1.out.below hB2 (Nat.le_refl _))
      have hAw := hA4.trans (hB2.mono hs4)
      have hsw := hAw.size
      refine wp_forget (fun W => Below w.heap.size w W ∧ w2.heap.size + 1 < W.heap.size ∧ Hid (Blk W gp 26 #[.int .i64 1, .int .i64 K, .bool false, .bool false, .bool false, .slice Ab1 B.length cb1, .int .i64 0, .int .i64 0, .int .i64 0, .int .i64 0, .slice As1 0 cs1]) ∧ Hid (Blk W (gp + 1) 28 #[.int .i64 0, .int .i64 0, .int .i64 0]) ∧ Hid (Blk W w2.heap.size 26 #[.int .i64 1, .int .i64 K, .bool false, .bool false, .bool false, .slice Ab2 B.length cb2, .int .i64 0, .int .i64 0, .int .i64 0, .int .i64 0, .slice As2 0 cs2]) ∧ Hid (Blk W (w2.heap.size + 1) 28 #[.int .i64 0, .int .i64 0, .int .i64 0]) ∧ gp + 1 < w2.heap.size ∧ Below w2.heap.size w2 W) ⟨by go_grown, by go_size, Lib.hid ((hP1'.alloc _).alloc _), Lib.hid ((hX1'.alloc _).alloc _), Lib.hid ((Blk.new _ _ _).alloc _), Lib.hid (Blk.new_at (by go_size)), by omega, by go_grown⟩ ?_
      have HE1 := Lib.hid hD1'
      have HT1 := Lib.hid hS1'
      have HE2 := Lib.hid hob2'
      have HT2 := Lib.hid (rowy_own hsv2)
      clear hAw hob2' hob2 hsv2 hB2 hs2 HG4 HP1 HX1 HD1 HS1 HBG4 hA4 hl4 hs4 hlG hP1' hX1' hD1' hS1' a0 a1 a2 a3
      rintro W5 ⟨hA5, hl5, HP1, HX1, HP2, HX2, hgg, hBw⟩
      obtain ⟨gq, hgq⟩ : ∃ gq, w2.heap.size = gq := ⟨_, rfl⟩
      have HGQ := Lib.hid hgq
      rw [hgq] at HP2 HX2 hl5 hgg hBw hsw ⊢
      clear hgq
      have hs5 := hA5.size
      have hq1 : gq ≠ gp := by omega
      have a0 : W5.cell? ⟨gp, 0, none⟩ = some (.int .i64 1) := HP1.out.cell 0
      have a1 : W5.cell? ⟨gp, 1, none⟩ = some (.int .i64 K) := HP1.out.cell 1
      have a2 : W5.cell? ⟨gp, 2, none⟩ = some (.bool false) := HP1.out.cell 2
      have a3 : W5.cell? ⟨gp, 3, none⟩ = some (.bool false) := HP1.out.cell 3
      have a4 : W5.cell? ⟨gp, 4, none⟩ = some (.bool false) := HP1.out.cell 4
      have a5 : W5.cell? ⟨gp, 5, none⟩ = some (.slice Ab1 B.length cb1) := HP1.out.cell 5
      have a6 : W5.cell? ⟨gp, 6, none⟩ = some (.int .i64 0) := HP1.out.cell 6
      have a7 : W5.cell? ⟨gp, 7, none⟩ = some (.int .i64 0) := HP1.out.cell 7
      have a8 : W5.cell? ⟨gp, 8, none⟩ = some (.int .i64 0) := HP1.out.cell 8
      have a9 : W5.cell? ⟨gp, 9, none⟩ = some (.int .i64 0) := HP1.out.cell 9
      have a10 : W5.cell? ⟨gp, 10, none⟩ = some (.slice As1 0 cs1) := HP1.out.cell 10
      have b0 : W5.cell? ⟨gp + 1, 0, none⟩ = some (.int .i64 0) := HX1.out.cell 0
      have b1 : W5.cell? ⟨gp + 1, 1, none⟩ = some (.int .i64 0) := HX1.out.cell 1
      have b2 : W5.cell? ⟨gp + 1, 2, none⟩ = some (.int .i64 0) := HX1.out.cell 2
      have d0 : W5.cell? ⟨gq, 0, none⟩ = some (.int .i64 1) := HP2.out.cell 0
      have d1 : W5.cell? ⟨gq, 1, none⟩ = some (.int .i64 K) := HP2.out.cell 1
      have d2 : W5.cell? ⟨gq, 2, none⟩ = some (.bool false) := HP2.out.cell 2
      have d3 : W5.cell? ⟨gq, 3, none⟩ = some (.bool false) := HP2.out.cell 3
      have d4 : W5.cell? ⟨gq, 4, none⟩ = some (.bool false) := HP2.out.cell 4
      have d5 : W5.cell? ⟨gq, 5, none⟩ = some (.slice Ab2 B.length cb2) := HP2.out.cell 5
      have d6 : W5.cell? ⟨gq, 6, none⟩ = some (.int .i64 0) := HP2.out.cell 6
      have d7 : W5.cell? ⟨gq, 7, none⟩ = some (.int .i64 0) := HP2.out.cell 7
      have d8 : W5.cell? ⟨gq, 8, none⟩ = some (.int .i64 0) := HP2.out.cell 8
      have d9 : W5.cell? ⟨gq, 9, none⟩ = some (.int .i64 0) := HP2.out.cell 9
      have d10 : W5.cell? ⟨gq, 10, none⟩ = some (.slice As2 0 cs2) := HP2.out.cell 10
      have x0 : W5.cell? ⟨gq + 1, 0, none⟩ = some (.int .i64 0) := HX2.out.cell 0
      have x1 : W5.cell? ⟨gq + 1, 1, none⟩ = some (.int .i64 0) := HX2.out.cell 1
      have x2 : W5.cell? ⟨gq + 1, 2, none⟩ = some (.int .i64 0) := HX2.out.cell 2
      go_wp2_with (first
        | (go_at_call 12; refine (parts_any _ _ _ _ _ _ _ _ _ _ _ _ _ B 0 (fun _ => (0, 0)) _ (HE1.out.below hBw (Nat.le_of_eq HGQ.out)) (HE2.out.below hBw (Nat.le_of_eq HGQ.out)) (HT1.out.below hBw (Nat.le_of_eq HGQ.out)) (HT2.out.below hBw (Nat.le_of_eq HGQ.out))).mono ?_; rintro e w6 ⟨rfl, hB6⟩; have hA6 : Below w.heap.size w w6 := hA5.trans (hB6.mono hs5); have hs6 := hA6.size)
        | (go_at_call 3; refine (runs_any _).mono ?_; rintro e w7 ⟨rfl, hB7⟩))
      go_ret
      exact ⟨rfl, hA6.trans (hB7.mono hs6)⟩
set_option maxHeartbeats 8000000 in
set_option maxRecDepth 100000 in
theorem pads_deb (s p m K : Int) (A : Option Addr) (len cap : Nat) (L : List Int) (w : World) (s0 : -9223372036854775808 ≤ s) (s1 : s ≤ 9223372036854775807) (p0 : 0 ≤ p) (p1 : p ≤ 255) (m0 : 0 ≤ m) (m1 : m ≤ 255)
    (hR : BS w (.slice A len cap) L) (hln : L.length = len) (hb : Byt L) (hk : wit s 1 2147483647 = K) (hlen : 300 < len) :
    Calls Try.prog 6 #[.bool false, .bool true, .int .i64 s, .slice A len cap, .int .u8 p, .int .u8 m] w fun e w' => e = .returned (.bool true) ∧ Below w.heap.size w w' := by
  have k0 : 1 ≤ K := by rw [← hk]; exact wit_lo s 1 2147483647 (by decide)
  have k1 : K ≤ 2147483647 := by rw [← hk]; exact wit_hi s 1 2147483647 (by decide)
  obtain ⟨A2, n2, c2, hrun, hv⟩ := run_to hR 300 (by omega) (by omega)
  have hlen' : (300 : Int) < (len : Int) := by omega
  obtain ⟨B, hBB⟩ : ∃ B, L.take (300 : Int).toNat = B := ⟨_, rfl⟩
  rw [hBB] at hv
  have hyB : Byt B := fun x hx => hb x (by rw [← hBB] at hx; exact List.mem_of_mem_take hx)
  have hnB : B.length ≤ 300 := by rw [← hBB]; simp; omega
  have hn2 : B.length = n2 := by obtain ⟨_, _, he, _⟩ := id hv; cases he; rfl
  clear hBB hR
  clear hlen hln hb
  have hG : (B ++ List.replicate p.toNat m).length = B.length + p.toNat := by simp
  have ho1 := of_data_is 1 K B B 0 true (by decide) (by decide) k0 k1 (by omega) B (padF_no 1 B (by decide)) (by decide) (by omega) (by simp)
  have ho2 := of_data_is 9 K (p :: (B ++ List.replicate p.toNat m)) B p true (by decide) (by decide) k0 k1 (by simp; omega) _ (padF_yes 9 p _ (by decide)) (by decide) (by rw [hG]; omega) (pad_take p m B p0)
  have hyG : Byt (p :: (B ++ List.replicate p.toNat m)) := fun x hx => by
    rcases List.mem_cons.1 hx with rfl | h
    · exact ⟨p0, p1⟩
    · rcases List.mem_append.1 h with h | h
      · exact hyB x h
      · rw [(List.mem_replicate.1 h).2]; exact ⟨m0, m1⟩
  obtain ⟨CG, hCG⟩ : ∃ CG : Int, ((p :: (B ++ List.replicate p.toNat m)).length : Int) = CG := ⟨_, rfl⟩
  rw [hCG] at ho2
  have hCG' : (n2 : Int) + p + 1 = CG := by rw [← hCG]; simp; omega
  have HCG := Lib.hid hCG'
  rw [hn2] at ho1
  clear hCG hCG'
  have HO1 := Lib.hid ho1
  have HO2 := Lib.hid ho2
  have HYB := Lib.hid hyB
  have HYG := Lib.hid hyG
  have HV := Lib.hid hv
  have HN2 := Lib.hid hn2
  rw [hn2] at hnB
  clear ho1 ho2 hyB hyG hv hn2 hG
  have hor : bits .or .i64 1 8 = 9 := by decide
  obtain ⟨i0, hi, hz0, hz1, hz2⟩ := info_parts info5
  go_enter Try.func6, Try.ntmps6
  go_upto_region 10 with (go_at_call 17; refine (wit_any _ _ _ _ (by decide) (by decide) (by decide) (by omega) (by omega)).mono ?_; rintro e w0 ⟨rfl, rfl⟩; rw [hk])
  refine wp_forget (fun W => Below w.heap.size w W ∧ Hid (Blk W w.heap.size 32 (fC 0 1 K (.slice A2 n2 c2))) ∧ Hid (Blk W (w.heap.size + 1) 32 (fC 0 9 K (.slice A2 n2 c2)))) ⟨by go_grown, Lib.hid ((Blk.new _ _ _).alloc _), Lib.hid (Blk.new_at (by go_size))⟩ ?_
  rintro W ⟨hA, HF, HG⟩
  clear hk
  have hAs := hA.size
  have hlg := HG.out.lt
  have HSV := Lib.hid (bs_src (HV.out.below (hA.trans ((below_self W (.cells #[.int .u8 p] 5)).mono hAs)) (Nat.le_refl _)))
  go_wp2_with (at_builtin
               refine wpList_append_src rfl (.tmp 40) (.tmp 41) 22 rfl W.heap.size 5 i0 _ 1 1 Try.underlying22 hi hz0 hz1 hz2 rfl (by decide) (.slice (some ⟨W.heap.size, 0, none⟩) 1 1) 1 [.int .u8 p] rfl (World.ownsRow_lit (base := W.heap.size) W #[.int .u8 p] 1 (Nat.le_refl _) (by decide) rfl) A2 n2 c2 (bv B) rfl HSV.out.2.1 (by rw [bv_len, HN2.out, Nat.mul_one]) HSV.out.2.2 (bv_one _) ?a4 ?a5 ?a6 ?_
               (case a4 => unfold maxLen; omega)
               (case a5 => omega)
               (case a6 => simp only [World.size_alloc]; omega)
               intro va wa hown1 hg1
               have hown2 : wa.ownsRow W.heap.size 5 1 va (n2 + 1) (bv (p :: (B ++ List.replicate 0 m))) := by
                 have h := hown1
                 rw [Nat.add_comm] at h
                 rw [List.replicate_zero, List.append_nil]
                 exact h
               have hBa : Below W.heap.size W wa := (below_self W _).grown hg1 (by simp only [World.size_alloc]; omega) (by intro q hq; simp [Value.ownBlock] at hq; omega)
               obtain ⟨Av, cv, rfl⟩ := own_form hown2
               have HO := Lib.hid hown2
               have hBas := hBa.size
               have HFa := Lib.hid (HF.out.below hBa (by omega))
               have HGa := Lib.hid (HG.out.below hBa hlg)
               have ca : wa.cell? ⟨w.heap.size + 1, 3, none⟩ = some (.slice A2 n2 c2) := HGa.out.cell 3
               have za : wa.frozen? ⟨w.heap.size + 1, 3, none⟩ = false := HGa.out.frozen 3
               have hAa : Below w.heap.size w wa := hA.trans (hBa.mono hAs)
               clear hown1 hown2 hg1)
  go_loopw [15] (fun s15 wr => ∃ (i : Nat) (va : Value), s15 = .int .i64 i ∧ (i : Int) ≤ p ∧ Hid (Blk wr w.heap.size 32 (fC 0 1 K (.slice A2 n2 c2))) ∧ Hid (Blk wr (w.heap.size + 1) 32 (fC 0 9 K va)) ∧ Hid (wr.ownsRow W.heap.size 5 1 va (n2 + 1 + i) (bv (p :: (B ++ List.replicate i m)))) ∧ Below w.heap.size w wr ∧ W.heap.size ≤ wr.heap.size) (fun s15 _ => p.toNat - (intOf s15).toNat)
  case atStart => exact ⟨0, .slice Av (n2 + 1) cv, rfl, p0, Lib.hid (HFa.out.far (by simp) _), Lib.hid (HGa.out.put 3 (.slice Av (n2 + 1) cv)), Lib.hid (ownsRow_setCell_below HO.out (show w.heap.size + 1 < W.heap.size from hlg) _), hAa.setCell (by simp) _, by simp only [World.size_setCell]; exact hBas⟩
  case round =>
    obtain ⟨i, va, rfl, hip, HFr, HGr, HOr, hBr, hsr⟩ := hrel
    have hbr := hBr.size
    obtain ⟨Av', cv', rfl⟩ := own_form HOr.out
    have g3 : wr.cell? ⟨w.heap.size + 1, 3, none⟩ = some (.slice Av' (n2 + 1 + i) cv') := HGr.out.cell 3
    by_cases hlt : (i : Int) < p
    · go_wp2_with (at_builtin
                   refine wpList_append_src rfl (.tmp 51) (.tmp 53) 22 rfl W.heap.size 5 i0 _ 1 1 Try.underlying22 hi hz0 hz1 hz2 rfl (by decide) (.slice Av' (n2 + 1 + i) cv') (n2 + 1 + i) _ rfl (HOr.out.alloc _) (some ⟨wr.heap.size, 0, none⟩) 1 1 [.int .u8 m] rfl (fun h => by cases h) rfl (news1 wr _) (by simp [Value.oneCell']) ?a4 ?a5 ?a6 ?_
                   (case a4 => unfold maxLen; omega)
                   (case a5 => omega)
                   (case a6 => simp only [World.size_alloc]; omega)
                   intro vb wb hown1 hg1
                   have hown2 : wb.ownsRow W.heap.size 5 1 vb (n2 + 1 + (i + 1)) (bv (p :: (B ++ List.replicate (i + 1) m))) := by
                     rw [← rep_snoc, ← bv_app]
                     exact hown1
                   have hBb : Below W.heap.size wr wb := Below.grown ((below_self wr _).mono hsr) hg1 (by simp only [World.size_alloc]; omega) (fun q hq => (HOr.out.lt q hq).1)
                   obtain ⟨Aw, cw, rfl⟩ := own_form hown2
                   have HOb := Lib.hid hown2
                   have HFb := Lib.hid (HFr.out.below hBb (by omega))
                   have HGb := Lib.hid (HGr.out.below hBb hlg)
                   have cb3 : wb.cell? ⟨w.heap.size + 1, 3, none⟩ = some (.slice Av' (n2 + 1 + i) cv') := HGb.out.cell 3
                   have zb3 : wb.frozen? ⟨w.heap.size + 1, 3, none⟩ = false := HGb.out.frozen 3
                   have hAb : Below w.heap.size w wb := hBr.trans (hBb.mono (by omega))
                   have hsb : W.heap.size ≤ wb.heap.size := by have h := hg1.size; simp only [World.size_alloc] at h; omega
                   clear hown1 hown2 hg1)
      go_roundw
      case rel => exact ⟨i + 1, .slice Aw (n2 + 1 + (i + 1)) cw, by go_num, by omega, Lib.hid (HFb.out.far (by simp) _), Lib.hid (HGb.out.put 3 (.slice Aw (n2 + 1 + (i + 1)) cw)), Lib.hid (ownsRow_setCell_below HOb.out (show w.heap.size + 1 < W.heap.size from hlg) _), hAb.setCell (by simp) _, by simp only [World.size_setCell]; exact hsb⟩
      case measure => simp [intOf]; omega
    · obtain rfl : i = p.toNat := by omega
      have HBG := Lib.hid (bs_own HOr.out (by simp; have := HN2.out; omega))
      generalize n2 + 1 + p.toNat = ng at *
      have hVr := HV.out.below hBr (Nat.le_refl _)
      have HVr := Lib.hid hVr
      clear hVr hlt hip
      have a0 : wr.cell? ⟨w.heap.size, 0, none⟩ = some (.int .i64 0) := HFr.out.cell 0
      have a1 : wr.cell? ⟨w.heap.size, 1, none⟩ = some (.int .i64 1) := HFr.out.cell 1
      have a2 : wr.cell? ⟨w.heap.size, 2, none⟩ = some (.int .i64 K) := HFr.out.cell 2
      have a3 : wr.cell? ⟨w.heap.size, 3, none⟩ = some (.slice A2 n2 c2) := HFr.out.cell 3
      go_upto_region 16 with (go_at_call 10; refine (of_is 0 1 K _ B _ HVr.out HYB.out _ _ _ _ _ _ _ _ _ _ _ _ _ _ _ HO1).mono ?_; rintro e w1 ⟨⟨Ab1, cb1, As1, cs1, rfl, hob1, hsv1⟩, hB1⟩; have hs1 := hB1.size; have hob1' := bs_own hob1 rfl; have HGw := Lib.hid (HGr.out.below hB1 (by omega)))
      have hAw := hBr.trans (hB1.mono hbr)
      have hsw := hAw.size
      have HBGw := Lib.hid (HBG.out.below hB1 (Nat.le_refl _))
      refine wp_forget (fun W => Below w.heap.size w W ∧ w1.heap.size + 1 < W.heap.size ∧ Hid (Blk W (w.heap.size + 1) 32 (fC 0 9 K (.slice Av' ng cv'))) ∧ Hid (Blk W w1.heap.size 26 #[.int .i64 0, .int .i64 K, .bool true, .bool false, .bool false, .slice Ab1 B.length cb1, .int .i64 0, .int .i64 0, .int .i64 0, .int .i64 (n2 : Int), .slice As1 0 cs1]) ∧ Hid (Blk W (w1.heap.size + 1) 28 #[.int .i64 0, .int .i64 0, .int .i64 0]) ∧ Hid (BS W (.slice Ab1 B.length cb1) B) ∧ Hid (Rowy W (.slice As1 0 cs1) 0 2 (SV fun _ => (0, 0))) ∧ Hid (BS W (.slice Av' ng cv') (p :: (B ++ List.replicate p.toNat m)))) ⟨by go_grown, by go_size, Lib.hid ((HGw.out.alloc _).alloc _), Lib.hid ((Blk.new _ _ _).alloc _), Lib.hid (Blk.new_at (by go_size)), Lib.hid (hob1'.below (by go_grown) (Nat.le_refl _)), Lib.hid ((rowy_own hsv1).below (by go_grown) (Nat.le_refl _)), Lib.hid (HBGw.out.below (by go_grown) (Nat.le_refl _))⟩ ?_
      clear HGw hAw hsw HBGw hob1' hob1 hsv1 hB1 hs1 HGr HFr HOr HVr HBG hBr hbr hsr g3 a0 a1 a2 a3
      rintro W4 ⟨hA4, hl4, HG4, HP1, HX1, HD1, HS1, HBG4⟩
      generalize w1.heap.size = gp at *
      have hs4 := hA4.size
      have hlG := HG4.out.lt
      have a0 : W4.cell? ⟨w.heap.size + 1, 0, none⟩ = some (.int .i64 0) := HG4.out.cell 0
      have a1 : W4.cell? ⟨w.heap.size + 1, 1, none⟩ = some (.int .i64 9) := HG4.out.cell 1
      have a2 : W4.cell? ⟨w.heap.size + 1, 2, none⟩ = some (.int .i64 K) := HG4.out.cell 2
      have a3 : W4.cell? ⟨w.heap.size + 1, 3, none⟩ = some (.slice Av' ng cv') := HG4.out.cell 3
      go_upto_region 17 with (go_at_call 10; refine (of_is 0 9 K _ (p :: (B ++ List.replicate p.toNat m)) _ HBG4.out HYG.out _ _ _ _ _ _ _ _ _ _ _ _ _ _ _ HO2).mono ?_; rintro e w2 ⟨⟨Ab2, cb2, As2, cs2, rfl, hob2, hsv2⟩, hB2⟩; have hs2 := hB2.size; have hob2' := bs_own hob2 rfl; have hP1' := HP1.out.below hB2 (by omega); have hX1' := HX1.out.below hB2 (by omega); have hD1' := HD1.out.below hB2 (Nat.le_refl _); have hS1' := HS1.out.below hB2 (Nat.le_refl _))
      have hAw := hA4.trans (hB2.mono hs4)
      have hsw := hAw.size
      refine wp_forget (fun W => Below w.heap.size w W ∧ w2.heap.size + 1 < W.heap.size ∧ Hid (Blk W gp 26 #[.int .i64 0, .int .i64 K, .bool true, .bool false, .bool false, .slice Ab1 B.length cb1, .int .i64 0, .int .i64 0, .int .i64 0, .int .i64 (n2 : Int), .slice As1 0 cs1]) ∧ Hid (Blk W (gp + 1) 28 #[.int .i64 0, .int .i64 0, .int .i64 0]) ∧ Hid (Blk W w2.heap.size 26 #[.int .i64 0, .int .i64 K, .bool true, .bool false, .bool false, .slice Ab2 B.length cb2, .int .i64 0, .int .i64 0, .int .i64 0, .int .i64 CG, .slice As2 0 cs2]) ∧ Hid (Blk W (w2.heap.size + 1) 28 #[.int .i64 0, .int .i64 0, .int .i64 0]) ∧ gp + 1 < w2.heap.size ∧ Below w2.heap.size w2 W) ⟨by go_grown, by go_size, Lib.hid ((hP1'.alloc _).alloc _), Lib.hid ((hX1'.alloc _).alloc _), Lib.hid ((Blk.new _ _ _).alloc _), Lib.hid (Blk.new_at (by go_size)), by omega, by go_grown⟩ ?_
      have HE1 := Lib.hid hD1'
      have HT1 := Lib.hid hS1'
      have HE2 := Lib.hid hob2'
      have HT2 := Lib.hid (rowy_own hsv2)
      clear hAw hob2' hob2 hsv2 hB2 hs2 HG4 HP1 HX1 HD1 HS1 HBG4 hA4 hl4 hs4 hlG hP1' hX1' hD1' hS1' a0 a1 a2 a3
      rintro W5 ⟨hA5, hl5, HP1, HX1, HP2, HX2, hgg, hBw⟩
      obtain ⟨gq, hgq⟩ : ∃ gq, w2.heap.size = gq := ⟨_, rfl⟩
      have HGQ := Lib.hid hgq
      rw [hgq] at HP2 HX2 hl5 hgg hBw hsw ⊢
      clear hgq
      have hs5 := hA5.size
      have hq1 : gq ≠ gp := by omega
      have a0 : W5.cell? ⟨gp, 0, none⟩ = some (.int .i64 0) := HP1.out.cell 0
      have a1 : W5.cell? ⟨gp, 1, none⟩ = some (.int .i64 K) := HP1.out.cell 1
      have a2 : W5.cell? ⟨gp, 2, none⟩ = some (.bool true) := HP1.out.cell 2
      have a3 : W5.cell? ⟨gp, 3, none⟩ = some (.bool false) := HP1.out.cell 3
      have a4 : W5.cell? ⟨gp, 4, none⟩ = some (.bool false) := HP1.out.cell 4
      have a5 : W5.cell? ⟨gp, 5, none⟩ = some (.slice Ab1 B.length cb1) := HP1.out.cell 5
      have a6 : W5.cell? ⟨gp, 6, none⟩ = some (.int .i64 0) := HP1.out.cell 6
      have a7 : W5.cell? ⟨gp, 7, none⟩ = some (.int .i64 0) := HP1.out.cell 7
      have a8 : W5.cell? ⟨gp, 8, none⟩ = some (.int .i64 0) := HP1.out.cell 8
      have a9 : W5.cell? ⟨gp, 9, none⟩ = some (.int .i64 (n2 : Int)) := HP1.out.cell 9
      have a10 : W5.cell? ⟨gp, 10, none⟩ = some (.slice As1 0 cs1) := HP1.out.cell 10
      have b0 : W5.cell? ⟨gp + 1, 0, none⟩ = some (.int .i64 0) := HX1.out.cell 0
      have b1 : W5.cell? ⟨gp + 1, 1, none⟩ = some (.int .i64 0) := HX1.out.cell 1
      have b2 : W5.cell? ⟨gp + 1, 2, none⟩ = some (.int .i64 0) := HX1.out.cell 2
      have d0 : W5.cell? ⟨gq, 0, none⟩ = some (.int .i64 0) := HP2.out.cell 0
      have d1 : W5.cell? ⟨gq, 1, none⟩ = some (.int .i64 K) := HP2.out.cell 1
      have d2 : W5.cell? ⟨gq, 2, none⟩ = some (.bool true) := HP2.out.cell 2
      have d3 : W5.cell? ⟨gq, 3, none⟩ = some (.bool false) := HP2.out.cell 3
      have d4 : W5.cell? ⟨gq, 4, none⟩ = some (.bool false) := HP2.out.cell 4
      have d5 : W5.cell? ⟨gq, 5, none⟩ = some (.slice Ab2 B.length cb2) := HP2.out.cell 5
      have d6 : W5.cell? ⟨gq, 6, none⟩ = some (.int .i64 0) := HP2.out.cell 6
      have d7 : W5.cell? ⟨gq, 7, none⟩ = some (.int .i64 0) := HP2.out.cell 7
      have d8 : W5.cell? ⟨gq, 8, none⟩ = some (.int .i64 0) := HP2.out.cell 8
      have d9 : W5.cell? ⟨gq, 9, none⟩ = some (.int .i64 CG) := HP2.out.cell 9
      have d10 : W5.cell? ⟨gq, 10, none⟩ = some (.slice As2 0 cs2) := HP2.out.cell 10
      have x0 : W5.cell? ⟨gq + 1, 0, none⟩ = some (.int .i64 0) := HX2.out.cell 0
      have x1 : W5.cell? ⟨gq + 1, 1, none⟩ = some (.int .i64 0) := HX2.out.cell 1
      have x2 : W5.cell? ⟨gq + 1, 2, none⟩ = some (.int .i64 0) := HX2.out.cell 2
      have d9' : W5.frozen? ⟨gq, 9, none⟩ = false := HP2.out.frozen 9
      have hcg := HCG.out
      go_wp2_with (first
        | (go_at_call 12; refine (parts_any _ _ _ _ _ _ _ _ _ _ _ _ _ B 0 (fun _ => (0, 0)) _ (HE1.out.below (hBw.setCell (Nat.le_refl _) _) (Nat.le_of_eq HGQ.out)) (HE2.out.below (hBw.setCell (Nat.le_refl _) _) (Nat.le_of_eq HGQ.out)) (HT1.out.below (hBw.setCell (Nat.le_refl _) _) (Nat.le_of_eq HGQ.out)) (HT2.out.below (hBw.setCell (Nat.le_refl _) _) (Nat.le_of_eq HGQ.out))).mono ?_; rintro e w6 ⟨rfl, hB6⟩; have hA6 : Below w.heap.size w w6 := Below.trans (hA5.setCell (by simp; omega) _) (hB6.mono (by simp only [World.size_setCell]; exact hs5)); have hs6 := hA6.size)
        | (go_at_call 3; refine (runs_any _).mono ?_; rintro e w7 ⟨rfl, hB7⟩))
      go_ret
      exact ⟨rfl, hA6.trans (hB7.mono hs6)⟩
set_option maxHeartbeats 8000000 in
set_option maxRecDepth 100000 in
theorem pads_des (s p m K : Int) (A : Option Addr) (len cap : Nat) (L : List Int) (w : World) (s0 : -9223372036854775808 ≤ s) (s1 : s ≤ 9223372036854775807) (p0 : 0 ≤ p) (p1 : p ≤ 255) (m0 : 0 ≤ m) (m1 : m ≤ 255)
    (hR : BS w (.slice A len cap) L) (hln : L.length = len) (hb : Byt L) (hk : wit s 1 2147483647 = K) (hlen : ¬ 300 < len) :
    Calls Try.prog 6 #[.bool false, .bool true, .int .i64 s, .slice A len cap, .int .u8 p, .int .u8 m] w fun e w' => e = .returned (.bool true) ∧ Below w.heap.size w w' := by
  have k0 : 1 ≤ K := by rw [← hk]; exact wit_lo s 1 2147483647 (by decide)
  have k1 : K ≤ 2147483647 := by rw [← hk]; exact wit_hi s 1 2147483647 (by decide)
  have hlen' : ¬ (300 : Int) < (len : Int) := by omega
  obtain ⟨A2, n2, c2, B, hA2, hv, hyB, hnB, hn2⟩ : ∃ A2 n2 c2 B, (A2 = A ∧ n2 = len ∧ c2 = cap) ∧ BS w (.slice A2 n2 c2) B ∧ Byt B ∧ B.length ≤ 300 ∧ B.length = n2 := ⟨A, len, cap, L, ⟨rfl, rfl, rfl⟩, hR, hb, by omega, hln⟩
  obtain ⟨rfl, rfl, rfl⟩ := hA2
  clear hR
  clear hlen hln hb
  have hG : (B ++ List.replicate p.toNat m).length = B.length + p.toNat := by simp
  have ho1 := of_data_is 1 K B B 0 true (by decide) (by decide) k0 k1 (by omega) B (padF_no 1 B (by decide)) (by decide) (by omega) (by simp)
  have ho2 := of_data_is 9 K (p :: (B ++ List.replicate p.toNat m)) B p true (by decide) (by decide) k0 k1 (by simp; omega) _ (padF_yes 9 p _ (by decide)) (by decide) (by rw [hG]; omega) (pad_take p m B p0)
  have hyG : Byt (p :: (B ++ List.replicate p.toNat m)) := fun x hx => by
    rcases List.mem_cons.1 hx with rfl | h
    · exact ⟨p0, p1⟩
    · rcases List.mem_append.1 h with h | h
      · exact hyB x h
      · rw [(List.mem_replicate.1 h).2]; exact ⟨m0, m1⟩
  obtain ⟨CG, hCG⟩ : ∃ CG : Int, ((p :: (B ++ List.replicate p.toNat m)).length : Int) = CG := ⟨_, rfl⟩
  rw [hCG] at ho2
  have hCG' : (n2 : Int) + p + 1 = CG := by rw [← hCG]; simp; omega
  have HCG := Lib.hid hCG'
  rw [hn2] at ho1
  clear hCG hCG'
  have HO1 := Lib.hid ho1
  have HO2 := Lib.hid ho2
  have HYB := Lib.hid hyB
  have HYG := Lib.hid hyG
  have HV := Lib.hid hv
  have HN2 := Lib.hid hn2
  rw [hn2] at hnB
  clear ho1 ho2 hyB hyG hv hn2 hG
  have hor : bits .or .i64 1 8 = 9 := by decide
  obtain ⟨i0, hi, hz0, hz1, hz2⟩ := info_parts info5
  go_enter Try.func6, Try.ntmps6
  go_upto_region 10 with (go_at_call 17; refine (wit_any _ _ _ _ (by decide) (by decide) (by decide) (by omega) (by omega)).mono ?_; rintro e w0 ⟨rfl, rfl⟩; rw [hk])
  refine wp_forget (fun W => Below w.heap.size w W ∧ Hid (Blk W w.heap.size 32 (fC 0 1 K (.slice A2 n2 c2))) ∧ Hid (Blk W (w.heap.size + 1) 32 (fC 0 9 K (.slice A2 n2 c2)))) ⟨by go_grown, Lib.hid ((Blk.new _ _ _).alloc _), Lib.hid (Blk.new_at (by go_size))⟩ ?_
  rintro W ⟨hA, HF, HG⟩
  clear hk
  have hAs := hA.size
  have hlg := HG.out.lt
  have HSV := Lib.hid (bs_src (HV.out.below (hA.trans ((below_self W (.cells #[.int .u8 p] 5)).mono hAs)) (Nat.le_refl _)))
  go_wp2_with (at_builtin
               refine wpList_append_src rfl (.tmp 40) (.tmp 41) 22 rfl W.heap.size 5 i0 _ 1 1 Try.underlying22 hi hz0 hz1 hz2 rfl (by decide) (.slice (some ⟨W.heap.size, 0, none⟩) 1 1) 1 [.int .u8 p] rfl (World.ownsRow_lit (base := W.heap.size) W #[.int .u8 p] 1 (Nat.le_refl _) (by decide) rfl) A2 n2 c2 (bv B) rfl HSV.out.2.1 (by rw [bv_len, HN2.out, Nat.mul_one]) HSV.out.2.2 (bv_one _) ?a4 ?a5 ?a6 ?_
               (case a4 => unfold maxLen; omega)
               (case a5 => omega)
               (case a6 => simp only [World.size_alloc]; omega)
               intro va wa hown1 hg1
               have hown2 : wa.ownsRow W.heap.size 5 1 va (n2 + 1) (bv (p :: (B ++ List.replicate 0 m))) := by
                 have h := hown1
                 rw [Nat.add_comm] at h
                 rw [List.replicate_zero, List.append_nil]
                 exact h
               have hBa : Below W.heap.size W wa := (below_self W _).grown hg1 (by simp only [World.size_alloc]; omega) (by intro q hq; simp [Value.ownBlock] at hq; omega)
               obtain ⟨Av, cv, rfl⟩ := own_form hown2
               have HO := Lib.hid hown2
               have hBas := hBa.size
               have HFa := Lib.hid (HF.out.below hBa (by omega))
               have HGa := Lib.hid (HG.out.below hBa hlg)
               have ca : wa.cell? ⟨w.heap.size + 1, 3, none⟩ = some (.slice A2 n2 c2) := HGa.out.cell 3
               have za : wa.frozen? ⟨w.heap.size + 1, 3, none⟩ = false := HGa.out.frozen 3
               have hAa : Below w.heap.size w wa := hA.trans (hBa.mono hAs)
               clear hown1 hown2 hg1)
  go_loopw [15] (fun s15 wr => ∃ (i : Nat) (va : Value), s15 = .int .i64 i ∧ (i : Int) ≤ p ∧ Hid (Blk wr w.heap.size 32 (fC 0 1 K (.slice A2 n2 c2))) ∧ Hid (Blk wr (w.heap.size + 1) 32 (fC 0 9 K va)) ∧ Hid (wr.ownsRow W.heap.size 5 1 va (n2 + 1 + i) (bv (p :: (B ++ List.replicate i m)))) ∧ Below w.heap.size w wr ∧ W.heap.size ≤ wr.heap.size) (fun s15 _ => p.toNat - (intOf s15).toNat)
  case atStart => exact ⟨0, .slice Av (n2 + 1) cv, rfl, p0, Lib.hid (HFa.out.far (by simp) _), Lib.hid (HGa.out.put 3 (.slice Av (n2 + 1) cv)), Lib.hid (ownsRow_setCell_below HO.out (show w.heap.size + 1 < W.heap.size from hlg) _), hAa.setCell (by simp) _, by simp only [World.size_setCell]; exact hBas⟩
  case round =>
    obtain ⟨i, va, rfl, hip, HFr, HGr, HOr, hBr, hsr⟩ := hrel
    have hbr := hBr.size
    obtain ⟨Av', cv', rfl⟩ := own_form HOr.out
    have g3 : wr.cell? ⟨w.heap.size + 1, 3, none⟩ = some (.slice Av' (n2 + 1 + i) cv') := HGr.out.cell 3
    by_cases hlt : (i : Int) < p
    · go_wp2_with (at_builtin
                   refine wpList_append_src rfl (.tmp 51) (.tmp 53) 22 rfl W.heap.size 5 i0 _ 1 1 Try.underlying22 hi hz0 hz1 hz2 rfl (by decide) (.slice Av' (n2 + 1 + i) cv') (n2 + 1 + i) _ rfl (HOr.out.alloc _) (some ⟨wr.heap.size, 0, none⟩) 1 1 [.int .u8 m] rfl (fun h => by cases h) rfl (news1 wr _) (by simp [Value.oneCell']) ?a4 ?a5 ?a6 ?_
                   (case a4 => unfold maxLen; omega)
                   (case a5 => omega)
                   (case a6 => simp only [World.size_alloc]; omega)
                   intro vb wb hown1 hg1
                   have hown2 : wb.ownsRow W.heap.size 5 1 vb (n2 + 1 + (i + 1)) (bv (p :: (B ++ List.replicate (i + 1) m))) := by
                     rw [← rep_snoc, ← bv_app]
                     exact hown1
                   have hBb : Below W.heap.size wr wb := Below.grown ((below_self wr _).mono hsr) hg1 (by simp only [World.size_alloc]; omega) (fun q hq => (HOr.out.lt q hq).1)
                   obtain ⟨Aw, cw, rfl⟩ := own_form hown2
                   have HOb := Lib.hid hown2
                   have HFb := Lib.hid (HFr.out.below hBb (by omega))
                   have HGb := Lib.hid (HGr.out.below hBb hlg)
                   have cb3 : wb.cell? ⟨w.heap.size + 1, 3, none⟩ = some (.slice Av' (n2 + 1 + i) cv') := HGb.out.cell 3
                   have zb3 : wb.frozen? ⟨w.heap.size + 1, 3, none⟩ = false := HGb.out.frozen 3
                   have hAb : Below w.heap.size w wb := hBr.trans (hBb.mono (by omega))
                   have hsb : W.heap.size ≤ wb.heap.size := by have h := hg1.size; simp only [World.size_alloc] at h; omega
                   clear hown1 hown2 hg1)
      go_roundw
      case rel => exact ⟨i + 1, .slice Aw (n2 + 1 + (i + 1)) cw, by go_num, by omega, Lib.hid (HFb.out.far (by simp) _), Lib.hid (HGb.out.put 3 (.slice Aw (n2 + 1 + (i + 1)) cw)), Lib.hid (ownsRow_setCell_below HOb.out (show w.heap.size + 1 < W.heap.size from hlg) _), hAb.setCell (by simp) _, by simp only [World.size_setCell]; exact hsb⟩
      case measure => simp [intOf]; omega
    · obtain rfl : i = p.toNat := by omega
      have HBG := Lib.hid (bs_own HOr.out (by simp; have := HN2.out; omega))
      generalize n2 + 1 + p.toNat = ng at *
      have hVr := HV.out.below hBr (Nat.le_refl _)
      have HVr := Lib.hid hVr
      clear hVr hlt hip
      have a0 : wr.cell? ⟨w.heap.size, 0, none⟩ = some (.int .i64 0) := HFr.out.cell 0
      have a1 : wr.cell? ⟨w.heap.size, 1, none⟩ = some (.int .i64 1) := HFr.out.cell 1
      have a2 : wr.cell? ⟨w.heap.size, 2, none⟩ = some (.int .i64 K) := HFr.out.cell 2
      have a3 : wr.cell? ⟨w.heap.size, 3, none⟩ = some (.slice A2 n2 c2) := HFr.out.cell 3
      go_upto_region 16 with (go_at_call 10; refine (of_is 0 1 K _ B _ HVr.out HYB.out _ _ _ _ _ _ _ _ _ _ _ _ _ _ _ HO1).mono ?_; rintro e w1 ⟨⟨Ab1, cb1, As1, cs1, rfl, hob1, hsv1⟩, hB1⟩; have hs1 := hB1.size; have hob1' := bs_own hob1 rfl; have HGw := Lib.hid (HGr.out.below hB1 (by omega)))
      have hAw := hBr.trans (hB1.mono hbr)
      have hsw := hAw.size
      have HBGw := Lib.hid (HBG.out.below hB1 (Nat.le_refl _))
      refine wp_forget (fun W => Below w.heap.size w W ∧ w1.heap.size + 1 < W.heap.size ∧ Hid (Blk W (w.heap.size + 1) 32 (fC 0 9 K (.slice Av' ng cv'))) ∧ Hid (Blk W w1.heap.size 26 #[.int .i64 0, .int .i64 K, .bool true, .bool false, .bool false, .slice Ab1 B.length cb1, .int .i64 0, .int .i64 0, .int .i64 0, .int .i64 (n2 : Int), .slice As1 0 cs1]) ∧ Hid (Blk W (w1.heap.size + 1) 28 #[.int .i64 0, .int .i64 0, .int .i64 0]) ∧ Hid (BS W (.slice Ab1 B.length cb1) B) ∧ Hid (Rowy W (.slice As1 0 cs1) 0 2 (SV fun _ => (0, 0))) ∧ Hid (BS W (.slice Av' ng cv') (p :: (B ++ List.replicate p.toNat m)))) ⟨by go_grown, by go_size, Lib.hid ((HGw.out.alloc _).alloc _), Lib.hid ((Blk.new _ _ _).alloc _), Lib.hid (Blk.new_at (by go_size)), Lib.hid (hob1'.below (by go_grown) (Nat.le_refl _)), Lib.hid ((rowy_own hsv1).below (by go_grown) (Nat.le_refl _)), Lib.hid (HBGw.out.below (by go_grown) (Nat.le_refl _))⟩ ?_
      clear HGw hAw hsw HBGw hob1' hob1 hsv1 hB1 hs1 HGr HFr HOr HVr HBG hBr hbr hsr g3 a0 a1 a2 a3
      rintro W4 ⟨hA4, hl4, HG4, HP1, HX1, HD1, HS1, HBG4⟩
      generalize w1.heap.size = gp at *
      have hs4 := hA4.size
      have hlG := HG4.out.lt
      have a0 : W4.cell? ⟨w.heap.size + 1, 0, none⟩ = some (.int .i64 0) := HG4.out.cell 0
      have a1 : W4.cell? ⟨w.heap.size + 1, 1, none⟩ = some (.int .i64 9) := HG4.out.cell 1
      have a2 : W4.cell? ⟨w.heap.size + 1, 2, none⟩ = some (.int .i64 K) := HG4.out.cell 2
      have a3 : W4.cell? ⟨w.heap.size + 1, 3, none⟩ = some (.slice Av' ng cv') := HG4.out.cell 3
      go_upto_region 17 with (go_at_call 10; refine (of_is 0 9 K _ (p :: (B ++ List.replicate p.toNat m)) _ HBG4.out HYG.out _ _ _ _ _ _ _ _ _ _ _ _ _ _ _ HO2).mono ?_; rintro e w2 ⟨⟨Ab2, cb2, As2, cs2, rfl, hob2, hsv2⟩, hB2⟩; have hs2 := hB2.size; have hob2' := bs_own hob2 rfl; have hP1' := HP1.out.below hB2 (by omega); have hX1' := HX1.out.below hB2 (by omega); have hD1' := HD1.out.below hB2 (Nat.le_refl _); have hS1' := HS1.out.below hB2 (Nat.le_refl _))
      have hAw := hA4.trans (hB2.mono hs4)
      have hsw := hAw.size
      refine wp_forget (fun W => Below w.heap.size w W ∧ w2.heap.size + 1 < W.heap.size ∧ Hid (Blk W gp 26 #[.int .i64 0, .int .i64 K, .bool true, .bool false, .bool false, .slice Ab1 B.length cb1, .int .i64 0, .int .i64 0, .int .i64 0, .int .i64 (n2 : Int), .slice As1 0 cs1]) ∧ Hid (Blk W (gp + 1) 28 #[.int .i64 0, .int .i64 0, .int .i64 0]) ∧ Hid (Blk W w2.heap.size 26 #[.int .i64 0, .int .i64 K, .bool true, .bool false, .bool false, .slice Ab2 B.length cb2, .int .i64 0, .int .i64 0, .int .i64 0, .int .i64 CG, .slice As2 0 cs2]) ∧ Hid (Blk W (w2.heap.size + 1) 28 #[.int .i64 0, .int .i64 0, .int .i64 0]) ∧ gp + 1 < w2.heap.size ∧ Below w2.heap.size w2 W) ⟨by go_grown, by go_size, Lib.hid ((hP1'.alloc _).alloc _), Lib.hid ((hX1'.alloc _).alloc _), Lib.hid ((Blk.new _ _ _).alloc _), Lib.hid (Blk.new_at (by go_size)), by omega, by go_grown⟩ ?_
      have HE1 := Lib.hid hD1'
      have HT1 := Lib.hid hS1'
      have HE2 := Lib.hid hob2'
      have HT2 := Lib.hid (rowy_own hsv2)
      clear hAw hob2' hob2 hsv2 hB2 hs2 HG4 HP1 HX1 HD1 HS1 HBG4 hA4 hl4 hs4 hlG hP1' hX1' hD1' hS1' a0 a1 a2 a3
      rintro W5 ⟨hA5, hl5, HP1, HX1, HP2, HX2, hgg, hBw⟩
      obtain ⟨gq, hgq⟩ : ∃ gq, w2.heap.size = gq := ⟨_, rfl⟩
      have HGQ := Lib.hid hgq
      rw [hgq] at HP2 HX2 hl5 hgg hBw hsw ⊢
      clear hgq
      have hs5 := hA5.size
      have hq1 : gq ≠ gp := by omega
      have a0 : W5.cell? ⟨gp, 0, none⟩ = some (.int .i64 0) := HP1.out.cell 0
      have a1 : W5.cell? ⟨gp, 1, none⟩ = some (.int .i64 K) := HP1.out.cell 1
      have a2 : W5.cell? ⟨gp, 2, none⟩ = some (.bool true) := HP1.out.cell 2
      have a3 : W5.cell? ⟨gp, 3, none⟩ = some (.bool false) := HP1.out.cell 3
      have a4 : W5.cell? ⟨gp, 4, none⟩ = some (.bool false) := HP1.out.cell 4
      have a5 : W5.cell? ⟨gp, 5, none⟩ = some (.slice Ab1 B.length cb1) := HP1.out.cell 5
      have a6 : W5.cell? ⟨gp, 6, none⟩ = some (.int .i64 0) := HP1.out.cell 6
      have a7 : W5.cell? ⟨gp, 7, none⟩ = some (.int .i64 0) := HP1.out.cell 7
      have a8 : W5.cell? ⟨gp, 8, none⟩ = some (.int .i64 0) := HP1.out.cell 8
      have a9 : W5.cell? ⟨gp, 9, none⟩ = some (.int .i64 (n2 : Int)) := HP1.out.cell 9
      have a10 : W5.cell? ⟨gp, 10, none⟩ = some (.slice As1 0 cs1) := HP1.out.cell 10
      have b0 : W5.cell? ⟨gp + 1, 0, none⟩ = some (.int .i64 0) := HX1.out.cell 0
      have b1 : W5.cell? ⟨gp + 1, 1, none⟩ = some (.int .i64 0) := HX1.out.cell 1
      have b2 : W5.cell? ⟨gp + 1, 2, none⟩ = some (.int .i64 0) := HX1.out.cell 2
      have d0 : W5.cell? ⟨gq, 0, none⟩ = some (.int .i64 0) := HP2.out.cell 0
      have d1 : W5.cell? ⟨gq, 1, none⟩ = some (.int .i64 K) := HP2.out.cell 1
      have d2 : W5.cell? ⟨gq, 2, none⟩ = some (.bool true) := HP2.out.cell 2
      have d3 : W5.cell? ⟨gq, 3, none⟩ = some (.bool false) := HP2.out.cell 3
      have d4 : W5.cell? ⟨gq, 4, none⟩ = some (.bool false) := HP2.out.cell 4
      have d5 : W5.cell? ⟨gq, 5, none⟩ = some (.slice Ab2 B.length cb2) := HP2.out.cell 5
      have d6 : W5.cell? ⟨gq, 6, none⟩ = some (.int .i64 0) := HP2.out.cell 6
      have d7 : W5.cell? ⟨gq, 7, none⟩ = some (.int .i64 0) := HP2.out.cell 7
      have d8 : W5.cell? ⟨gq, 8, none⟩ = some (.int .i64 0) := HP2.out.cell 8
      have d9 : W5.cell? ⟨gq, 9, none⟩ = some (.int .i64 CG) := HP2.out.cell 9
      have d10 : W5.cell? ⟨gq, 10, none⟩ = some (.slice As2 0 cs2) := HP2.out.cell 10
      have x0 : W5.cell? ⟨gq + 1, 0, none⟩ = some (.int .i64 0) := HX2.out.cell 0
      have x1 : W5.cell? ⟨gq + 1, 1, none⟩ = some (.int .i64 0) := HX2.out.cell 1
      have x2 : W5.cell? ⟨gq + 1, 2, none⟩ = some (.int .i64 0) := HX2.out.cell 2
      have d9' : W5.frozen? ⟨gq, 9, none⟩ = false := HP2.out.frozen 9
      have hcg := HCG.out
      go_wp2_with (first
        | (go_at_call 12; refine (parts_any _ _ _ _ _ _ _ _ _ _ _ _ _ B 0 (fun _ => (0, 0)) _ (HE1.out.below (hBw.setCell (Nat.le_refl _) _) (Nat.le_of_eq HGQ.out)) (HE2.out.below (hBw.setCell (Nat.le_refl _) _) (Nat.le_of_eq HGQ.out)) (HT1.out.below (hBw.setCell (Nat.le_refl _) _) (Nat.le_of_eq HGQ.out)) (HT2.out.below (hBw.setCell (Nat.le_refl _) _) (Nat.le_of_eq HGQ.out))).mono ?_; rintro e w6 ⟨rfl, hB6⟩; have hA6 : Below w.heap.size w w6 := Below.trans (hA5.setCell (by simp; omega) _) (hB6.mono (by simp only [World.size_setCell]; exact hs5)); have hs6 := hA6.size)
        | (go_at_call 3; refine (runs_any _).mono ?_; rintro e w7 ⟨rfl, hB7⟩))
      go_ret
      exact ⟨rfl, hA6.trans (hB7.mono hs6)⟩
set_option maxHeartbeats 8000000 in
set_option maxRecDepth 100000 in
theorem pads_dnb (s p m K : Int) (A : Option Addr) (len cap : Nat) (L : List Int) (w : World) (s0 : -9223372036854775808 ≤ s) (s1 : s ≤ 9223372036854775807) (p0 : 0 ≤ p) (p1 : p ≤ 255) (m0 : 0 ≤ m) (m1 : m ≤ 255)
    (hR : BS w (.slice A len cap) L) (hln : L.length = len) (hb : Byt L) (hk : wit s 1 2147483647 = K) (hlen : 300 < len) :
    Calls Try.prog 6 #[.bool false, .bool false, .int .i64 s, .slice A len cap, .int .u8 p, .int .u8 m] w fun e w' => e = .returned (.bool true) ∧ Below w.heap.size w w' := by
  have k0 : 1 ≤ K := by rw [← hk]; exact wit_lo s 1 2147483647 (by decide)
  have k1 : K ≤ 2147483647 := by rw [← hk]; exact wit_hi s 1 2147483647 (by decide)
  obtain ⟨A2, n2, c2, hrun, hv⟩ := run_to hR 300 (by omega) (by omega)
  have hlen' : (300 : Int) < (len : Int) := by omega
  obtain ⟨B, hBB⟩ : ∃ B, L.take (300 : Int).toNat = B := ⟨_, rfl⟩
  rw [hBB] at hv
  have hyB : Byt B := fun x hx => hb x (by rw [← hBB] at hx; exact List.mem_of_mem_take hx)
  have hnB : B.length ≤ 300 := by rw [← hBB]; simp; omega
  have hn2 : B.length = n2 := by obtain ⟨_, _, he, _⟩ := id hv; cases he; rfl
  clear hBB hR
  clear hlen hln hb
  have hG : (B ++ List.replicate p.toNat m).length = B.length + p.toNat := by simp
  have ho1 := of_data_is 0 K B B 0 false (by decide) (by decide) k0 k1 (by omega) B (padF_no 0 B (by decide)) (by decide) (by omega) (by simp)
  have ho2 := of_data_is 8 K (p :: (B ++ List.replicate p.toNat m)) B p false (by decide) (by decide) k0 k1 (by simp; omega) _ (padF_yes 8 p _ (by decide)) (by decide) (by rw [hG]; omega) (pad_take p m B p0)
  have hyG : Byt (p :: (B ++ List.replicate p.toNat m)) := fun x hx => by
    rcases List.mem_cons.1 hx with rfl | h
    · exact ⟨p0, p1⟩
    · rcases List.mem_append.1 h with h | h
      · exact hyB x h
      · rw [(List.mem_replicate.1 h).2]; exact ⟨m0, m1⟩
  obtain ⟨CG, hCG⟩ : ∃ CG : Int, ((p :: (B ++ List.replicate p.toNat m)).length : Int) = CG := ⟨_, rfl⟩
  rw [hCG] at ho2
  have hCG' : (n2 : Int) + p + 1 = CG := by rw [← hCG]; simp; omega
  have HCG := Lib.hid hCG'
  rw [hn2] at ho1
  clear hCG hCG'
  have HO1 := Lib.hid ho1
  have HO2 := Lib.hid ho2
  have HYB := Lib.hid hyB
  have HYG := Lib.hid hyG
  have HV := Lib.hid hv
  have HN2 := Lib.hid hn2
  rw [hn2] at hnB
  clear ho1 ho2 hyB hyG hv hn2 hG
  have hor : bits .or .i64 0 8 = 8 := by decide
  obtain ⟨i0, hi, hz0, hz1, hz2⟩ := info_parts info5
  go_enter Try.func6, Try.ntmps6
  go_upto_region 10 with (go_at_call 17; refine (wit_any _ _ _ _ (by decide) (by decide) (by decide) (by omega) (by omega)).mono ?_; rintro e w0 ⟨rfl, rfl⟩; rw [hk])
  refine wp_forget (fun W => Below w.heap.size w W ∧ Hid (Blk W w.heap.size 32 (fC 0 0 K (.slice A2 n2 c2))) ∧ Hid (Blk W (w.heap.size + 1) 32 (fC 0 8 K (.slice A2 n2 c2)))) ⟨by go_grown, Lib.hid ((Blk.new _ _ _).alloc _), Lib.hid (Blk.new_at (by go_size))⟩ ?_
  rintro W ⟨hA, HF, HG⟩
  clear hk
  have hAs := hA.size
  have hlg := HG.out.lt
  have HSV := Lib.hid (bs_src (HV.out.below (hA.trans ((below_self W (.cells #[.int .u8 p] 5)).mono hAs)) (Nat.le_refl _)))
  go_wp2_with (at_builtin
               refine wpList_append_src rfl (.tmp 40) (.tmp 41) 22 rfl W.heap.size 5 i0 _ 1 1 Try.underlying22 hi hz0 hz1 hz2 rfl (by decide) (.slice (some ⟨W.heap.size, 0, none⟩) 1 1) 1 [.int .u8 p] rfl (World.ownsRow_lit (base := W.heap.size) W #[.int .u8 p] 1 (Nat.le_refl _) (by decide) rfl) A2 n2 c2 (bv B) rfl HSV.out.2.1 (by rw [bv_len, HN2.out, Nat.mul_one]) HSV.out.2.2 (bv_one _) ?a4 ?a5 ?a6 ?_
               (case a4 => unfold maxLen; omega)
               (case a5 => omega)
               (case a6 => simp only [World.size_alloc]; omega)
               intro va wa hown1 hg1
               have hown2 : wa.ownsRow W.heap.size 5 1 va (n2 + 1) (bv (p :: (B ++ List.replicate 0 m))) := by
                 have h := hown1
                 rw [Nat.add_comm] at h
                 rw [List.replicate_zero, List.append_nil]
                 exact h
               have hBa : Below W.heap.size W wa := (below_self W _).grown hg1 (by simp only [World.size_alloc]; omega) (by intro q hq; simp [Value.ownBlock] at hq; omega)
               obtain ⟨Av, cv, rfl⟩ := own_form hown2
               have HO := Lib.hid hown2
               have hBas := hBa.size
               have HFa := Lib.hid (HF.out.below hBa (by omega))
               have HGa := Lib.hid (HG.out.below hBa hlg)
               have ca : wa.cell? ⟨w.heap.size + 1, 3, none⟩ = some (.slice A2 n2 c2) := HGa.out.cell 3
               have za : wa.frozen? ⟨w.heap.size + 1, 3, none⟩ = false := HGa.out.frozen 3
               have hAa : Below w.heap.size w wa := hA.trans (hBa.mono hAs)
               clear hown1 hown2 hg1)
  go_loopw [15] (fun s15 wr => ∃ (i : Nat) (va : Value), s15 = .int .i64 i ∧ (i : Int) ≤ p ∧ Hid (Blk wr w.heap.size 32 (fC 0 0 K (.slice A2 n2 c2))) ∧ Hid (Blk wr (w.heap.size + 1) 32 (fC 0 8 K va)) ∧ Hid (wr.ownsRow W.heap.size 5 1 va (n2 + 1 + i) (bv (p :: (B ++ List.replicate i m)))) ∧ Below w.heap.size w wr ∧ W.heap.size ≤ wr.heap.size) (fun s15 _ => p.toNat - (intOf s15).toNat)
  case atStart => exact ⟨0, .slice Av (n2 + 1) cv, rfl, p0, Lib.hid (HFa.out.far (by simp) _), Lib.hid (HGa.out.put 3 (.slice Av (n2 + 1) cv)), Lib.hid (ownsRow_setCell_below HO.out (show w.heap.size + 1 < W.heap.size from hlg) _), hAa.setCell (by simp) _, by simp only [World.size_setCell]; exact hBas⟩
  case round =>
    obtain ⟨i, va, rfl, hip, HFr, HGr, HOr, hBr, hsr⟩ := hrel
    have hbr := hBr.size
    obtain ⟨Av', cv', rfl⟩ := own_form HOr.out
    have g3 : wr.cell? ⟨w.heap.size + 1, 3, none⟩ = some (.slice Av' (n2 + 1 + i) cv') := HGr.out.cell 3
    by_cases hlt : (i : Int) < p
    · go_wp2_with (at_builtin
                   refine wpList_append_src rfl (.tmp 51) (.tmp 53) 22 rfl W.heap.size 5 i0 _ 1 1 Try.underlying22 hi hz0 hz1 hz2 rfl (by decide) (.slice Av' (n2 + 1 + i) cv') (n2 + 1 + i) _ rfl (HOr.out.alloc _) (some ⟨wr.heap.size, 0, none⟩) 1 1 [.int .u8 m] rfl (fun h => by cases h) rfl (news1 wr _) (by simp [Value.oneCell']) ?a4 ?a5 ?a6 ?_
                   (case a4 => unfold maxLen; omega)
                   (case a5 => omega)
                   (case a6 => simp only [World.size_alloc]; omega)
                   intro vb wb hown1 hg1
                   have hown2 : wb.ownsRow W.heap.size 5 1 vb (n2 + 1 + (i + 1)) (bv (p :: (B ++ List.replicate (i + 1) m))) := by
                     rw [← rep_snoc, ← bv_app]
                     exact hown1
                   have hBb : Below W.heap.size wr wb := Below.grown ((below_self wr _).mono hsr) hg1 (by simp only [World.size_alloc]; omega) (fun q hq => (HOr.out.lt q hq).1)
                   obtain ⟨Aw, cw, rfl⟩ := own_form hown2
                   have HOb := Lib.hid hown2
                   have HFb := Lib.hid (HFr.out.below hBb (by omega))
                   have HGb := Lib.hid (HGr.out.below hBb hlg)
                   have cb3 : wb.cell? ⟨w.heap.size + 1, 3, none⟩ = some (.slice Av' (n2 + 1 + i) cv') := HGb.out.cell 3
                   have zb3 : wb.frozen? ⟨w.heap.size + 1, 3, none⟩ = false := HGb.out.frozen 3
                   have hAb : Below w.heap.size w wb := hBr.trans (hBb.mono (by omega))
                   have hsb : W.heap.size ≤ wb.heap.size := by have h := hg1.size; simp only [World.size_alloc] at h; omega
                   clear hown1 hown2 hg1)
      go_roundw
      case rel => exact ⟨i + 1, .slice Aw (n2 + 1 + (i + 1)) cw, by go_num, by omega, Lib.hid (HFb.out.far (by simp) _), Lib.hid (HGb.out.put 3 (.slice Aw (n2 + 1 + (i + 1)) cw)), Lib.hid (ownsRow_setCell_below HOb.out (show w.heap.size + 1 < W.heap.size from hlg) _), hAb.setCell (by simp) _, by simp only [World.size_setCell]; exact hsb⟩
      case measure => simp [intOf]; omega
    · obtain rfl : i = p.toNat := by omega
      have HBG := Lib.hid (bs_own HOr.out (by simp; have := HN2.out; omega))
      generalize n2 + 1 + p.toNat = ng at *
      have hVr := HV.out.below hBr (Nat.le_refl _)
      have HVr := Lib.hid hVr
      clear hVr hlt hip
      have a0 : wr.cell? ⟨w.heap.size, 0, none⟩ = some (.int .i64 0) := HFr.out.cell 0
      have a1 : wr.cell? ⟨w.heap.size, 1, none⟩ = some (.int .i64 0) := HFr.out.cell 1
      have a2 : wr.cell? ⟨w.heap.size, 2, none⟩ = some (.int .i64 K) := HFr.out.cell 2
      have a3 : wr.cell? ⟨w.heap.size, 3, none⟩ = some (.slice A2 n2 c2) := HFr.out.cell 3
      go_upto_region 16 with (go_at_call 10; refine (of_is 0 0 K _ B _ HVr.out HYB.out _ _ _ _ _ _ _ _ _ _ _ _ _ _ _ HO1).mono ?_; rintro e w1 ⟨⟨Ab1, cb1, As1, cs1, rfl, hob1, hsv1⟩, hB1⟩; have hs1 := hB1.size; have hob1' := bs_own hob1 rfl; have HGw := Lib.hid (HGr.out.below hB1 (by omega)))
      have hAw := hBr.trans (hB1.mono hbr)
      have hsw := hAw.size
      have HBGw := Lib.hid (HBG.out.below hB1 (Nat.le_refl _))
      refine wp_forget (fun W => Below w.heap.size w W ∧ w1.heap.size + 1 < W.heap.size ∧ Hid (Blk W (w.heap.size + 1) 32 (fC 0 8 K (.slice Av' ng cv'))) ∧ Hid (Blk W w1.heap.size 26 #[.int .i64 0, .int .i64 K, .bool false, .bool false, .bool false, .slice Ab1 B.length cb1, .int .i64 0, .int .i64 0, .int .i64 0, .int .i64 (n2 : Int), .slice As1 0 cs1]) ∧ Hid (Blk W (w1.heap.size + 1) 28 #[.int .i64 0, .int .i64 0, .int .i64 0]) ∧ Hid (BS W (.slice Ab1 B.length cb1) B) ∧ Hid (Rowy W (.slice As1 0 cs1) 0 2 (SV fun _ => (0, 0))) ∧ Hid (BS W (.slice Av' ng cv') (p :: (B ++ List.replicate p.toNat m)))) ⟨by go_grown, by go_size, Lib.hid ((HGw.out.alloc _).alloc _), Lib.hid ((Blk.new _ _ _).alloc _), Lib.hid (Blk.new_at (by go_size)), Lib.hid (hob1'.below (by go_grown) (Nat.le_refl _)), Lib.hid ((rowy_own hsv1).below (by go_grown) (Nat.le_refl _)), Lib.hid (HBGw.out.below (by go_grown) (Nat.le_refl _))⟩ ?_
      clear HGw hAw hsw HBGw hob1' hob1 hsv1 hB1 hs1 HGr HFr HOr HVr HBG hBr hbr hsr g3 a0 a1 a2 a3
      rintro W4 ⟨hA4, hl4, HG4, HP1, HX1, HD1, HS1, HBG4⟩
      generalize w1.heap.size = gp at *
      have hs4 := hA4.size
      have hlG := HG4.out.lt
      have a0 : W4.cell? ⟨w.heap.size + 1, 0, none⟩ = some (.int .i64 0) := HG4.out.cell 0
      have a1 : W4.cell? ⟨w.heap.size + 1, 1, none⟩ = some (.int .i64 8) := HG4.out.cell 1
      have a2 : W4.cell? ⟨w.heap.size + 1, 2, none⟩ = some (.int .i64 K) := HG4.out.cell 2
      have a3 : W4.cell? ⟨w.heap.size + 1, 3, none⟩ = some (.slice Av' ng cv') := HG4.out.cell 3
      go_upto_region 17 with (go_at_call 10; refine (of_is 0 8 K _ (p :: (B ++ List.replicate p.toNat m)) _ HBG4.out HYG.out _ _ _ _ _ _ _ _ _ _ _ _ _ _ _ HO2).mono ?_; rintro e w2 ⟨⟨Ab2, cb2, As2, cs2, rfl, hob2, hsv2⟩, hB2⟩; have hs2 := hB2.size; have hob2' := bs_own hob2 rfl; have hP1' := HP1.out.below hB2 (by omega); have hX1' := HX1.out.below hB2 (by omega); have hD1' := HD1.out.below hB2 (Nat.le_refl _); have hS1' := HS1.out.below hB2 (Nat.le_refl _))
      have hAw := hA4.trans (hB2.mono hs4)
      have hsw := hAw.size
      refine wp_forget (fun W => Below w.heap.size w W ∧ w2.heap.size + 1 < W.heap.size ∧ Hid (Blk W gp 26 #[.int .i64 0, .int .i64 K, .bool false, .bool false, .bool false, .slice Ab1 B.length cb1, .int .i64 0, .int .i64 0, .int .i64 0, .int .i64 (n2 : Int), .slice As1 0 cs1]) ∧ Hid (Blk W (gp + 1) 28 #[.int .i64 0, .int .i64 0, .int .i64 0]) ∧ Hid (Blk W w2.heap.size 26 #[.int .i64 0, .int .i64 K, .bool false, .bool false, .bool false, .slice Ab2 B.length cb2, .int .i64 0, .int .i64 0, .int .i64 0, .int .i64 CG, .slice As2 0 cs2]) ∧ Hid (Blk W (w2.heap.size + 1) 28 #[.int .i64 0, .int .i64 0, .int .i64 0]) ∧ gp + 1 < w2.heap.size ∧ Below w2.heap.size w2 W) ⟨by go_grown, by go_size, Lib.hid ((hP1'.alloc _).alloc _), Lib.hid ((hX1'.alloc _).alloc _), Lib.hid ((Blk.new _ _ _).alloc _), Lib.hid (Blk.new_at (by go_size)), by omega, by go_grown⟩ ?_
      have HE1 := Lib.hid hD1'
      have HT1 := Lib.hid hS1'
      have HE2 := Lib.hid hob2'
      have HT2 := Lib.hid (rowy_own hsv2)
      clear hAw hob2' hob2 hsv2 hB2 hs2 HG4 HP1 HX1 HD1 HS1 HBG4 hA4 hl4 hs4 hlG hP1' hX1' hD1' hS1' a0 a1 a2 a3
      rintro W5 ⟨hA5, hl5, HP1, HX1, HP2, HX2, hgg, hBw⟩
      obtain ⟨gq, hgq⟩ : ∃ gq, w2.heap.size = gq := ⟨_, rfl⟩
      have HGQ := Lib.hid hgq
      rw [hgq] at HP2 HX2 hl5 hgg hBw hsw ⊢
      clear hgq
      have hs5 := hA5.size
      have hq1 : gq ≠ gp := by omega
      have a0 : W5.cell? ⟨gp, 0, none⟩ = some (.int .i64 0) := HP1.out.cell 0
      have a1 : W5.cell? ⟨gp, 1, none⟩ = some (.int .i64 K) := HP1.out.cell 1
      have a2 : W5.cell? ⟨gp, 2, none⟩ = some (.bool false) := HP1.out.cell 2
      have a3 : W5.cell? ⟨gp, 3, none⟩ = some (.bool false) := HP1.out.cell 3
      have a4 : W5.cell? ⟨gp, 4, none⟩ = some (.bool false) := HP1.out.cell 4
      have a5 : W5.cell? ⟨gp, 5, none⟩ = some (.slice Ab1 B.length cb1) := HP1.out.cell 5
      have a6 : W5.cell? ⟨gp, 6, none⟩ = some (.int .i64 0) := HP1.out.cell 6
      have a7 : W5.cell? ⟨gp, 7, none⟩ = some (.int .i64 0) := HP1.out.cell 7
      have a8 : W5.cell? ⟨gp, 8, none⟩ = some (.int .i64 0) := HP1.out.cell 8
      have a9 : W5.cell? ⟨gp, 9, none⟩ = some (.int .i64 (n2 : Int)) := HP1.out.cell 9
      have a10 : W5.cell? ⟨gp, 10, none⟩ = some (.slice As1 0 cs1) := HP1.out.cell 10
      have b0 : W5.cell? ⟨gp + 1, 0, none⟩ = some (.int .i64 0) := HX1.out.cell 0
      have b1 : W5.cell? ⟨gp + 1, 1, none⟩ = some (.int .i64 0) := HX1.out.cell 1
      have b2 : W5.cell? ⟨gp + 1, 2, none⟩ = some (.int .i64 0) := HX1.out.cell 2
      have d0 : W5.cell? ⟨gq, 0, none⟩ = some (.int .i64 0) := HP2.out.cell 0
      have d1 : W5.cell? ⟨gq, 1, none⟩ = some (.int .i64 K) := HP2.out.cell 1
      have d2 : W5.cell? ⟨gq, 2, none⟩ = some (.bool false) := HP2.out.cell 2
      have d3 : W5.cell? ⟨gq, 3, none⟩ = some (.bool false) := HP2.out.cell 3
      have d4 : W5.cell? ⟨gq, 4, none⟩ = some (.bool false) := HP2.out.cell 4
      have d5 : W5.cell? ⟨gq, 5, none⟩ = some (.slice Ab2 B.length cb2) := HP2.out.cell 5
      have d6 : W5.cell? ⟨gq, 6, none⟩ = some (.int .i64 0) := HP2.out.cell 6
      have d7 : W5.cell? ⟨gq, 7, none⟩ = some (.int .i64 0) := HP2.out.cell 7
      have d8 : W5.cell? ⟨gq, 8, none⟩ = some (.int .i64 0) := HP2.out.cell 8
      have d9 : W5.cell? ⟨gq, 9, none⟩ = some (.int .i64 CG) := HP2.out.cell 9
      have d10 : W5.cell? ⟨gq, 10, none⟩ = some (.slice As2 0 cs2) := HP2.out.cell 10
      have x0 : W5.cell? ⟨gq + 1, 0, none⟩ = some (.int .i64 0) := HX2.out.cell 0
      have x1 : W5.cell? ⟨gq + 1, 1, none⟩ = some (.int .i64 0) := HX2.out.cell 1
      have x2 : W5.cell? ⟨gq + 1, 2, none⟩ = some (.int .i64 0) := HX2.out.cell 2
      have d9' : W5.frozen? ⟨gq, 9, none⟩ = false := HP2.out.frozen 9
      have hcg := HCG.out
      go_wp2_with (first
        | (go_at_call 12; refine (parts_any _ _ _ _ _ _ _ _ _ _ _ _ _ B 0 (fun _ => (0, 0)) _ (HE1.out.below (hBw.setCell (Nat.le_refl _) _) (Nat.le_of_eq HGQ.out)) (HE2.out.below (hBw.setCell (Nat.le_refl _) _) (Nat.le_of_eq HGQ.out)) (HT1.out.below (hBw.setCell (Nat.le_refl _) _) (Nat.le_of_eq HGQ.out)) (HT2.out.below (hBw.setCell (Nat.le_refl _) _) (Nat.le_of_eq HGQ.out))).mono ?_; rintro e w6 ⟨rfl, hB6⟩; have hA6 : Below w.heap.size w w6 := Below.trans (hA5.setCell (by simp; omega) _) (hB6.mono (by simp only [World.size_setCell]; exact hs5)); have hs6 := hA6.size)
        | (go_at_call 3; refine (runs_any _).mono ?_; rintro e w7 ⟨rfl, hB7⟩))
      go_ret
      exact ⟨rfl, hA6.trans (hB7.mono hs6)⟩
set_option maxHeartbeats 8000000 in
set_option maxRecDepth 100000 in
theorem pads_dns (s p m K : Int) (A : Option Addr) (len cap : Nat) (L : List Int) (w : World) (s0 : -9223372036854775808 ≤ s) (s1 : s ≤ 9223372036854775807) (p0 : 0 ≤ p) (p1 : p ≤ 255) (m0 : 0 ≤ m) (m1 : m ≤ 255)
    (hR : BS w (.slice A len cap) L) (hln : L.length = len) (hb : Byt L) (hk : wit s 1 2147483647 = K) (hlen : ¬ 300 < len) :
    Calls Try.prog 6 #[.bool false, .bool false, .int .i64 s, .slice A len cap, .int .u8 p, .int .u8 m] w fun e w' => e = .returned (.bool true) ∧ Below w.heap.size w w' := by
  have k0 : 1 ≤ K := by rw [← hk]; exact wit_lo s 1 2147483647 (by decide)
  have k1 : K ≤ 2147483647 := by rw [← hk]; exact wit_hi s 1 2147483647 (by decide)
  have hlen' : ¬ (300 : Int) < (len : Int) := by omega
  obtain ⟨A2, n2, c2, B, hA2, hv, hyB, hnB, hn2⟩ : ∃ A2 n2 c2 B, (A2 = A ∧ n2 = len ∧ c2 = cap) ∧ BS w (.slice A2 n2 c2) B ∧ Byt B ∧ B.length ≤ 300 ∧ B.length = n2 := ⟨A, len, cap, L, ⟨rfl, rfl, rfl⟩, hR, hb, by omega, hln⟩
  obtain ⟨rfl, rfl, rfl⟩ := hA2
  clear hR
  clear hlen hln hb
  have hG : (B ++ List.replicate p.toNat m).length = B.length + p.toNat := by simp
  have ho1 := of_data_is 0 K B B 0 false (by decide) (by decide) k0 k1 (by omega) B (padF_no 0 B (by decide)) (by decide) (by omega) (by simp)
  have ho2 := of_data_is 8 K (p :: (B ++ List.replicate p.toNat m)) B p false (by decide) (by decide) k0 k1 (by simp; omega) _ (padF_yes 8 p _ (by decide)) (by decide) (by rw [hG]; omega) (pad_take p m B p0)
  have hyG : Byt (p :: (B ++ List.replicate p.toNat m)) := fun x hx => by
    rcases List.mem_cons.1 hx with rfl | h
    · exact ⟨p0, p1⟩
    · rcases List.mem_append.1 h with h | h
      · exact hyB x h
      · rw [(List.mem_replicate.1 h).2]; exact ⟨m0, m1⟩
  obtain ⟨CG, hCG⟩ : ∃ CG : Int, ((p :: (B ++ List.replicate p.toNat m)).length : Int) = CG := ⟨_, rfl⟩
  rw [hCG] at ho2
  have hCG' : (n2 : Int) + p + 1 = CG := by rw [← hCG]; simp; omega
  have HCG := Lib.hid hCG'
  rw [hn2] at ho1
  clear hCG hCG'
  have HO1 := Lib.hid ho1
  have HO2 := Lib.hid ho2
  have HYB := Lib.hid hyB
  have HYG := Lib.hid hyG
  have HV := Lib.hid hv
  have HN2 := Lib.hid hn2
  rw [hn2] at hnB
  clear ho1 ho2 hyB hyG hv hn2 hG
  have hor : bits .or .i64 0 8 = 8 := by decide
  obtain ⟨i0, hi, hz0, hz1, hz2⟩ := info_parts info5
  go_enter Try.func6, Try.ntmps6
  go_upto_region 10 with (go_at_call 17; refine (wit_any _ _ _ _ (by decide) (by decide) (by decide) (by omega) (by omega)).mono ?_; rintro e w0 ⟨rfl, rfl⟩; rw [hk])
  refine wp_forget (fun W => Below w.heap.size w W ∧ Hid (Blk W w.heap.size 32 (fC 0 0 K (.slice A2 n2 c2))) ∧ Hid (Blk W (w.heap.size + 1) 32 (fC 0 8 K (.slice A2 n2 c2)))) ⟨by go_grown, Lib.hid ((Blk.new _ _ _).alloc _), Lib.hid (Blk.new_at (by go_size))⟩ ?_
  rintro W ⟨hA, HF, HG⟩
  clear hk
  have hAs := hA.size
  have hlg := HG.out.lt
  have HSV := Lib.hid (bs_src (HV.out.below (hA.trans ((below_self W (.cells #[.int .u8 p] 5)).mono hAs)) (Nat.le_refl _)))
  go_wp2_with (at_builtin
               refine wpList_append_src rfl (.tmp 40) (.tmp 41) 22 rfl W.heap.size 5 i0 _ 1 1 Try.underlying22 hi hz0 hz1 hz2 rfl (by decide) (.slice (some ⟨W.heap.size, 0, none⟩) 1 1) 1 [.int .u8 p] rfl (World.ownsRow_lit (base := W.heap.size) W #[.int .u8 p] 1 (Nat.le_refl _) (by decide) rfl) A2 n2 c2 (bv B) rfl HSV.out.2.1 (by rw [bv_len, HN2.out, Nat.mul_one]) HSV.out.2.2 (bv_one _) ?a4 ?a5 ?a6 ?_
               (case a4 => unfold maxLen; omega)
               (case a5 => omega)
               (case a6 => simp only [World.size_alloc]; omega)
               intro va wa hown1 hg1
               have hown2 : wa.ownsRow W.heap.size 5 1 va (n2 + 1) (bv (p :: (B ++ List.replicate 0 m))) := by
                 have h := hown1
                 rw [Nat.add_comm] at h
                 rw [List.replicate_zero, List.append_nil]
                 exact h
               have hBa : Below W.heap.size W wa := (below_self W _).grown hg1 (by simp only [World.size_alloc]; omega) (by intro q hq; simp [Value.ownBlock] at hq; omega)
               obtain ⟨Av, cv, rfl⟩ := own_form hown2
               have HO := Lib.hid hown2
               have hBas := hBa.size
               have HFa := Lib.hid (HF.out.below hBa (by omega))
               have HGa := Lib.hid (HG.out.below hBa hlg)
               have ca : wa.cell? ⟨w.heap.size + 1, 3, none⟩ = some (.slice A2 n2 c2) := HGa.out.cell 3
               have za : wa.frozen? ⟨w.heap.size + 1, 3, none⟩ = false := HGa.out.frozen 3
               have hAa : Below w.heap.size w wa := hA.trans (hBa.mono hAs)
               clear hown1 hown2 hg1)
  go_loopw [15] (fun s15 wr => ∃ (i : Nat) (va : Value), s15 = .int .i64 i ∧ (i : Int) ≤ p ∧ Hid (Blk wr w.heap.size 32 (fC 0 0 K (.slice A2 n2 c2))) ∧ Hid (Blk wr (w.heap.size + 1) 32 (fC 0 8 K va)) ∧ Hid (wr.ownsRow W.heap.size 5 1 va (n2 + 1 + i) (bv (p :: (B ++ List.replicate i m)))) ∧ Below w.heap.size w wr ∧ W.heap.size ≤ wr.heap.size) (fun s15 _ => p.toNat - (intOf s15).toNat)
  case atStart => exact ⟨0, .slice Av (n2 + 1) cv, rfl, p0, Lib.hid (HFa.out.far (by simp) _), Lib.hid (HGa.out.put 3 (.slice Av (n2 + 1) cv)), Lib.hid (ownsRow_setCell_below HO.out (show w.heap.size + 1 < W.heap.size from hlg) _), hAa.setCell (by simp) _, by simp only [World.size_setCell]; exact hBas⟩
  case round =>
    obtain ⟨i, va, rfl, hip, HFr, HGr, HOr, hBr, hsr⟩ := hrel
    have hbr := hBr.size
    obtain ⟨Av', cv', rfl⟩ := own_form HOr.out
    have g3 : wr.cell? ⟨w.heap.size + 1, 3, none⟩ = some (.slice Av' (n2 + 1 + i) cv') := HGr.out.cell 3
    by_cases hlt : (i : Int) < p
    · go_wp2_with (at_builtin
                   refine wpList_append_src rfl (.tmp 51) (.tmp 53) 22 rfl W.heap.size 5 i0 _ 1 1 Try.underlying22 hi hz0 hz1 hz2 rfl (by decide) (.slice Av' (n2 + 1 + i) cv') (n2 + 1 + i) _ rfl (HOr.out.alloc _) (some ⟨wr.heap.size, 0, none⟩) 1 1 [.int .u8 m] rfl (fun h => by cases h) rfl (news1 wr _) (by simp [Value.oneCell']) ?a4 ?a5 ?a6 ?_
                   (case a4 => unfold maxLen; omega)
                   (case a5 => omega)
                   (case a6 => simp only [World.size_alloc]; omega)
                   intro vb wb hown1 hg1
                   have hown2 : wb.ownsRow W.heap.size 5 1 vb (n2 + 1 + (i + 1)) (bv (p :: (B ++ List.replicate (i + 1) m))) := by
                     rw [← rep_snoc, ← bv_app]
                     exact hown1
                   have hBb : Below W.heap.size wr wb := Below.grown ((below_self wr _).mono hsr) hg1 (by simp only [World.size_alloc]; omega) (fun q hq => (HOr.out.lt q hq).1)
                   obtain ⟨Aw, cw, rfl⟩ := own_form hown2
                   have HOb := Lib.hid hown2
                   have HFb := Lib.hid (HFr.out.below hBb (by omega))
                   have HGb := Lib.hid (HGr.out.below hBb hlg)
                   have cb3 : wb.cell? ⟨w.heap.size + 1, 3, none⟩ = some (.slice Av' (n2 + 1 + i) cv') := HGb.out.cell 3
                   have zb3 : wb.frozen? ⟨w.heap.size + 1, 3, none⟩ = false := HGb.out.frozen 3
                   have hAb : Below w.heap.size w wb := hBr.trans (hBb.mono (by omega))
                   have hsb : W.heap.size ≤ wb.heap.size := by have h := hg1.size; simp only [World.size_alloc] at h; omega
                   clear hown1 hown2 hg1)
      go_roundw
      case rel => exact ⟨i + 1, .slice Aw (n2 + 1 + (i + 1)) cw, by go_num, by omega, Lib.hid (HFb.out.far (by simp) _), Lib.hid (HGb.out.put 3 (.slice Aw (n2 + 1 + (i + 1)) cw)), Lib.hid (ownsRow_setCell_below HOb.out (show w.heap.size + 1 < W.heap.size from hlg) _), hAb.setCell (by simp) _, by simp only [World.size_setCell]; exact hsb⟩
      case measure => simp [intOf]; omega
    · obtain rfl : i = p.toNat := by omega
      have HBG := Lib.hid (bs_own HOr.out (by simp; have := HN2.out; omega))
      generalize n2 + 1 + p.toNat = ng at *
      have hVr := HV.out.below hBr (Nat.le_refl _)
      have HVr := Lib.hid hVr
      clear hVr hlt hip
      have a0 : wr.cell? ⟨w.heap.size, 0, none⟩ = some (.int .i64 0) := HFr.out.cell 0
      have a1 : wr.cell? ⟨w.heap.size, 1, none⟩ = some (.int .i64 0) := HFr.out.cell 1
      have a2 : wr.cell? ⟨w.heap.size, 2, none⟩ = some (.int .i64 K) := HFr.out.cell 2
      have a3 : wr.cell? ⟨w.heap.size, 3, none⟩ = some (.slice A2 n2 c2) := HFr.out.cell 3
      go_upto_region 16 with (go_at_call 10; refine (of_is 0 0 K _ B _ HVr.out HYB.out _ _ _ _ _ _ _ _ _ _ _ _ _ _ _ HO1).mono ?_; rintro e w1 ⟨⟨Ab1, cb1, As1, cs1, rfl, hob1, hsv1⟩, hB1⟩; have hs1 := hB1.size; have hob1' := bs_own hob1 rfl; have HGw := Lib.hid (HGr.out.below hB1 (by omega)))
      have hAw := hBr.trans (hB1.mono hbr)
      have hsw := hAw.size
      have HBGw := Lib.hid (HBG.out.below hB1 (Nat.le_refl _))
      refine wp_forget (fun W => Below w.heap.size w W ∧ w1.heap.size + 1 < W.heap.size ∧ Hid (Blk W (w.heap.size + 1) 32 (fC 0 8 K (.slice Av' ng cv'))) ∧ Hid (Blk W w1.heap.size 26 #[.int .i64 0, .int .i64 K, .bool false, .bool false, .bool false, .slice Ab1 B.length cb1, .int .i64 0, .int .i64 0, .int .i64 0, .int .i64 (n2 : Int), .slice As1 0 cs1]) ∧ Hid (Blk W (w1.heap.size + 1) 28 #[.int .i64 0, .int .i64 0, .int .i64 0]) ∧ Hid (BS W (.slice Ab1 B.length cb1) B) ∧ Hid (Rowy W (.slice As1 0 cs1) 0 2 (SV fun _ => (0, 0))) ∧ Hid (BS W (.slice Av' ng cv') (p :: (B ++ List.replicate p.toNat m)))) ⟨by go_grown, by go_size, Lib.hid ((HGw.out.alloc _).alloc _), Lib.hid ((Blk.new _ _ _).alloc _), Lib.hid (Blk.new_at (by go_size)), Lib.hid (hob1'.below (by go_grown) (Nat.le_refl _)), Lib.hid ((rowy_own hsv1).below (by go_grown) (Nat.le_refl _)), Lib.hid (HBGw.out.below (by go_grown) (Nat.le_refl _))⟩ ?_
      clear HGw hAw hsw HBGw hob1' hob1 hsv1 hB1 hs1 HGr HFr HOr HVr HBG hBr hbr hsr g3 a0 a1 a2 a3
      rintro W4 ⟨hA4, hl4, HG4, HP1, HX1, HD1, HS1, HBG4⟩
      generalize w1.heap.size = gp at *
      have hs4 := hA4.size
      have hlG := HG4.out.lt
      have a0 : W4.cell? ⟨w.heap.size + 1, 0, none⟩ = some (.int .i64 0) := HG4.out.cell 0
      have a1 : W4.cell? ⟨w.heap.size + 1, 1, none⟩ = some (.int .i64 8) := HG4.out.cell 1
      have a2 : W4.cell? ⟨w.heap.size + 1, 2, none⟩ = some (.int .i64 K) := HG4.out.cell 2
      have a3 : W4.cell? ⟨w.heap.size + 1, 3, none⟩ = some (.slice Av' ng cv') := HG4.out.cell 3
      go_upto_region 17 with (go_at_call 10; refine (of_is 0 8 K _ (p :: (B ++ List.replicate p.toNat m)) _ HBG4.out HYG.out _ _ _ _ _ _ _ _ _ _ _ _ _ _ _ HO2).mono ?_; rintro e w2 ⟨⟨Ab2, cb2, As2, cs2, rfl, hob2, hsv2⟩, hB2⟩; have hs2 := hB2.size; have hob2' := bs_own hob2 rfl; have hP1' := HP1.out.below hB2 (by omega); have hX1' := HX1.out.below hB2 (by omega); have hD1' := HD1.out.below hB2 (Nat.le_refl _); have hS1' := HS1.out.below hB2 (Nat.le_refl _))
      have hAw := hA4.trans (hB2.mono hs4)
      have hsw := hAw.size
      refine wp_forget (fun W => Below w.heap.size w W ∧ w2.heap.size + 1 < W.heap.size ∧ Hid (Blk W gp 26 #[.int .i64 0, .int .i64 K, .bool false, .bool false, .bool false, .slice Ab1 B.length cb1, .int .i64 0, .int .i64 0, .int .i64 0, .int .i64 (n2 : Int), .slice As1 0 cs1]) ∧ Hid (Blk W (gp + 1) 28 #[.int .i64 0, .int .i64 0, .int .i64 0]) ∧ Hid (Blk W w2.heap.size 26 #[.int .i64 0, .int .i64 K, .bool false, .bool false, .bool false, .slice Ab2 B.length cb2, .int .i64 0, .int .i64 0, .int .i64 0, .int .i64 CG, .slice As2 0 cs2]) ∧ Hid (Blk W (w2.heap.size + 1) 28 #[.int .i64 0, .int .i64 0, .int .i64 0]) ∧ gp + 1 < w2.heap.size ∧ Below w2.heap.size w2 W) ⟨by go_grown, by go_size, Lib.hid ((hP1'.alloc _).alloc _), Lib.hid ((hX1'.alloc _).alloc _), Lib.hid ((Blk.new _ _ _).alloc _), Lib.hid (Blk.new_at (by go_size)), by omega, by go_grown⟩ ?_
      have HE1 := Lib.hid hD1'
      have HT1 := Lib.hid hS1'
      have HE2 := Lib.hid hob2'
      have HT2 := Lib.hid (rowy_own hsv2)
      clear hAw hob2' hob2 hsv2 hB2 hs2 HG4 HP1 HX1 HD1 HS1 HBG4 hA4 hl4 hs4 hlG hP1' hX1' hD1' hS1' a0 a1 a2 a3
      rintro W5 ⟨hA5, hl5, HP1, HX1, HP2, HX2, hgg, hBw⟩
      obtain ⟨gq, hgq⟩ : ∃ gq, w2.heap.size = gq := ⟨_, rfl⟩
      have HGQ := Lib.hid hgq
      rw [hgq] at HP2 HX2 hl5 hgg hBw hsw ⊢
      clear hgq
      have hs5 := hA5.size
      have hq1 : gq ≠ gp := by omega
      have a0 : W5.cell? ⟨gp, 0, none⟩ = some (.int .i64 0) := HP1.out.cell 0
      have a1 : W5.cell? ⟨gp, 1, none⟩ = some (.int .i64 K) := HP1.out.cell 1
      have a2 : W5.cell? ⟨gp, 2, none⟩ = some (.bool false) := HP1.out.cell 2
      have a3 : W5.cell? ⟨gp, 3, none⟩ = some (.bool false) := HP1.out.cell 3
      have a4 : W5.cell? ⟨gp, 4, none⟩ = some (.bool false) := HP1.out.cell 4
      have a5 : W5.cell? ⟨gp, 5, none⟩ = some (.slice Ab1 B.length cb1) := HP1.out.cell 5
      have a6 : W5.cell? ⟨gp, 6, none⟩ = some (.int .i64 0) := HP1.out.cell 6
      have a7 : W5.cell? ⟨gp, 7, none⟩ = some (.int .i64 0) := HP1.out.cell 7
      have a8 : W5.cell? ⟨gp, 8, none⟩ = some (.int .i64 0) := HP1.out.cell 8
      have a9 : W5.cell? ⟨gp, 9, none⟩ = some (.int .i64 (n2 : Int)) := HP1.out.cell 9
      have a10 : W5.cell? ⟨gp, 10, none⟩ = some (.slice As1 0 cs1) := HP1.out.cell 10
      have b0 : W5.cell? ⟨gp + 1, 0, none⟩ = some (.int .i64 0) := HX1.out.cell 0
      have b1 : W5.cell? ⟨gp + 1, 1, none⟩ = some (.int .i64 0) := HX1.out.cell 1
      have b2 : W5.cell? ⟨gp + 1, 2, none⟩ = some (.int .i64 0) := HX1.out.cell 2
      have d0 : W5.cell? ⟨gq, 0, none⟩ = some (.int .i64 0) := HP2.out.cell 0
      have d1 : W5.cell? ⟨gq, 1, none⟩ = some (.int .i64 K) := HP2.out.cell 1
      have d2 : W5.cell? ⟨gq, 2, none⟩ = some (.bool false) := HP2.out.cell 2
      have d3 : W5.cell? ⟨gq, 3, none⟩ = some (.bool false) := HP2.out.cell 3
      have d4 : W5.cell? ⟨gq, 4, none⟩ = some (.bool false) := HP2.out.cell 4
      have d5 : W5.cell? ⟨gq, 5, none⟩ = some (.slice Ab2 B.length cb2) := HP2.out.cell 5
      have d6 : W5.cell? ⟨gq, 6, none⟩ = some (.int .i64 0) := HP2.out.cell 6
      have d7 : W5.cell? ⟨gq, 7, none⟩ = some (.int .i64 0) := HP2.out.cell 7
      have d8 : W5.cell? ⟨gq, 8, none⟩ = some (.int .i64 0) := HP2.out.cell 8
      have d9 : W5.cell? ⟨gq, 9, none⟩ = some (.int .i64 CG) := HP2.out.cell 9
      have d10 : W5.cell? ⟨gq, 10, none⟩ = some (.slice As2 0 cs2) := HP2.out.cell 10
      have x0 : W5.cell? ⟨gq + 1, 0, none⟩ = some (.int .i64 0) := HX2.out.cell 0
      have x1 : W5.cell? ⟨gq + 1, 1, none⟩ = some (.int .i64 0) := HX2.out.cell 1
      have x2 : W5.cell? ⟨gq + 1, 2, none⟩ = some (.int .i64 0) := HX2.out.cell 2
      have d9' : W5.frozen? ⟨gq, 9, none⟩ = false := HP2.out.frozen 9
      have hcg := HCG.out
      go_wp2_with (first
        | (go_at_call 12; refine (parts_any _ _ _ _ _ _ _ _ _ _ _ _ _ B 0 (fun _ => (0, 0)) _ (HE1.out.below (hBw.setCell (Nat.le_refl _) _) (Nat.le_of_eq HGQ.out)) (HE2.out.below (hBw.setCell (Nat.le_refl _) _) (Nat.le_of_eq HGQ.out)) (HT1.out.below (hBw.setCell (Nat.le_refl _) _) (Nat.le_of_eq HGQ.out)) (HT2.out.below (hBw.setCell (Nat.le_refl _) _) (Nat.le_of_eq HGQ.out))).mono ?_; rintro e w6 ⟨rfl, hB6⟩; have hA6 : Below w.heap.size w w6 := Below.trans (hA5.setCell (by simp; omega) _) (hB6.mono (by simp only [World.size_setCell]; exact hs5)); have hs6 := hA6.size)
        | (go_at_call 3; refine (runs_any _).mono ?_; rintro e w7 ⟨rfl, hB7⟩))
      go_ret
      exact ⟨rfl, hA6.trans (hB7.mono hs6)⟩
theorem pads_any (hd en : Bool) (s p m : Int) (A : Option Addr) (len cap : Nat) (L : List Int) (w : World) (s0 : -9223372036854775808 ≤ s) (s1 : s ≤ 9223372036854775807) (p0 : 0 ≤ p) (p1 : p ≤ 255) (m0 : 0 ≤ m) (m1 : m ≤ 255)
    (hR : BS w (.slice A len cap) L) (hb : Byt L) :
    Calls Try.prog 6 #[.bool hd, .bool en, .int .i64 s, .slice A len cap, .int .u8 p, .int .u8 m] w fun e w' => e = .returned (.bool true) ∧ Below w.heap.size w w' := by
  obtain ⟨_, _, he, _⟩ := id hR
  cases he
  by_cases hl : 300 < L.length
  · cases hd <;> cases en
    · exact pads_dnb s p m _ A _ cap L w s0 s1 p0 p1 m0 m1 hR rfl hb rfl hl
    · exact pads_deb s p m _ A _ cap L w s0 s1 p0 p1 m0 m1 hR rfl hb rfl hl
    · exact pads_hnb s p m _ A _ cap L w s0 s1 p0 p1 m0 m1 hR rfl hb rfl hl
    · exact pads_heb s p m _ A _ cap L w s0 s1 p0 p1 m0 m1 hR rfl hb rfl hl
  · cases hd <;> cases en
    · exact pads_dns s p m _ A _ cap L w s0 s1 p0 p1 m0 m1 hR rfl hb rfl hl
    · exact pads_des s p m _ A _ cap L w s0 s1 p0 p1 m0 m1 hR rfl hb rfl hl
    · exact pads_hns s p m _ A _ cap L w s0 s1 p0 p1 m0 m1 hR rfl hb rfl hl
    · exact pads_hes s p m _ A _ cap L w s0 s1 p0 p1 m0 m1 hR rfl hb rfl hl
end Go.Proofs.Ytolpfbdklcjlkaa
